/-
  No cell of these rows narrows 'for every input' (looked for: loops, veiled, ifaces, maps, wideKeys, modest, calm, conditions, laid).
  DERIVED. THE GIVEN ROWS OF THIS SEAT. 7 by the template 'for every input the law returns true; each argument reads behind the call as it read before'; 0 by the template 'total and deterministic' (their statements: YtaldlapnhhhclaaGreatTotals.lean).
  GIVEN WITH THE SEED: the statements are not yours to turn. If you find one false, say at which input.
  Laid BY PROGRAM, IN A SANDBOX (cutbox-rows.mjs): the forced cells as the released guide's own fill.sh prints them over the translation b16d83197d0f847f… (all of the seat's roots in one cut). By AI agents, Wed Nov 11 2026. No macro, syntax, notation, axiom, sorry.
-/
import Derived.Test.YtaldlapnhhhclaaGreatChecked
import GoSem.Claim
import GoSem.ClaimJoined
import GoSem.ClaimMapViews
import Derived.JoinedTies
import Derived.KernelRfl
namespace Go.Proofs.YtaldlapnhhhclaaGreat
/- THE CELL 'sum', in the pinned program and in every row, IS THE sha256 OF THE DUMP (.gsa) THAT YtaldlapnhhhclaaGreatProg.lean LOADS. Nothing in Lean hashes anything: it is a label: what it is worth is what the hold of that sum in a sandbox is worth. -/
noncomputable def Tryz.pinned : Pinned := { name := "ytaldlapnhhhclaagreat", sum := "b16d83197d0f847f7069b38bac287674edc3dd204394dd49776168796194e387", checked := Tryz.checked }
namespace Rows
def none {H : Type} : Left H := { results := [], args := [] }

/-- 'twainlaw30.ResyncNone': WHATEVER THE INPUT: true; the input reads as it did. -/
def resyncNoneSpec : ChangeSpec := { name := "resyncNone", fn := fun _ => fun
  | [d] => { results := [.lit (.bool true)], args := [d] }
  | _ => none }
def resyncNoneRow : OpenClaim := { program := "ytaldlapnhhhclaagreat", sum := "b16d83197d0f847f7069b38bac287674edc3dd204394dd49776168796194e387", func := "twain/twainlaw30.ResyncNone", spec := "resyncNone", unfollowed := true, recurses := true, apart := false }
def ResyncNoneSaid : Prop := resyncNoneRow.holds Tryz.pinned (OpenSpec.ofChange resyncNoneSpec)

/-- ITS FALSE NEIGHBOUR: 'it returns false'. Refute it at one input. -/
def resyncNoneWrong : ChangeSpec := { name := "resyncNone", fn := fun _ => fun
  | [d] => { results := [.lit (.bool false)], args := [d] }
  | _ => none }
def ResyncNoneWrongFalsely : Prop := resyncNoneRow.holds Tryz.pinned (OpenSpec.ofChange resyncNoneWrong)

/-- 'twainlaw11.DirtyActs': WHATEVER THE INPUT: true; the input reads as it did. -/
def dirtyActsSpec : ChangeSpec := { name := "dirtyActs", fn := fun _ => fun
  | [d1, d2] => { results := [.lit (.bool true)], args := [d1, d2] }
  | _ => none }
def dirtyActsRow : OpenClaim := { program := "ytaldlapnhhhclaagreat", sum := "b16d83197d0f847f7069b38bac287674edc3dd204394dd49776168796194e387", func := "twain/twainlaw11.DirtyActs", spec := "dirtyActs", unfollowed := true, recurses := true, apart := false }
def DirtyActsSaid : Prop := dirtyActsRow.holds Tryz.pinned (OpenSpec.ofChange dirtyActsSpec)

/-- ITS FALSE NEIGHBOUR: 'it returns false'. Refute it at one input. -/
def dirtyActsWrong : ChangeSpec := { name := "dirtyActs", fn := fun _ => fun
  | [d1, d2] => { results := [.lit (.bool false)], args := [d1, d2] }
  | _ => none }
def DirtyActsWrongFalsely : Prop := dirtyActsRow.holds Tryz.pinned (OpenSpec.ofChange dirtyActsWrong)

/-- 'twainlaw30.ResyncEnds': WHATEVER THE INPUT: true; the input reads as it did. -/
def resyncEndsSpec : ChangeSpec := { name := "resyncEnds", fn := fun _ => fun
  | [d1, d2] => { results := [.lit (.bool true)], args := [d1, d2] }
  | _ => none }
def resyncEndsRow : OpenClaim := { program := "ytaldlapnhhhclaagreat", sum := "b16d83197d0f847f7069b38bac287674edc3dd204394dd49776168796194e387", func := "twain/twainlaw30.ResyncEnds", spec := "resyncEnds", unfollowed := true, recurses := true, apart := false }
def ResyncEndsSaid : Prop := resyncEndsRow.holds Tryz.pinned (OpenSpec.ofChange resyncEndsSpec)

/-- ITS FALSE NEIGHBOUR: 'it returns false'. Refute it at one input. -/
def resyncEndsWrong : ChangeSpec := { name := "resyncEnds", fn := fun _ => fun
  | [d1, d2] => { results := [.lit (.bool false)], args := [d1, d2] }
  | _ => none }
def ResyncEndsWrongFalsely : Prop := resyncEndsRow.holds Tryz.pinned (OpenSpec.ofChange resyncEndsWrong)

/-- 'twainlaw13.MetaActs': WHATEVER THE INPUT: true; the input reads as it did. -/
def metaActsSpec : ChangeSpec := { name := "metaActs", fn := fun _ => fun
  | [d1, d2] => { results := [.lit (.bool true)], args := [d1, d2] }
  | _ => none }
def metaActsRow : OpenClaim := { program := "ytaldlapnhhhclaagreat", sum := "b16d83197d0f847f7069b38bac287674edc3dd204394dd49776168796194e387", func := "twain/twainlaw13.MetaActs", spec := "metaActs", unfollowed := true, recurses := true, apart := false }
def MetaActsSaid : Prop := metaActsRow.holds Tryz.pinned (OpenSpec.ofChange metaActsSpec)

/-- ITS FALSE NEIGHBOUR: 'it returns false'. Refute it at one input. -/
def metaActsWrong : ChangeSpec := { name := "metaActs", fn := fun _ => fun
  | [d1, d2] => { results := [.lit (.bool false)], args := [d1, d2] }
  | _ => none }
def MetaActsWrongFalsely : Prop := metaActsRow.holds Tryz.pinned (OpenSpec.ofChange metaActsWrong)

/-- 'twainlaw29.CopyingActs': WHATEVER THE INPUT: true; the input reads as it did. -/
def copyingActsSpec : ChangeSpec := { name := "copyingActs", fn := fun _ => fun
  | [d1, d2] => { results := [.lit (.bool true)], args := [d1, d2] }
  | _ => none }
def copyingActsRow : OpenClaim := { program := "ytaldlapnhhhclaagreat", sum := "b16d83197d0f847f7069b38bac287674edc3dd204394dd49776168796194e387", func := "twain/twainlaw29.CopyingActs", spec := "copyingActs", unfollowed := true, recurses := true, apart := false }
def CopyingActsSaid : Prop := copyingActsRow.holds Tryz.pinned (OpenSpec.ofChange copyingActsSpec)

/-- ITS FALSE NEIGHBOUR: 'it returns false'. Refute it at one input. -/
def copyingActsWrong : ChangeSpec := { name := "copyingActs", fn := fun _ => fun
  | [d1, d2] => { results := [.lit (.bool false)], args := [d1, d2] }
  | _ => none }
def CopyingActsWrongFalsely : Prop := copyingActsRow.holds Tryz.pinned (OpenSpec.ofChange copyingActsWrong)

/-- 'twainlaw30.ResyncActs': WHATEVER THE INPUT: true; the input reads as it did. -/
def resyncActsSpec : ChangeSpec := { name := "resyncActs", fn := fun _ => fun
  | [d1, d2] => { results := [.lit (.bool true)], args := [d1, d2] }
  | _ => none }
def resyncActsRow : OpenClaim := { program := "ytaldlapnhhhclaagreat", sum := "b16d83197d0f847f7069b38bac287674edc3dd204394dd49776168796194e387", func := "twain/twainlaw30.ResyncActs", spec := "resyncActs", unfollowed := true, recurses := true, apart := false }
def ResyncActsSaid : Prop := resyncActsRow.holds Tryz.pinned (OpenSpec.ofChange resyncActsSpec)

/-- ITS FALSE NEIGHBOUR: 'it returns false'. Refute it at one input. -/
def resyncActsWrong : ChangeSpec := { name := "resyncActs", fn := fun _ => fun
  | [d1, d2] => { results := [.lit (.bool false)], args := [d1, d2] }
  | _ => none }
def ResyncActsWrongFalsely : Prop := resyncActsRow.holds Tryz.pinned (OpenSpec.ofChange resyncActsWrong)

/-- 'twainlaw30.ResyncSafe': WHATEVER THE INPUT: true; the input reads as it did. -/
def resyncSafeSpec : ChangeSpec := { name := "resyncSafe", fn := fun _ => fun
  | [d1, d2, d3] => { results := [.lit (.bool true)], args := [d1, d2, d3] }
  | _ => none }
def resyncSafeRow : OpenClaim := { program := "ytaldlapnhhhclaagreat", sum := "b16d83197d0f847f7069b38bac287674edc3dd204394dd49776168796194e387", func := "twain/twainlaw30.ResyncSafe", spec := "resyncSafe", unfollowed := true, recurses := true, apart := false }
def ResyncSafeSaid : Prop := resyncSafeRow.holds Tryz.pinned (OpenSpec.ofChange resyncSafeSpec)

/-- ITS FALSE NEIGHBOUR: 'it returns false'. Refute it at one input. -/
def resyncSafeWrong : ChangeSpec := { name := "resyncSafe", fn := fun _ => fun
  | [d1, d2, d3] => { results := [.lit (.bool false)], args := [d1, d2, d3] }
  | _ => none }
def ResyncSafeWrongFalsely : Prop := resyncSafeRow.holds Tryz.pinned (OpenSpec.ofChange resyncSafeWrong)

/- THE SECOND FORM. 'bulk': how many values and letters a reading holds, each counted each time it is reached (what is shared counts as often as it is met; a slice's spare places count too). A statement '..UptoSaid' is the law's where the arguments, and the package variables that the reading takes, are together of bulk at most 1048576: NARROWER than '..Said'. Prove '..Said' where nothing that the law and all that it calls make is longer than what came in: it says more and counts as full. Else prove '..UptoSaid'. A law counts once. -/
mutual
def uptoBulk {H : Type} : DataW H → Nat
  | .lit (.string bytes) => bytes.length + 1
  | .lit _ => 1
  | .nil => 1
  | .ptr d => uptoBulk d + 1
  | .slice elems spare => uptoBulkAll elems + uptoBulkAll spare + 1
  | .agg parts => uptoBulkAll parts + 1
  | .iface _ d => uptoBulk d + 1
  | .map entries => uptoBulkEntries entries + 1
  | .held _ => 1
def uptoBulkAll {H : Type} : List (DataW H) → Nat
  | [] => 0
  | d :: r => uptoBulk d + uptoBulkAll r
def uptoBulkEntries {H : Type} : List (Lit × DataW H) → Nat
  | [] => 0
  | x :: r => uptoBulkEntry x + uptoBulkEntries r
def uptoBulkEntry {H : Type} : Lit × DataW H → Nat
  | (.string bytes, d) => bytes.length + uptoBulk d + 1
  | (_, d) => uptoBulk d + 1
 end
def uptoSmall : (H : Type) → List (DataW H) → Bool := fun _ ds => decide (uptoBulkAll ds ≤ 1048576)
def OpenSpec.upto (s : _root_.Go.ChangeSpec) : _root_.Go.OpenSpec := { _root_.Go.OpenSpec.ofChange s with cond := some uptoSmall }

/-- 'twainlaw30.ResyncNone', WHERE WHAT IT READS IS OF BULK AT MOST 1048576: true; the input reads as it did. -/
def resyncNoneUptoRow : OpenClaim := { program := "ytaldlapnhhhclaagreat", sum := "b16d83197d0f847f7069b38bac287674edc3dd204394dd49776168796194e387", func := "twain/twainlaw30.ResyncNone", spec := "resyncNone", unfollowed := true, recurses := true, apart := false, narrowed := true }
def ResyncNoneUptoSaid : Prop := resyncNoneUptoRow.holds Tryz.pinned (OpenSpec.upto resyncNoneSpec)

/-- 'twainlaw11.DirtyActs', WHERE WHAT IT READS IS OF BULK AT MOST 1048576: true; the input reads as it did. -/
def dirtyActsUptoRow : OpenClaim := { program := "ytaldlapnhhhclaagreat", sum := "b16d83197d0f847f7069b38bac287674edc3dd204394dd49776168796194e387", func := "twain/twainlaw11.DirtyActs", spec := "dirtyActs", unfollowed := true, recurses := true, apart := false, narrowed := true }
def DirtyActsUptoSaid : Prop := dirtyActsUptoRow.holds Tryz.pinned (OpenSpec.upto dirtyActsSpec)

/-- 'twainlaw30.ResyncEnds', WHERE WHAT IT READS IS OF BULK AT MOST 1048576: true; the input reads as it did. -/
def resyncEndsUptoRow : OpenClaim := { program := "ytaldlapnhhhclaagreat", sum := "b16d83197d0f847f7069b38bac287674edc3dd204394dd49776168796194e387", func := "twain/twainlaw30.ResyncEnds", spec := "resyncEnds", unfollowed := true, recurses := true, apart := false, narrowed := true }
def ResyncEndsUptoSaid : Prop := resyncEndsUptoRow.holds Tryz.pinned (OpenSpec.upto resyncEndsSpec)

/-- 'twainlaw13.MetaActs', WHERE WHAT IT READS IS OF BULK AT MOST 1048576: true; the input reads as it did. -/
def metaActsUptoRow : OpenClaim := { program := "ytaldlapnhhhclaagreat", sum := "b16d83197d0f847f7069b38bac287674edc3dd204394dd49776168796194e387", func := "twain/twainlaw13.MetaActs", spec := "metaActs", unfollowed := true, recurses := true, apart := false, narrowed := true }
def MetaActsUptoSaid : Prop := metaActsUptoRow.holds Tryz.pinned (OpenSpec.upto metaActsSpec)

/-- 'twainlaw29.CopyingActs', WHERE WHAT IT READS IS OF BULK AT MOST 1048576: true; the input reads as it did. -/
def copyingActsUptoRow : OpenClaim := { program := "ytaldlapnhhhclaagreat", sum := "b16d83197d0f847f7069b38bac287674edc3dd204394dd49776168796194e387", func := "twain/twainlaw29.CopyingActs", spec := "copyingActs", unfollowed := true, recurses := true, apart := false, narrowed := true }
def CopyingActsUptoSaid : Prop := copyingActsUptoRow.holds Tryz.pinned (OpenSpec.upto copyingActsSpec)

/-- 'twainlaw30.ResyncActs', WHERE WHAT IT READS IS OF BULK AT MOST 1048576: true; the input reads as it did. -/
def resyncActsUptoRow : OpenClaim := { program := "ytaldlapnhhhclaagreat", sum := "b16d83197d0f847f7069b38bac287674edc3dd204394dd49776168796194e387", func := "twain/twainlaw30.ResyncActs", spec := "resyncActs", unfollowed := true, recurses := true, apart := false, narrowed := true }
def ResyncActsUptoSaid : Prop := resyncActsUptoRow.holds Tryz.pinned (OpenSpec.upto resyncActsSpec)

/-- 'twainlaw30.ResyncSafe', WHERE WHAT IT READS IS OF BULK AT MOST 1048576: true; the input reads as it did. -/
def resyncSafeUptoRow : OpenClaim := { program := "ytaldlapnhhhclaagreat", sum := "b16d83197d0f847f7069b38bac287674edc3dd204394dd49776168796194e387", func := "twain/twainlaw30.ResyncSafe", spec := "resyncSafe", unfollowed := true, recurses := true, apart := false, narrowed := true }
def ResyncSafeUptoSaid : Prop := resyncSafeUptoRow.holds Tryz.pinned (OpenSpec.upto resyncSafeSpec)

end Rows
end Go.Proofs.YtaldlapnhhhclaaGreat
