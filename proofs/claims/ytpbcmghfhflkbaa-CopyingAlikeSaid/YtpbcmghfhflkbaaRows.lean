/-
  No cell of these rows narrows 'for every input' (looked for: loops, veiled, ifaces, maps, wideKeys, modest, calm, conditions, laid).
  DERIVED. THE GIVEN ROWS OF THIS SEAT. 12 by the template 'for every input the law returns true; each argument reads behind the call as it read before'; 0 by the template 'total and deterministic' (their statements: YtpbcmghfhflkbaaTotals.lean).
  GIVEN WITH THE SEED: the statements are not yours to turn. If you find one false, say at which input.
  Laid BY PROGRAM, IN A SANDBOX (cutbox-rows.mjs): the forced cells as the released guide's own fill.sh prints them over the translation d7b7274675ec1af0… (all of the seat's roots in one cut). By AI agents, Wed Nov 11 2026. No macro, syntax, notation, axiom, sorry.
-/
import Derived.Test.YtpbcmghfhflkbaaChecked
import GoSem.Claim
import GoSem.ClaimJoined
import GoSem.ClaimMapViews
import Derived.JoinedTies
import Derived.KernelRfl
namespace Go.Proofs.Ytpbcmghfhflkbaa
/- THE CELL 'sum', in the pinned program and in every row, IS THE sha256 OF THE DUMP (.gsa) THAT YtpbcmghfhflkbaaProg.lean LOADS. Nothing in Lean hashes anything: it is a label: what it is worth is what the hold of that sum in a sandbox is worth. -/
noncomputable def Try.pinned : Pinned := { name := "ytpbcmghfhflkbaa", sum := "d7b7274675ec1af06b0250819ea2929de7b65555dcc5a56ded19949b567ee5aa", checked := Try.checked }
namespace Rows
def none {H : Type} : Left H := { results := [], args := [] }

/-- 'twainlaw07.SlotsActs': WHATEVER THE INPUT: true; the input reads as it did. -/
def slotsActsSpec : ChangeSpec := { name := "slotsActs", fn := fun _ => fun
  | [d1, d2] => { results := [.lit (.bool true)], args := [d1, d2] }
  | _ => none }
def slotsActsRow : OpenClaim := { program := "ytpbcmghfhflkbaa", sum := "d7b7274675ec1af06b0250819ea2929de7b65555dcc5a56ded19949b567ee5aa", func := "twain/twainlaw07.SlotsActs", spec := "slotsActs", unfollowed := true, recurses := true, plainKeys := false, apart := false }
def SlotsActsSaid : Prop := slotsActsRow.holds Try.pinned (OpenSpec.ofChange slotsActsSpec)

/-- ITS FALSE NEIGHBOUR: 'it returns false'. Refute it at one input. -/
def slotsActsWrong : ChangeSpec := { name := "slotsActs", fn := fun _ => fun
  | [d1, d2] => { results := [.lit (.bool false)], args := [d1, d2] }
  | _ => none }
def SlotsActsWrongFalsely : Prop := slotsActsRow.holds Try.pinned (OpenSpec.ofChange slotsActsWrong)

/-- 'twainlaw07.SlotsSafe': WHATEVER THE INPUT: true; the input reads as it did. -/
def slotsSafeSpec : ChangeSpec := { name := "slotsSafe", fn := fun _ => fun
  | [d1, d2] => { results := [.lit (.bool true)], args := [d1, d2] }
  | _ => none }
def slotsSafeRow : OpenClaim := { program := "ytpbcmghfhflkbaa", sum := "d7b7274675ec1af06b0250819ea2929de7b65555dcc5a56ded19949b567ee5aa", func := "twain/twainlaw07.SlotsSafe", spec := "slotsSafe", unfollowed := true, recurses := true, plainKeys := false, apart := false }
def SlotsSafeSaid : Prop := slotsSafeRow.holds Try.pinned (OpenSpec.ofChange slotsSafeSpec)

/-- ITS FALSE NEIGHBOUR: 'it returns false'. Refute it at one input. -/
def slotsSafeWrong : ChangeSpec := { name := "slotsSafe", fn := fun _ => fun
  | [d1, d2] => { results := [.lit (.bool false)], args := [d1, d2] }
  | _ => none }
def SlotsSafeWrongFalsely : Prop := slotsSafeRow.holds Try.pinned (OpenSpec.ofChange slotsSafeWrong)

/-- 'twainlaw08.SuperActs': WHATEVER THE INPUT: true; the input reads as it did. -/
def superActsSpec : ChangeSpec := { name := "superActs", fn := fun _ => fun
  | [d1, d2] => { results := [.lit (.bool true)], args := [d1, d2] }
  | _ => none }
def superActsRow : OpenClaim := { program := "ytpbcmghfhflkbaa", sum := "d7b7274675ec1af06b0250819ea2929de7b65555dcc5a56ded19949b567ee5aa", func := "twain/twainlaw08.SuperActs", spec := "superActs", unfollowed := true, recurses := true, plainKeys := false, apart := false }
def SuperActsSaid : Prop := superActsRow.holds Try.pinned (OpenSpec.ofChange superActsSpec)

/-- ITS FALSE NEIGHBOUR: 'it returns false'. Refute it at one input. -/
def superActsWrong : ChangeSpec := { name := "superActs", fn := fun _ => fun
  | [d1, d2] => { results := [.lit (.bool false)], args := [d1, d2] }
  | _ => none }
def SuperActsWrongFalsely : Prop := superActsRow.holds Try.pinned (OpenSpec.ofChange superActsWrong)

/-- 'twainlaw08.SuperRises': WHATEVER THE INPUT: true; the input reads as it did. -/
def superRisesSpec : ChangeSpec := { name := "superRises", fn := fun _ => fun
  | [d] => { results := [.lit (.bool true)], args := [d] }
  | _ => none }
def superRisesRow : OpenClaim := { program := "ytpbcmghfhflkbaa", sum := "d7b7274675ec1af06b0250819ea2929de7b65555dcc5a56ded19949b567ee5aa", func := "twain/twainlaw08.SuperRises", spec := "superRises", unfollowed := true, recurses := true, plainKeys := false, apart := false }
def SuperRisesSaid : Prop := superRisesRow.holds Try.pinned (OpenSpec.ofChange superRisesSpec)

/-- ITS FALSE NEIGHBOUR: 'it returns false'. Refute it at one input. -/
def superRisesWrong : ChangeSpec := { name := "superRises", fn := fun _ => fun
  | [d] => { results := [.lit (.bool false)], args := [d] }
  | _ => none }
def SuperRisesWrongFalsely : Prop := superRisesRow.holds Try.pinned (OpenSpec.ofChange superRisesWrong)

/-- 'twainlaw10.ActlogActs': WHATEVER THE INPUT: true; the input reads as it did. -/
def actlogActsSpec : ChangeSpec := { name := "actlogActs", fn := fun _ => fun
  | [d1, d2] => { results := [.lit (.bool true)], args := [d1, d2] }
  | _ => none }
def actlogActsRow : OpenClaim := { program := "ytpbcmghfhflkbaa", sum := "d7b7274675ec1af06b0250819ea2929de7b65555dcc5a56ded19949b567ee5aa", func := "twain/twainlaw10.ActlogActs", spec := "actlogActs", unfollowed := true, recurses := true, plainKeys := false, apart := false }
def ActlogActsSaid : Prop := actlogActsRow.holds Try.pinned (OpenSpec.ofChange actlogActsSpec)

/-- ITS FALSE NEIGHBOUR: 'it returns false'. Refute it at one input. -/
def actlogActsWrong : ChangeSpec := { name := "actlogActs", fn := fun _ => fun
  | [d1, d2] => { results := [.lit (.bool false)], args := [d1, d2] }
  | _ => none }
def ActlogActsWrongFalsely : Prop := actlogActsRow.holds Try.pinned (OpenSpec.ofChange actlogActsWrong)

/-- 'twainlaw10.ActlogSafe': WHATEVER THE INPUT: true; the input reads as it did. -/
def actlogSafeSpec : ChangeSpec := { name := "actlogSafe", fn := fun _ => fun
  | [d1, d2, d3] => { results := [.lit (.bool true)], args := [d1, d2, d3] }
  | _ => none }
def actlogSafeRow : OpenClaim := { program := "ytpbcmghfhflkbaa", sum := "d7b7274675ec1af06b0250819ea2929de7b65555dcc5a56ded19949b567ee5aa", func := "twain/twainlaw10.ActlogSafe", spec := "actlogSafe", unfollowed := true, recurses := true, plainKeys := false, apart := false }
def ActlogSafeSaid : Prop := actlogSafeRow.holds Try.pinned (OpenSpec.ofChange actlogSafeSpec)

/-- ITS FALSE NEIGHBOUR: 'it returns false'. Refute it at one input. -/
def actlogSafeWrong : ChangeSpec := { name := "actlogSafe", fn := fun _ => fun
  | [d1, d2, d3] => { results := [.lit (.bool false)], args := [d1, d2, d3] }
  | _ => none }
def ActlogSafeWrongFalsely : Prop := actlogSafeRow.holds Try.pinned (OpenSpec.ofChange actlogSafeWrong)

/-- 'twainlaw11.DirtySafe': WHATEVER THE INPUT: true; the input reads as it did. -/
def dirtySafeSpec : ChangeSpec := { name := "dirtySafe", fn := fun _ => fun
  | [d1, d2, d3] => { results := [.lit (.bool true)], args := [d1, d2, d3] }
  | _ => none }
def dirtySafeRow : OpenClaim := { program := "ytpbcmghfhflkbaa", sum := "d7b7274675ec1af06b0250819ea2929de7b65555dcc5a56ded19949b567ee5aa", func := "twain/twainlaw11.DirtySafe", spec := "dirtySafe", unfollowed := true, recurses := true, plainKeys := false, apart := false }
def DirtySafeSaid : Prop := dirtySafeRow.holds Try.pinned (OpenSpec.ofChange dirtySafeSpec)

/-- ITS FALSE NEIGHBOUR: 'it returns false'. Refute it at one input. -/
def dirtySafeWrong : ChangeSpec := { name := "dirtySafe", fn := fun _ => fun
  | [d1, d2, d3] => { results := [.lit (.bool false)], args := [d1, d2, d3] }
  | _ => none }
def DirtySafeWrongFalsely : Prop := dirtySafeRow.holds Try.pinned (OpenSpec.ofChange dirtySafeWrong)

/-- 'twainlaw13.MetaRetires': WHATEVER THE INPUT: true; the input reads as it did. -/
def metaRetiresSpec : ChangeSpec := { name := "metaRetires", fn := fun _ => fun
  | [d] => { results := [.lit (.bool true)], args := [d] }
  | _ => none }
def metaRetiresRow : OpenClaim := { program := "ytpbcmghfhflkbaa", sum := "d7b7274675ec1af06b0250819ea2929de7b65555dcc5a56ded19949b567ee5aa", func := "twain/twainlaw13.MetaRetires", spec := "metaRetires", unfollowed := true, recurses := true, plainKeys := false, apart := false }
def MetaRetiresSaid : Prop := metaRetiresRow.holds Try.pinned (OpenSpec.ofChange metaRetiresSpec)

/-- ITS FALSE NEIGHBOUR: 'it returns false'. Refute it at one input. -/
def metaRetiresWrong : ChangeSpec := { name := "metaRetires", fn := fun _ => fun
  | [d] => { results := [.lit (.bool false)], args := [d] }
  | _ => none }
def MetaRetiresWrongFalsely : Prop := metaRetiresRow.holds Try.pinned (OpenSpec.ofChange metaRetiresWrong)

/-- 'twainlaw29.CopyingAlike': WHATEVER THE INPUT: true; the input reads as it did. -/
def copyingAlikeSpec : ChangeSpec := { name := "copyingAlike", fn := fun _ => fun
  | [d1, d2, d3] => { results := [.lit (.bool true)], args := [d1, d2, d3] }
  | _ => none }
def copyingAlikeRow : OpenClaim := { program := "ytpbcmghfhflkbaa", sum := "d7b7274675ec1af06b0250819ea2929de7b65555dcc5a56ded19949b567ee5aa", func := "twain/twainlaw29.CopyingAlike", spec := "copyingAlike", unfollowed := true, recurses := true, plainKeys := false, apart := false }
def CopyingAlikeSaid : Prop := copyingAlikeRow.holds Try.pinned (OpenSpec.ofChange copyingAlikeSpec)

/-- ITS FALSE NEIGHBOUR: 'it returns false'. Refute it at one input. -/
def copyingAlikeWrong : ChangeSpec := { name := "copyingAlike", fn := fun _ => fun
  | [d1, d2, d3] => { results := [.lit (.bool false)], args := [d1, d2, d3] }
  | _ => none }
def CopyingAlikeWrongFalsely : Prop := copyingAlikeRow.holds Try.pinned (OpenSpec.ofChange copyingAlikeWrong)

/-- 'twainlaw15.TableActs': WHATEVER THE INPUT: true; the input reads as it did. -/
def tableActsSpec : ChangeSpec := { name := "tableActs", fn := fun _ => fun
  | [d1, d2] => { results := [.lit (.bool true)], args := [d1, d2] }
  | _ => none }
def tableActsRow : OpenClaim := { program := "ytpbcmghfhflkbaa", sum := "d7b7274675ec1af06b0250819ea2929de7b65555dcc5a56ded19949b567ee5aa", func := "twain/twainlaw15.TableActs", spec := "tableActs", unfollowed := true, recurses := true, plainKeys := false, apart := false }
def TableActsSaid : Prop := tableActsRow.holds Try.pinned (OpenSpec.ofChange tableActsSpec)

/-- ITS FALSE NEIGHBOUR: 'it returns false'. Refute it at one input. -/
def tableActsWrong : ChangeSpec := { name := "tableActs", fn := fun _ => fun
  | [d1, d2] => { results := [.lit (.bool false)], args := [d1, d2] }
  | _ => none }
def TableActsWrongFalsely : Prop := tableActsRow.holds Try.pinned (OpenSpec.ofChange tableActsWrong)

/-- 'twainlaw22.SessionActs': WHATEVER THE INPUT: true; the input reads as it did. -/
def sessionActsSpec : ChangeSpec := { name := "sessionActs", fn := fun _ => fun
  | [d1, d2] => { results := [.lit (.bool true)], args := [d1, d2] }
  | _ => none }
def sessionActsRow : OpenClaim := { program := "ytpbcmghfhflkbaa", sum := "d7b7274675ec1af06b0250819ea2929de7b65555dcc5a56ded19949b567ee5aa", func := "twain/twainlaw22.SessionActs", spec := "sessionActs", unfollowed := true, recurses := true, plainKeys := false, apart := false }
def SessionActsSaid : Prop := sessionActsRow.holds Try.pinned (OpenSpec.ofChange sessionActsSpec)

/-- ITS FALSE NEIGHBOUR: 'it returns false'. Refute it at one input. -/
def sessionActsWrong : ChangeSpec := { name := "sessionActs", fn := fun _ => fun
  | [d1, d2] => { results := [.lit (.bool false)], args := [d1, d2] }
  | _ => none }
def SessionActsWrongFalsely : Prop := sessionActsRow.holds Try.pinned (OpenSpec.ofChange sessionActsWrong)

/-- 'twainlaw22.SessionOrder': WHATEVER THE INPUT: true; the input reads as it did. -/
def sessionOrderSpec : ChangeSpec := { name := "sessionOrder", fn := fun _ => fun
  | [d1, d2] => { results := [.lit (.bool true)], args := [d1, d2] }
  | _ => none }
def sessionOrderRow : OpenClaim := { program := "ytpbcmghfhflkbaa", sum := "d7b7274675ec1af06b0250819ea2929de7b65555dcc5a56ded19949b567ee5aa", func := "twain/twainlaw22.SessionOrder", spec := "sessionOrder", unfollowed := true, recurses := true, plainKeys := false, apart := false }
def SessionOrderSaid : Prop := sessionOrderRow.holds Try.pinned (OpenSpec.ofChange sessionOrderSpec)

/-- ITS FALSE NEIGHBOUR: 'it returns false'. Refute it at one input. -/
def sessionOrderWrong : ChangeSpec := { name := "sessionOrder", fn := fun _ => fun
  | [d1, d2] => { results := [.lit (.bool false)], args := [d1, d2] }
  | _ => none }
def SessionOrderWrongFalsely : Prop := sessionOrderRow.holds Try.pinned (OpenSpec.ofChange sessionOrderWrong)

/- THE SECOND FORM. 'bulk': how many values and letters a reading holds, each counted each time it is reached (what is shared counts as often as it is met; a slice's spare places count too). A statement '..UptoSaid' is the law's where the arguments, and the package variables that the reading takes, are together of bulk at most 1048576: NARROWER than '..Said'. Prove '..Said' where nothing that the law and all that it calls make is longer than what came in: it says more and counts as full. Else prove '..UptoSaid'. A law counts once. -/
mutual
def uptoBulk {H : Type} : DataW H → Nat
  | .lit (.string bytes) => bytes.length + 1
  | .lit _ => 1
  | .nil => 1
  | .ptr d => uptoBulk d + 1
  | .slice elems spare => uptoBulkAll elems + uptoBulkAll spare + 1
  | .agg parts => uptoBulkAll parts + 1
  | .iface _ d => uptoBulk d + 1
  | .map entries => uptoBulkEntries entries + 1
  | .held _ => 1
def uptoBulkAll {H : Type} : List (DataW H) → Nat
  | [] => 0
  | d :: r => uptoBulk d + uptoBulkAll r
def uptoBulkEntries {H : Type} : List (Lit × DataW H) → Nat
  | [] => 0
  | x :: r => uptoBulkEntry x + uptoBulkEntries r
def uptoBulkEntry {H : Type} : Lit × DataW H → Nat
  | (.string bytes, d) => bytes.length + uptoBulk d + 1
  | (_, d) => uptoBulk d + 1
 end
def uptoSmall : (H : Type) → List (DataW H) → Bool := fun _ ds => decide (uptoBulkAll ds ≤ 1048576)
def OpenSpec.upto (s : _root_.Go.ChangeSpec) : _root_.Go.OpenSpec := { _root_.Go.OpenSpec.ofChange s with cond := some uptoSmall }

/-- 'twainlaw07.SlotsActs', WHERE WHAT IT READS IS OF BULK AT MOST 1048576: true; the input reads as it did. -/
def slotsActsUptoRow : OpenClaim := { program := "ytpbcmghfhflkbaa", sum := "d7b7274675ec1af06b0250819ea2929de7b65555dcc5a56ded19949b567ee5aa", func := "twain/twainlaw07.SlotsActs", spec := "slotsActs", unfollowed := true, recurses := true, plainKeys := false, apart := false, narrowed := true }
def SlotsActsUptoSaid : Prop := slotsActsUptoRow.holds Try.pinned (OpenSpec.upto slotsActsSpec)

/-- 'twainlaw07.SlotsSafe', WHERE WHAT IT READS IS OF BULK AT MOST 1048576: true; the input reads as it did. -/
def slotsSafeUptoRow : OpenClaim := { program := "ytpbcmghfhflkbaa", sum := "d7b7274675ec1af06b0250819ea2929de7b65555dcc5a56ded19949b567ee5aa", func := "twain/twainlaw07.SlotsSafe", spec := "slotsSafe", unfollowed := true, recurses := true, plainKeys := false, apart := false, narrowed := true }
def SlotsSafeUptoSaid : Prop := slotsSafeUptoRow.holds Try.pinned (OpenSpec.upto slotsSafeSpec)

/-- 'twainlaw08.SuperActs', WHERE WHAT IT READS IS OF BULK AT MOST 1048576: true; the input reads as it did. -/
def superActsUptoRow : OpenClaim := { program := "ytpbcmghfhflkbaa", sum := "d7b7274675ec1af06b0250819ea2929de7b65555dcc5a56ded19949b567ee5aa", func := "twain/twainlaw08.SuperActs", spec := "superActs", unfollowed := true, recurses := true, plainKeys := false, apart := false, narrowed := true }
def SuperActsUptoSaid : Prop := superActsUptoRow.holds Try.pinned (OpenSpec.upto superActsSpec)

/-- 'twainlaw08.SuperRises', WHERE WHAT IT READS IS OF BULK AT MOST 1048576: true; the input reads as it did. -/
def superRisesUptoRow : OpenClaim := { program := "ytpbcmghfhflkbaa", sum := "d7b7274675ec1af06b0250819ea2929de7b65555dcc5a56ded19949b567ee5aa", func := "twain/twainlaw08.SuperRises", spec := "superRises", unfollowed := true, recurses := true, plainKeys := false, apart := false, narrowed := true }
def SuperRisesUptoSaid : Prop := superRisesUptoRow.holds Try.pinned (OpenSpec.upto superRisesSpec)

/-- 'twainlaw10.ActlogActs', WHERE WHAT IT READS IS OF BULK AT MOST 1048576: true; the input reads as it did. -/
def actlogActsUptoRow : OpenClaim := { program := "ytpbcmghfhflkbaa", sum := "d7b7274675ec1af06b0250819ea2929de7b65555dcc5a56ded19949b567ee5aa", func := "twain/twainlaw10.ActlogActs", spec := "actlogActs", unfollowed := true, recurses := true, plainKeys := false, apart := false, narrowed := true }
def ActlogActsUptoSaid : Prop := actlogActsUptoRow.holds Try.pinned (OpenSpec.upto actlogActsSpec)

/-- 'twainlaw10.ActlogSafe', WHERE WHAT IT READS IS OF BULK AT MOST 1048576: true; the input reads as it did. -/
def actlogSafeUptoRow : OpenClaim := { program := "ytpbcmghfhflkbaa", sum := "d7b7274675ec1af06b0250819ea2929de7b65555dcc5a56ded19949b567ee5aa", func := "twain/twainlaw10.ActlogSafe", spec := "actlogSafe", unfollowed := true, recurses := true, plainKeys := false, apart := false, narrowed := true }
def ActlogSafeUptoSaid : Prop := actlogSafeUptoRow.holds Try.pinned (OpenSpec.upto actlogSafeSpec)

/-- 'twainlaw11.DirtySafe', WHERE WHAT IT READS IS OF BULK AT MOST 1048576: true; the input reads as it did. -/
def dirtySafeUptoRow : OpenClaim := { program := "ytpbcmghfhflkbaa", sum := "d7b7274675ec1af06b0250819ea2929de7b65555dcc5a56ded19949b567ee5aa", func := "twain/twainlaw11.DirtySafe", spec := "dirtySafe", unfollowed := true, recurses := true, plainKeys := false, apart := false, narrowed := true }
def DirtySafeUptoSaid : Prop := dirtySafeUptoRow.holds Try.pinned (OpenSpec.upto dirtySafeSpec)

/-- 'twainlaw13.MetaRetires', WHERE WHAT IT READS IS OF BULK AT MOST 1048576: true; the input reads as it did. -/
def metaRetiresUptoRow : OpenClaim := { program := "ytpbcmghfhflkbaa", sum := "d7b7274675ec1af06b0250819ea2929de7b65555dcc5a56ded19949b567ee5aa", func := "twain/twainlaw13.MetaRetires", spec := "metaRetires", unfollowed := true, recurses := true, plainKeys := false, apart := false, narrowed := true }
def MetaRetiresUptoSaid : Prop := metaRetiresUptoRow.holds Try.pinned (OpenSpec.upto metaRetiresSpec)

/-- 'twainlaw29.CopyingAlike', WHERE WHAT IT READS IS OF BULK AT MOST 1048576: true; the input reads as it did. -/
def copyingAlikeUptoRow : OpenClaim := { program := "ytpbcmghfhflkbaa", sum := "d7b7274675ec1af06b0250819ea2929de7b65555dcc5a56ded19949b567ee5aa", func := "twain/twainlaw29.CopyingAlike", spec := "copyingAlike", unfollowed := true, recurses := true, plainKeys := false, apart := false, narrowed := true }
def CopyingAlikeUptoSaid : Prop := copyingAlikeUptoRow.holds Try.pinned (OpenSpec.upto copyingAlikeSpec)

/-- 'twainlaw15.TableActs', WHERE WHAT IT READS IS OF BULK AT MOST 1048576: true; the input reads as it did. -/
def tableActsUptoRow : OpenClaim := { program := "ytpbcmghfhflkbaa", sum := "d7b7274675ec1af06b0250819ea2929de7b65555dcc5a56ded19949b567ee5aa", func := "twain/twainlaw15.TableActs", spec := "tableActs", unfollowed := true, recurses := true, plainKeys := false, apart := false, narrowed := true }
def TableActsUptoSaid : Prop := tableActsUptoRow.holds Try.pinned (OpenSpec.upto tableActsSpec)

/-- 'twainlaw22.SessionActs', WHERE WHAT IT READS IS OF BULK AT MOST 1048576: true; the input reads as it did. -/
def sessionActsUptoRow : OpenClaim := { program := "ytpbcmghfhflkbaa", sum := "d7b7274675ec1af06b0250819ea2929de7b65555dcc5a56ded19949b567ee5aa", func := "twain/twainlaw22.SessionActs", spec := "sessionActs", unfollowed := true, recurses := true, plainKeys := false, apart := false, narrowed := true }
def SessionActsUptoSaid : Prop := sessionActsUptoRow.holds Try.pinned (OpenSpec.upto sessionActsSpec)

/-- 'twainlaw22.SessionOrder', WHERE WHAT IT READS IS OF BULK AT MOST 1048576: true; the input reads as it did. -/
def sessionOrderUptoRow : OpenClaim := { program := "ytpbcmghfhflkbaa", sum := "d7b7274675ec1af06b0250819ea2929de7b65555dcc5a56ded19949b567ee5aa", func := "twain/twainlaw22.SessionOrder", spec := "sessionOrder", unfollowed := true, recurses := true, plainKeys := false, apart := false, narrowed := true }
def SessionOrderUptoSaid : Prop := sessionOrderUptoRow.holds Try.pinned (OpenSpec.upto sessionOrderSpec)

end Rows
end Go.Proofs.Ytpbcmghfhflkbaa
