/-
  No cell of these rows narrows 'for every input' (looked for: loops, veiled, ifaces, maps, wideKeys, modest, calm, conditions, laid).
  DERIVED. THE GIVEN ROWS OF THIS SEAT. 11 by the template 'for every input the law returns true; each argument reads behind the call as it read before'; 0 by the template 'total and deterministic' (their statements: YtplemdgihlabgaaTotals.lean).
  GIVEN WITH THE SEED: the statements are not yours to turn. If you find one false, say at which input.
  Laid BY PROGRAM, IN A SANDBOX (cutbox-rows.mjs): the forced cells as the released guide's own fill.sh prints them over the translation 478ede3b982f905b… (all of the seat's roots in one cut). By AI agents, Wed Nov 11 2026. No macro, syntax, notation, axiom, sorry.
-/
import Derived.Test.YtplemdgihlabgaaChecked
import GoSem.Claim
import GoSem.ClaimJoined
import GoSem.ClaimMapViews
import Derived.JoinedTies
import Derived.KernelRfl
namespace Go.Proofs.Ytplemdgihlabgaa
/- THE CELL 'sum', in the pinned program and in every row, IS THE sha256 OF THE DUMP (.gsa) THAT YtplemdgihlabgaaProg.lean LOADS. Nothing in Lean hashes anything: it is a label: what it is worth is what the hold of that sum in a sandbox is worth. -/
noncomputable def Try.pinned : Pinned := { name := "ytplemdgihlabgaa", sum := "478ede3b982f905b1a2d7400423a5757fa278597d6bbcdf1ee8b91cbb6c7e961", checked := Try.checked }
namespace Rows
def none {H : Type} : Left H := { results := [], args := [] }

/-- 'twainlaw06.DiskNone': WHATEVER THE INPUT: true; the input reads as it did. -/
def diskNoneSpec : ChangeSpec := { name := "diskNone", fn := fun _ => fun
  | [d] => { results := [.lit (.bool true)], args := [d] }
  | _ => none }
def diskNoneRow : OpenClaim := { program := "ytplemdgihlabgaa", sum := "478ede3b982f905b1a2d7400423a5757fa278597d6bbcdf1ee8b91cbb6c7e961", func := "twain/twainlaw06.DiskNone", spec := "diskNone", inPlace := ["maps.clone"], unfollowed := true, recurses := true, plainKeys := false, apart := false }
def DiskNoneSaid : Prop := diskNoneRow.holds Try.pinned (OpenSpec.ofChange diskNoneSpec)

/-- ITS FALSE NEIGHBOUR: 'it returns false'. Refute it at one input. -/
def diskNoneWrong : ChangeSpec := { name := "diskNone", fn := fun _ => fun
  | [d] => { results := [.lit (.bool false)], args := [d] }
  | _ => none }
def DiskNoneWrongFalsely : Prop := diskNoneRow.holds Try.pinned (OpenSpec.ofChange diskNoneWrong)

/-- 'twainlaw06.DiskKeeps': WHATEVER THE INPUT: true; the input reads as it did. -/
def diskKeepsSpec : ChangeSpec := { name := "diskKeeps", fn := fun _ => fun
  | [d1, d2] => { results := [.lit (.bool true)], args := [d1, d2] }
  | _ => none }
def diskKeepsRow : OpenClaim := { program := "ytplemdgihlabgaa", sum := "478ede3b982f905b1a2d7400423a5757fa278597d6bbcdf1ee8b91cbb6c7e961", func := "twain/twainlaw06.DiskKeeps", spec := "diskKeeps", unfollowed := true, recurses := true, plainKeys := false, apart := false }
def DiskKeepsSaid : Prop := diskKeepsRow.holds Try.pinned (OpenSpec.ofChange diskKeepsSpec)

/-- ITS FALSE NEIGHBOUR: 'it returns false'. Refute it at one input. -/
def diskKeepsWrong : ChangeSpec := { name := "diskKeeps", fn := fun _ => fun
  | [d1, d2] => { results := [.lit (.bool false)], args := [d1, d2] }
  | _ => none }
def DiskKeepsWrongFalsely : Prop := diskKeepsRow.holds Try.pinned (OpenSpec.ofChange diskKeepsWrong)

/-- 'twainlaw06.DiskFuse': WHATEVER THE INPUT: true; the input reads as it did. -/
def diskFuseSpec : ChangeSpec := { name := "diskFuse", fn := fun _ => fun
  | [d1, d2] => { results := [.lit (.bool true)], args := [d1, d2] }
  | _ => none }
def diskFuseRow : OpenClaim := { program := "ytplemdgihlabgaa", sum := "478ede3b982f905b1a2d7400423a5757fa278597d6bbcdf1ee8b91cbb6c7e961", func := "twain/twainlaw06.DiskFuse", spec := "diskFuse", unfollowed := true, recurses := true, plainKeys := false, apart := false }
def DiskFuseSaid : Prop := diskFuseRow.holds Try.pinned (OpenSpec.ofChange diskFuseSpec)

/-- ITS FALSE NEIGHBOUR: 'it returns false'. Refute it at one input. -/
def diskFuseWrong : ChangeSpec := { name := "diskFuse", fn := fun _ => fun
  | [d1, d2] => { results := [.lit (.bool false)], args := [d1, d2] }
  | _ => none }
def DiskFuseWrongFalsely : Prop := diskFuseRow.holds Try.pinned (OpenSpec.ofChange diskFuseWrong)

/-- 'twainlaw06.DiskActs': WHATEVER THE INPUT: true; the input reads as it did. -/
def diskActsSpec : ChangeSpec := { name := "diskActs", fn := fun _ => fun
  | [d1, d2] => { results := [.lit (.bool true)], args := [d1, d2] }
  | _ => none }
def diskActsRow : OpenClaim := { program := "ytplemdgihlabgaa", sum := "478ede3b982f905b1a2d7400423a5757fa278597d6bbcdf1ee8b91cbb6c7e961", func := "twain/twainlaw06.DiskActs", spec := "diskActs", inPlace := ["maps.clone"], unfollowed := true, recurses := true, plainKeys := false, apart := false }
def DiskActsSaid : Prop := diskActsRow.holds Try.pinned (OpenSpec.ofChange diskActsSpec)

/-- ITS FALSE NEIGHBOUR: 'it returns false'. Refute it at one input. -/
def diskActsWrong : ChangeSpec := { name := "diskActs", fn := fun _ => fun
  | [d1, d2] => { results := [.lit (.bool false)], args := [d1, d2] }
  | _ => none }
def DiskActsWrongFalsely : Prop := diskActsRow.holds Try.pinned (OpenSpec.ofChange diskActsWrong)

/-- 'twainlaw15.TableNone': WHATEVER THE INPUT: true; the input reads as it did. -/
def tableNoneSpec : ChangeSpec := { name := "tableNone", fn := fun _ => fun
  | [d] => { results := [.lit (.bool true)], args := [d] }
  | _ => none }
def tableNoneRow : OpenClaim := { program := "ytplemdgihlabgaa", sum := "478ede3b982f905b1a2d7400423a5757fa278597d6bbcdf1ee8b91cbb6c7e961", func := "twain/twainlaw15.TableNone", spec := "tableNone", unfollowed := true, recurses := true, plainKeys := false, apart := false }
def TableNoneSaid : Prop := tableNoneRow.holds Try.pinned (OpenSpec.ofChange tableNoneSpec)

/-- ITS FALSE NEIGHBOUR: 'it returns false'. Refute it at one input. -/
def tableNoneWrong : ChangeSpec := { name := "tableNone", fn := fun _ => fun
  | [d] => { results := [.lit (.bool false)], args := [d] }
  | _ => none }
def TableNoneWrongFalsely : Prop := tableNoneRow.holds Try.pinned (OpenSpec.ofChange tableNoneWrong)

/-- 'twainlaw15.TableActs': WHATEVER THE INPUT: true; the input reads as it did. -/
def tableActsSpec : ChangeSpec := { name := "tableActs", fn := fun _ => fun
  | [d1, d2] => { results := [.lit (.bool true)], args := [d1, d2] }
  | _ => none }
def tableActsRow : OpenClaim := { program := "ytplemdgihlabgaa", sum := "478ede3b982f905b1a2d7400423a5757fa278597d6bbcdf1ee8b91cbb6c7e961", func := "twain/twainlaw15.TableActs", spec := "tableActs", unfollowed := true, recurses := true, plainKeys := false, apart := false }
def TableActsSaid : Prop := tableActsRow.holds Try.pinned (OpenSpec.ofChange tableActsSpec)

/-- ITS FALSE NEIGHBOUR: 'it returns false'. Refute it at one input. -/
def tableActsWrong : ChangeSpec := { name := "tableActs", fn := fun _ => fun
  | [d1, d2] => { results := [.lit (.bool false)], args := [d1, d2] }
  | _ => none }
def TableActsWrongFalsely : Prop := tableActsRow.holds Try.pinned (OpenSpec.ofChange tableActsWrong)

/-- 'twainlaw22.SessionNone': WHATEVER THE INPUT: true; the input reads as it did. -/
def sessionNoneSpec : ChangeSpec := { name := "sessionNone", fn := fun _ => fun
  | [d] => { results := [.lit (.bool true)], args := [d] }
  | _ => none }
def sessionNoneRow : OpenClaim := { program := "ytplemdgihlabgaa", sum := "478ede3b982f905b1a2d7400423a5757fa278597d6bbcdf1ee8b91cbb6c7e961", func := "twain/twainlaw22.SessionNone", spec := "sessionNone", unfollowed := true, recurses := true, plainKeys := false, apart := false }
def SessionNoneSaid : Prop := sessionNoneRow.holds Try.pinned (OpenSpec.ofChange sessionNoneSpec)

/-- ITS FALSE NEIGHBOUR: 'it returns false'. Refute it at one input. -/
def sessionNoneWrong : ChangeSpec := { name := "sessionNone", fn := fun _ => fun
  | [d] => { results := [.lit (.bool false)], args := [d] }
  | _ => none }
def SessionNoneWrongFalsely : Prop := sessionNoneRow.holds Try.pinned (OpenSpec.ofChange sessionNoneWrong)

/-- 'twainlaw22.SessionActs': WHATEVER THE INPUT: true; the input reads as it did. -/
def sessionActsSpec : ChangeSpec := { name := "sessionActs", fn := fun _ => fun
  | [d1, d2] => { results := [.lit (.bool true)], args := [d1, d2] }
  | _ => none }
def sessionActsRow : OpenClaim := { program := "ytplemdgihlabgaa", sum := "478ede3b982f905b1a2d7400423a5757fa278597d6bbcdf1ee8b91cbb6c7e961", func := "twain/twainlaw22.SessionActs", spec := "sessionActs", unfollowed := true, recurses := true, plainKeys := false, apart := false }
def SessionActsSaid : Prop := sessionActsRow.holds Try.pinned (OpenSpec.ofChange sessionActsSpec)

/-- ITS FALSE NEIGHBOUR: 'it returns false'. Refute it at one input. -/
def sessionActsWrong : ChangeSpec := { name := "sessionActs", fn := fun _ => fun
  | [d1, d2] => { results := [.lit (.bool false)], args := [d1, d2] }
  | _ => none }
def SessionActsWrongFalsely : Prop := sessionActsRow.holds Try.pinned (OpenSpec.ofChange sessionActsWrong)

/-- 'twainlaw22.SessionOrder': WHATEVER THE INPUT: true; the input reads as it did. -/
def sessionOrderSpec : ChangeSpec := { name := "sessionOrder", fn := fun _ => fun
  | [d1, d2] => { results := [.lit (.bool true)], args := [d1, d2] }
  | _ => none }
def sessionOrderRow : OpenClaim := { program := "ytplemdgihlabgaa", sum := "478ede3b982f905b1a2d7400423a5757fa278597d6bbcdf1ee8b91cbb6c7e961", func := "twain/twainlaw22.SessionOrder", spec := "sessionOrder", unfollowed := true, recurses := true, plainKeys := false, apart := false }
def SessionOrderSaid : Prop := sessionOrderRow.holds Try.pinned (OpenSpec.ofChange sessionOrderSpec)

/-- ITS FALSE NEIGHBOUR: 'it returns false'. Refute it at one input. -/
def sessionOrderWrong : ChangeSpec := { name := "sessionOrder", fn := fun _ => fun
  | [d1, d2] => { results := [.lit (.bool false)], args := [d1, d2] }
  | _ => none }
def SessionOrderWrongFalsely : Prop := sessionOrderRow.holds Try.pinned (OpenSpec.ofChange sessionOrderWrong)

/-- 'twainlaw29.CopyingNone': WHATEVER THE INPUT: true; the input reads as it did. -/
def copyingNoneSpec : ChangeSpec := { name := "copyingNone", fn := fun _ => fun
  | [d] => { results := [.lit (.bool true)], args := [d] }
  | _ => none }
def copyingNoneRow : OpenClaim := { program := "ytplemdgihlabgaa", sum := "478ede3b982f905b1a2d7400423a5757fa278597d6bbcdf1ee8b91cbb6c7e961", func := "twain/twainlaw29.CopyingNone", spec := "copyingNone", unfollowed := true, recurses := true, plainKeys := false, apart := false }
def CopyingNoneSaid : Prop := copyingNoneRow.holds Try.pinned (OpenSpec.ofChange copyingNoneSpec)

/-- ITS FALSE NEIGHBOUR: 'it returns false'. Refute it at one input. -/
def copyingNoneWrong : ChangeSpec := { name := "copyingNone", fn := fun _ => fun
  | [d] => { results := [.lit (.bool false)], args := [d] }
  | _ => none }
def CopyingNoneWrongFalsely : Prop := copyingNoneRow.holds Try.pinned (OpenSpec.ofChange copyingNoneWrong)

/-- 'twainlaw12.DataActs': WHATEVER THE INPUT: true; the input reads as it did. -/
def dataActsSpec : ChangeSpec := { name := "dataActs", fn := fun _ => fun
  | [d1, d2] => { results := [.lit (.bool true)], args := [d1, d2] }
  | _ => none }
def dataActsRow : OpenClaim := { program := "ytplemdgihlabgaa", sum := "478ede3b982f905b1a2d7400423a5757fa278597d6bbcdf1ee8b91cbb6c7e961", func := "twain/twainlaw12.DataActs", spec := "dataActs", unfollowed := true, recurses := true, plainKeys := false, apart := false }
def DataActsSaid : Prop := dataActsRow.holds Try.pinned (OpenSpec.ofChange dataActsSpec)

/-- ITS FALSE NEIGHBOUR: 'it returns false'. Refute it at one input. -/
def dataActsWrong : ChangeSpec := { name := "dataActs", fn := fun _ => fun
  | [d1, d2] => { results := [.lit (.bool false)], args := [d1, d2] }
  | _ => none }
def DataActsWrongFalsely : Prop := dataActsRow.holds Try.pinned (OpenSpec.ofChange dataActsWrong)

/- THE SECOND FORM. 'bulk': how many values and letters a reading holds, each counted each time it is reached (what is shared counts as often as it is met; a slice's spare places count too). A statement '..UptoSaid' is the law's where the arguments, and the package variables that the reading takes, are together of bulk at most 1048576: NARROWER than '..Said'. Prove '..Said' where nothing that the law and all that it calls make is longer than what came in: it says more and counts as full. Else prove '..UptoSaid'. A law counts once. -/
mutual
def uptoBulk {H : Type} : DataW H → Nat
  | .lit (.string bytes) => bytes.length + 1
  | .lit _ => 1
  | .nil => 1
  | .ptr d => uptoBulk d + 1
  | .slice elems spare => uptoBulkAll elems + uptoBulkAll spare + 1
  | .agg parts => uptoBulkAll parts + 1
  | .iface _ d => uptoBulk d + 1
  | .map entries => uptoBulkEntries entries + 1
  | .held _ => 1
def uptoBulkAll {H : Type} : List (DataW H) → Nat
  | [] => 0
  | d :: r => uptoBulk d + uptoBulkAll r
def uptoBulkEntries {H : Type} : List (Lit × DataW H) → Nat
  | [] => 0
  | x :: r => uptoBulkEntry x + uptoBulkEntries r
def uptoBulkEntry {H : Type} : Lit × DataW H → Nat
  | (.string bytes, d) => bytes.length + uptoBulk d + 1
  | (_, d) => uptoBulk d + 1
 end
def uptoSmall : (H : Type) → List (DataW H) → Bool := fun _ ds => decide (uptoBulkAll ds ≤ 1048576)
def OpenSpec.upto (s : _root_.Go.ChangeSpec) : _root_.Go.OpenSpec := { _root_.Go.OpenSpec.ofChange s with cond := some uptoSmall }

/-- 'twainlaw06.DiskNone', WHERE WHAT IT READS IS OF BULK AT MOST 1048576: true; the input reads as it did. -/
def diskNoneUptoRow : OpenClaim := { program := "ytplemdgihlabgaa", sum := "478ede3b982f905b1a2d7400423a5757fa278597d6bbcdf1ee8b91cbb6c7e961", func := "twain/twainlaw06.DiskNone", spec := "diskNone", inPlace := ["maps.clone"], unfollowed := true, recurses := true, plainKeys := false, apart := false, narrowed := true }
def DiskNoneUptoSaid : Prop := diskNoneUptoRow.holds Try.pinned (OpenSpec.upto diskNoneSpec)

/-- 'twainlaw06.DiskKeeps', WHERE WHAT IT READS IS OF BULK AT MOST 1048576: true; the input reads as it did. -/
def diskKeepsUptoRow : OpenClaim := { program := "ytplemdgihlabgaa", sum := "478ede3b982f905b1a2d7400423a5757fa278597d6bbcdf1ee8b91cbb6c7e961", func := "twain/twainlaw06.DiskKeeps", spec := "diskKeeps", unfollowed := true, recurses := true, plainKeys := false, apart := false, narrowed := true }
def DiskKeepsUptoSaid : Prop := diskKeepsUptoRow.holds Try.pinned (OpenSpec.upto diskKeepsSpec)

/-- 'twainlaw06.DiskFuse', WHERE WHAT IT READS IS OF BULK AT MOST 1048576: true; the input reads as it did. -/
def diskFuseUptoRow : OpenClaim := { program := "ytplemdgihlabgaa", sum := "478ede3b982f905b1a2d7400423a5757fa278597d6bbcdf1ee8b91cbb6c7e961", func := "twain/twainlaw06.DiskFuse", spec := "diskFuse", unfollowed := true, recurses := true, plainKeys := false, apart := false, narrowed := true }
def DiskFuseUptoSaid : Prop := diskFuseUptoRow.holds Try.pinned (OpenSpec.upto diskFuseSpec)

/-- 'twainlaw06.DiskActs', WHERE WHAT IT READS IS OF BULK AT MOST 1048576: true; the input reads as it did. -/
def diskActsUptoRow : OpenClaim := { program := "ytplemdgihlabgaa", sum := "478ede3b982f905b1a2d7400423a5757fa278597d6bbcdf1ee8b91cbb6c7e961", func := "twain/twainlaw06.DiskActs", spec := "diskActs", inPlace := ["maps.clone"], unfollowed := true, recurses := true, plainKeys := false, apart := false, narrowed := true }
def DiskActsUptoSaid : Prop := diskActsUptoRow.holds Try.pinned (OpenSpec.upto diskActsSpec)

/-- 'twainlaw15.TableNone', WHERE WHAT IT READS IS OF BULK AT MOST 1048576: true; the input reads as it did. -/
def tableNoneUptoRow : OpenClaim := { program := "ytplemdgihlabgaa", sum := "478ede3b982f905b1a2d7400423a5757fa278597d6bbcdf1ee8b91cbb6c7e961", func := "twain/twainlaw15.TableNone", spec := "tableNone", unfollowed := true, recurses := true, plainKeys := false, apart := false, narrowed := true }
def TableNoneUptoSaid : Prop := tableNoneUptoRow.holds Try.pinned (OpenSpec.upto tableNoneSpec)

/-- 'twainlaw15.TableActs', WHERE WHAT IT READS IS OF BULK AT MOST 1048576: true; the input reads as it did. -/
def tableActsUptoRow : OpenClaim := { program := "ytplemdgihlabgaa", sum := "478ede3b982f905b1a2d7400423a5757fa278597d6bbcdf1ee8b91cbb6c7e961", func := "twain/twainlaw15.TableActs", spec := "tableActs", unfollowed := true, recurses := true, plainKeys := false, apart := false, narrowed := true }
def TableActsUptoSaid : Prop := tableActsUptoRow.holds Try.pinned (OpenSpec.upto tableActsSpec)

/-- 'twainlaw22.SessionNone', WHERE WHAT IT READS IS OF BULK AT MOST 1048576: true; the input reads as it did. -/
def sessionNoneUptoRow : OpenClaim := { program := "ytplemdgihlabgaa", sum := "478ede3b982f905b1a2d7400423a5757fa278597d6bbcdf1ee8b91cbb6c7e961", func := "twain/twainlaw22.SessionNone", spec := "sessionNone", unfollowed := true, recurses := true, plainKeys := false, apart := false, narrowed := true }
def SessionNoneUptoSaid : Prop := sessionNoneUptoRow.holds Try.pinned (OpenSpec.upto sessionNoneSpec)

/-- 'twainlaw22.SessionActs', WHERE WHAT IT READS IS OF BULK AT MOST 1048576: true; the input reads as it did. -/
def sessionActsUptoRow : OpenClaim := { program := "ytplemdgihlabgaa", sum := "478ede3b982f905b1a2d7400423a5757fa278597d6bbcdf1ee8b91cbb6c7e961", func := "twain/twainlaw22.SessionActs", spec := "sessionActs", unfollowed := true, recurses := true, plainKeys := false, apart := false, narrowed := true }
def SessionActsUptoSaid : Prop := sessionActsUptoRow.holds Try.pinned (OpenSpec.upto sessionActsSpec)

/-- 'twainlaw22.SessionOrder', WHERE WHAT IT READS IS OF BULK AT MOST 1048576: true; the input reads as it did. -/
def sessionOrderUptoRow : OpenClaim := { program := "ytplemdgihlabgaa", sum := "478ede3b982f905b1a2d7400423a5757fa278597d6bbcdf1ee8b91cbb6c7e961", func := "twain/twainlaw22.SessionOrder", spec := "sessionOrder", unfollowed := true, recurses := true, plainKeys := false, apart := false, narrowed := true }
def SessionOrderUptoSaid : Prop := sessionOrderUptoRow.holds Try.pinned (OpenSpec.upto sessionOrderSpec)

/-- 'twainlaw29.CopyingNone', WHERE WHAT IT READS IS OF BULK AT MOST 1048576: true; the input reads as it did. -/
def copyingNoneUptoRow : OpenClaim := { program := "ytplemdgihlabgaa", sum := "478ede3b982f905b1a2d7400423a5757fa278597d6bbcdf1ee8b91cbb6c7e961", func := "twain/twainlaw29.CopyingNone", spec := "copyingNone", unfollowed := true, recurses := true, plainKeys := false, apart := false, narrowed := true }
def CopyingNoneUptoSaid : Prop := copyingNoneUptoRow.holds Try.pinned (OpenSpec.upto copyingNoneSpec)

/-- 'twainlaw12.DataActs', WHERE WHAT IT READS IS OF BULK AT MOST 1048576: true; the input reads as it did. -/
def dataActsUptoRow : OpenClaim := { program := "ytplemdgihlabgaa", sum := "478ede3b982f905b1a2d7400423a5757fa278597d6bbcdf1ee8b91cbb6c7e961", func := "twain/twainlaw12.DataActs", spec := "dataActs", unfollowed := true, recurses := true, plainKeys := false, apart := false, narrowed := true }
def DataActsUptoSaid : Prop := dataActsUptoRow.holds Try.pinned (OpenSpec.upto dataActsSpec)

end Rows
end Go.Proofs.Ytplemdgihlabgaa
