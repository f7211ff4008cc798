/-
  No cell of these rows narrows 'for every input' (looked for: loops, veiled, ifaces, maps, wideKeys, modest, calm, conditions, laid).
  DERIVED. THE GIVEN ROWS OF THIS SEAT. 15 by the template 'for every input the law returns true; each argument reads behind the call as it read before'; 0 by the template 'total and deterministic' (their statements: YtlfphoablloodaaTotals.lean).
  GIVEN WITH THE SEED: the statements are not yours to turn. If you find one false, say at which input.
  Laid BY PROGRAM, IN A SANDBOX (cutbox-rows.mjs): the forced cells as the released guide's own fill.sh prints them over the translation 7bc9b9eacc29b430… (all of the seat's roots in one cut). By AI agents, Wed Nov 11 2026. No macro, syntax, notation, axiom, sorry.
-/
import Derived.Test.YtlfphoablloodaaChecked
import GoSem.Claim
import GoSem.ClaimJoined
import GoSem.ClaimMapViews
import Derived.JoinedTies
import Derived.KernelRfl
namespace Go.Proofs.Ytlfphoablloodaa
/- THE CELL 'sum', in the pinned program and in every row, IS THE sha256 OF THE DUMP (.gsa) THAT YtlfphoablloodaaProg.lean LOADS. Nothing in Lean hashes anything: it is a label: what it is worth is what the hold of that sum in a sandbox is worth. -/
noncomputable def Try.pinned : Pinned := { name := "ytlfphoablloodaa", sum := "7bc9b9eacc29b43033480234266b6538a0a17d55cafd1c0e81af8c4a354810b4", checked := Try.checked }
namespace Rows
def none {H : Type} : Left H := { results := [], args := [] }

/-- 'twainlaw02.NumPuts': WHATEVER THE INPUT: true; the input reads as it did. -/
def numPutsSpec : ChangeSpec := { name := "numPuts", fn := fun _ => fun
  | [d1, d2, d3] => { results := [.lit (.bool true)], args := [d1, d2, d3] }
  | _ => none }
def numPutsRow : OpenClaim := { program := "ytlfphoablloodaa", sum := "7bc9b9eacc29b43033480234266b6538a0a17d55cafd1c0e81af8c4a354810b4", func := "twain/twainlaw02.NumPuts", spec := "numPuts", plainKeys := false, apart := false }
def NumPutsSaid : Prop := numPutsRow.holds Try.pinned (OpenSpec.ofChange numPutsSpec)

/-- ITS FALSE NEIGHBOUR: 'it returns false'. Refute it at one input. -/
def numPutsWrong : ChangeSpec := { name := "numPuts", fn := fun _ => fun
  | [d1, d2, d3] => { results := [.lit (.bool false)], args := [d1, d2, d3] }
  | _ => none }
def NumPutsWrongFalsely : Prop := numPutsRow.holds Try.pinned (OpenSpec.ofChange numPutsWrong)

/-- 'twainlaw02.NumTickets': WHATEVER THE INPUT: true; the input reads as it did. -/
def numTicketsSpec : ChangeSpec := { name := "numTickets", fn := fun _ => fun
  | [d1, d2, d3] => { results := [.lit (.bool true)], args := [d1, d2, d3] }
  | _ => none }
def numTicketsRow : OpenClaim := { program := "ytlfphoablloodaa", sum := "7bc9b9eacc29b43033480234266b6538a0a17d55cafd1c0e81af8c4a354810b4", func := "twain/twainlaw02.NumTickets", spec := "numTickets", plainKeys := false, apart := false }
def NumTicketsSaid : Prop := numTicketsRow.holds Try.pinned (OpenSpec.ofChange numTicketsSpec)

/-- ITS FALSE NEIGHBOUR: 'it returns false'. Refute it at one input. -/
def numTicketsWrong : ChangeSpec := { name := "numTickets", fn := fun _ => fun
  | [d1, d2, d3] => { results := [.lit (.bool false)], args := [d1, d2, d3] }
  | _ => none }
def NumTicketsWrongFalsely : Prop := numTicketsRow.holds Try.pinned (OpenSpec.ofChange numTicketsWrong)

/-- 'twainlaw02.NumGets': WHATEVER THE INPUT: true; the input reads as it did. -/
def numGetsSpec : ChangeSpec := { name := "numGets", fn := fun _ => fun
  | [d] => { results := [.lit (.bool true)], args := [d] }
  | _ => none }
def numGetsRow : OpenClaim := { program := "ytlfphoablloodaa", sum := "7bc9b9eacc29b43033480234266b6538a0a17d55cafd1c0e81af8c4a354810b4", func := "twain/twainlaw02.NumGets", spec := "numGets", plainKeys := false, apart := false }
def NumGetsSaid : Prop := numGetsRow.holds Try.pinned (OpenSpec.ofChange numGetsSpec)

/-- ITS FALSE NEIGHBOUR: 'it returns false'. Refute it at one input. -/
def numGetsWrong : ChangeSpec := { name := "numGets", fn := fun _ => fun
  | [d] => { results := [.lit (.bool false)], args := [d] }
  | _ => none }
def NumGetsWrongFalsely : Prop := numGetsRow.holds Try.pinned (OpenSpec.ofChange numGetsWrong)

/-- 'twainlaw48.VolumeCuts': WHATEVER THE INPUT: true; the input reads as it did. -/
def volumeCutsSpec : ChangeSpec := { name := "volumeCuts", fn := fun _ => fun
  | [d1, d2, d3] => { results := [.lit (.bool true)], args := [d1, d2, d3] }
  | _ => none }
def volumeCutsRow : OpenClaim := { program := "ytlfphoablloodaa", sum := "7bc9b9eacc29b43033480234266b6538a0a17d55cafd1c0e81af8c4a354810b4", func := "twain/twainlaw48.VolumeCuts", spec := "volumeCuts", unfollowed := true, recurses := true, plainKeys := false, apart := false }
def VolumeCutsSaid : Prop := volumeCutsRow.holds Try.pinned (OpenSpec.ofChange volumeCutsSpec)

/-- ITS FALSE NEIGHBOUR: 'it returns false'. Refute it at one input. -/
def volumeCutsWrong : ChangeSpec := { name := "volumeCuts", fn := fun _ => fun
  | [d1, d2, d3] => { results := [.lit (.bool false)], args := [d1, d2, d3] }
  | _ => none }
def VolumeCutsWrongFalsely : Prop := volumeCutsRow.holds Try.pinned (OpenSpec.ofChange volumeCutsWrong)

/-- 'twainlaw02.NumBack': WHATEVER THE INPUT: true; the input reads as it did. -/
def numBackSpec : ChangeSpec := { name := "numBack", fn := fun _ => fun
  | [d1, d2] => { results := [.lit (.bool true)], args := [d1, d2] }
  | _ => none }
def numBackRow : OpenClaim := { program := "ytlfphoablloodaa", sum := "7bc9b9eacc29b43033480234266b6538a0a17d55cafd1c0e81af8c4a354810b4", func := "twain/twainlaw02.NumBack", spec := "numBack", plainKeys := false, apart := false }
def NumBackSaid : Prop := numBackRow.holds Try.pinned (OpenSpec.ofChange numBackSpec)

/-- ITS FALSE NEIGHBOUR: 'it returns false'. Refute it at one input. -/
def numBackWrong : ChangeSpec := { name := "numBack", fn := fun _ => fun
  | [d1, d2] => { results := [.lit (.bool false)], args := [d1, d2] }
  | _ => none }
def NumBackWrongFalsely : Prop := numBackRow.holds Try.pinned (OpenSpec.ofChange numBackWrong)

/-- 'twainlaw15.TableApart': WHATEVER THE INPUT: true; the input reads as it did. -/
def tableApartSpec : ChangeSpec := { name := "tableApart", fn := fun _ => fun
  | [d1, d2] => { results := [.lit (.bool true)], args := [d1, d2] }
  | _ => none }
def tableApartRow : OpenClaim := { program := "ytlfphoablloodaa", sum := "7bc9b9eacc29b43033480234266b6538a0a17d55cafd1c0e81af8c4a354810b4", func := "twain/twainlaw15.TableApart", spec := "tableApart", plainKeys := false, apart := false }
def TableApartSaid : Prop := tableApartRow.holds Try.pinned (OpenSpec.ofChange tableApartSpec)

/-- ITS FALSE NEIGHBOUR: 'it returns false'. Refute it at one input. -/
def tableApartWrong : ChangeSpec := { name := "tableApart", fn := fun _ => fun
  | [d1, d2] => { results := [.lit (.bool false)], args := [d1, d2] }
  | _ => none }
def TableApartWrongFalsely : Prop := tableApartRow.holds Try.pinned (OpenSpec.ofChange tableApartWrong)

/-- 'twainlaw19.OutboxGoes': WHATEVER THE INPUT: true; the input reads as it did. -/
def outboxGoesSpec : ChangeSpec := { name := "outboxGoes", fn := fun _ => fun
  | [d1, d2] => { results := [.lit (.bool true)], args := [d1, d2] }
  | _ => none }
def outboxGoesRow : OpenClaim := { program := "ytlfphoablloodaa", sum := "7bc9b9eacc29b43033480234266b6538a0a17d55cafd1c0e81af8c4a354810b4", func := "twain/twainlaw19.OutboxGoes", spec := "outboxGoes", plainKeys := false, apart := false }
def OutboxGoesSaid : Prop := outboxGoesRow.holds Try.pinned (OpenSpec.ofChange outboxGoesSpec)

/-- ITS FALSE NEIGHBOUR: 'it returns false'. Refute it at one input. -/
def outboxGoesWrong : ChangeSpec := { name := "outboxGoes", fn := fun _ => fun
  | [d1, d2] => { results := [.lit (.bool false)], args := [d1, d2] }
  | _ => none }
def OutboxGoesWrongFalsely : Prop := outboxGoesRow.holds Try.pinned (OpenSpec.ofChange outboxGoesWrong)

/-- 'twainlaw19.OutboxActs': WHATEVER THE INPUT: true; the input reads as it did. -/
def outboxActsSpec : ChangeSpec := { name := "outboxActs", fn := fun _ => fun
  | [d1, d2] => { results := [.lit (.bool true)], args := [d1, d2] }
  | _ => none }
def outboxActsRow : OpenClaim := { program := "ytlfphoablloodaa", sum := "7bc9b9eacc29b43033480234266b6538a0a17d55cafd1c0e81af8c4a354810b4", func := "twain/twainlaw19.OutboxActs", spec := "outboxActs", plainKeys := false, apart := false }
def OutboxActsSaid : Prop := outboxActsRow.holds Try.pinned (OpenSpec.ofChange outboxActsSpec)

/-- ITS FALSE NEIGHBOUR: 'it returns false'. Refute it at one input. -/
def outboxActsWrong : ChangeSpec := { name := "outboxActs", fn := fun _ => fun
  | [d1, d2] => { results := [.lit (.bool false)], args := [d1, d2] }
  | _ => none }
def OutboxActsWrongFalsely : Prop := outboxActsRow.holds Try.pinned (OpenSpec.ofChange outboxActsWrong)

/-- 'twainlaw19.OutboxNone': WHATEVER THE INPUT: true; the input reads as it did. -/
def outboxNoneSpec : ChangeSpec := { name := "outboxNone", fn := fun _ => fun
  | [d] => { results := [.lit (.bool true)], args := [d] }
  | _ => none }
def outboxNoneRow : OpenClaim := { program := "ytlfphoablloodaa", sum := "7bc9b9eacc29b43033480234266b6538a0a17d55cafd1c0e81af8c4a354810b4", func := "twain/twainlaw19.OutboxNone", spec := "outboxNone", plainKeys := false, apart := false }
def OutboxNoneSaid : Prop := outboxNoneRow.holds Try.pinned (OpenSpec.ofChange outboxNoneSpec)

/-- ITS FALSE NEIGHBOUR: 'it returns false'. Refute it at one input. -/
def outboxNoneWrong : ChangeSpec := { name := "outboxNone", fn := fun _ => fun
  | [d] => { results := [.lit (.bool false)], args := [d] }
  | _ => none }
def OutboxNoneWrongFalsely : Prop := outboxNoneRow.holds Try.pinned (OpenSpec.ofChange outboxNoneWrong)

/-- 'twainlaw05.SealPuts': WHATEVER THE INPUT: true; the input reads as it did. -/
def sealPutsSpec : ChangeSpec := { name := "sealPuts", fn := fun _ => fun
  | [d1, d2, d3] => { results := [.lit (.bool true)], args := [d1, d2, d3] }
  | _ => none }
def sealPutsRow : OpenClaim := { program := "ytlfphoablloodaa", sum := "7bc9b9eacc29b43033480234266b6538a0a17d55cafd1c0e81af8c4a354810b4", func := "twain/twainlaw05.SealPuts", spec := "sealPuts", plainKeys := false, apart := false }
def SealPutsSaid : Prop := sealPutsRow.holds Try.pinned (OpenSpec.ofChange sealPutsSpec)

/-- ITS FALSE NEIGHBOUR: 'it returns false'. Refute it at one input. -/
def sealPutsWrong : ChangeSpec := { name := "sealPuts", fn := fun _ => fun
  | [d1, d2, d3] => { results := [.lit (.bool false)], args := [d1, d2, d3] }
  | _ => none }
def SealPutsWrongFalsely : Prop := sealPutsRow.holds Try.pinned (OpenSpec.ofChange sealPutsWrong)

/-- 'twainlaw48.VolumeJoins': WHATEVER THE INPUT: true; the input reads as it did. -/
def volumeJoinsSpec : ChangeSpec := { name := "volumeJoins", fn := fun _ => fun
  | [d1, d2, d3] => { results := [.lit (.bool true)], args := [d1, d2, d3] }
  | _ => none }
def volumeJoinsRow : OpenClaim := { program := "ytlfphoablloodaa", sum := "7bc9b9eacc29b43033480234266b6538a0a17d55cafd1c0e81af8c4a354810b4", func := "twain/twainlaw48.VolumeJoins", spec := "volumeJoins", unfollowed := true, recurses := true, plainKeys := false, apart := false }
def VolumeJoinsSaid : Prop := volumeJoinsRow.holds Try.pinned (OpenSpec.ofChange volumeJoinsSpec)

/-- ITS FALSE NEIGHBOUR: 'it returns false'. Refute it at one input. -/
def volumeJoinsWrong : ChangeSpec := { name := "volumeJoins", fn := fun _ => fun
  | [d1, d2, d3] => { results := [.lit (.bool false)], args := [d1, d2, d3] }
  | _ => none }
def VolumeJoinsWrongFalsely : Prop := volumeJoinsRow.holds Try.pinned (OpenSpec.ofChange volumeJoinsWrong)

/-- 'twainlaw05.SealGets': WHATEVER THE INPUT: true; the input reads as it did. -/
def sealGetsSpec : ChangeSpec := { name := "sealGets", fn := fun _ => fun
  | [d1, d2] => { results := [.lit (.bool true)], args := [d1, d2] }
  | _ => none }
def sealGetsRow : OpenClaim := { program := "ytlfphoablloodaa", sum := "7bc9b9eacc29b43033480234266b6538a0a17d55cafd1c0e81af8c4a354810b4", func := "twain/twainlaw05.SealGets", spec := "sealGets", plainKeys := false, apart := false }
def SealGetsSaid : Prop := sealGetsRow.holds Try.pinned (OpenSpec.ofChange sealGetsSpec)

/-- ITS FALSE NEIGHBOUR: 'it returns false'. Refute it at one input. -/
def sealGetsWrong : ChangeSpec := { name := "sealGets", fn := fun _ => fun
  | [d1, d2] => { results := [.lit (.bool false)], args := [d1, d2] }
  | _ => none }
def SealGetsWrongFalsely : Prop := sealGetsRow.holds Try.pinned (OpenSpec.ofChange sealGetsWrong)

/-- 'twainlaw05.SealBack': WHATEVER THE INPUT: true; the input reads as it did. -/
def sealBackSpec : ChangeSpec := { name := "sealBack", fn := fun _ => fun
  | [d1, d2] => { results := [.lit (.bool true)], args := [d1, d2] }
  | _ => none }
def sealBackRow : OpenClaim := { program := "ytlfphoablloodaa", sum := "7bc9b9eacc29b43033480234266b6538a0a17d55cafd1c0e81af8c4a354810b4", func := "twain/twainlaw05.SealBack", spec := "sealBack", plainKeys := false, apart := false }
def SealBackSaid : Prop := sealBackRow.holds Try.pinned (OpenSpec.ofChange sealBackSpec)

/-- ITS FALSE NEIGHBOUR: 'it returns false'. Refute it at one input. -/
def sealBackWrong : ChangeSpec := { name := "sealBack", fn := fun _ => fun
  | [d1, d2] => { results := [.lit (.bool false)], args := [d1, d2] }
  | _ => none }
def SealBackWrongFalsely : Prop := sealBackRow.holds Try.pinned (OpenSpec.ofChange sealBackWrong)

/-- 'twainlaw12.DataKeeps': WHATEVER THE INPUT: true; the input reads as it did. -/
def dataKeepsSpec : ChangeSpec := { name := "dataKeeps", fn := fun _ => fun
  | [d1, d2] => { results := [.lit (.bool true)], args := [d1, d2] }
  | _ => none }
def dataKeepsRow : OpenClaim := { program := "ytlfphoablloodaa", sum := "7bc9b9eacc29b43033480234266b6538a0a17d55cafd1c0e81af8c4a354810b4", func := "twain/twainlaw12.DataKeeps", spec := "dataKeeps", unfollowed := true, recurses := true, plainKeys := false, apart := false }
def DataKeepsSaid : Prop := dataKeepsRow.holds Try.pinned (OpenSpec.ofChange dataKeepsSpec)

/-- ITS FALSE NEIGHBOUR: 'it returns false'. Refute it at one input. -/
def dataKeepsWrong : ChangeSpec := { name := "dataKeeps", fn := fun _ => fun
  | [d1, d2] => { results := [.lit (.bool false)], args := [d1, d2] }
  | _ => none }
def DataKeepsWrongFalsely : Prop := dataKeepsRow.holds Try.pinned (OpenSpec.ofChange dataKeepsWrong)

/-- 'twainlaw12.DataNone': WHATEVER THE INPUT: true; the input reads as it did. -/
def dataNoneSpec : ChangeSpec := { name := "dataNone", fn := fun _ => fun
  | [d] => { results := [.lit (.bool true)], args := [d] }
  | _ => none }
def dataNoneRow : OpenClaim := { program := "ytlfphoablloodaa", sum := "7bc9b9eacc29b43033480234266b6538a0a17d55cafd1c0e81af8c4a354810b4", func := "twain/twainlaw12.DataNone", spec := "dataNone", unfollowed := true, recurses := true, plainKeys := false, apart := false }
def DataNoneSaid : Prop := dataNoneRow.holds Try.pinned (OpenSpec.ofChange dataNoneSpec)

/-- ITS FALSE NEIGHBOUR: 'it returns false'. Refute it at one input. -/
def dataNoneWrong : ChangeSpec := { name := "dataNone", fn := fun _ => fun
  | [d] => { results := [.lit (.bool false)], args := [d] }
  | _ => none }
def DataNoneWrongFalsely : Prop := dataNoneRow.holds Try.pinned (OpenSpec.ofChange dataNoneWrong)

/- THE SECOND FORM. 'bulk': how many values and letters a reading holds, each counted each time it is reached (what is shared counts as often as it is met; a slice's spare places count too). A statement '..UptoSaid' is the law's where the arguments, and the package variables that the reading takes, are together of bulk at most 1048576: NARROWER than '..Said'. Prove '..Said' where nothing that the law and all that it calls make is longer than what came in: it says more and counts as full. Else prove '..UptoSaid'. A law counts once. -/
mutual
def uptoBulk {H : Type} : DataW H → Nat
  | .lit (.string bytes) => bytes.length + 1
  | .lit _ => 1
  | .nil => 1
  | .ptr d => uptoBulk d + 1
  | .slice elems spare => uptoBulkAll elems + uptoBulkAll spare + 1
  | .agg parts => uptoBulkAll parts + 1
  | .iface _ d => uptoBulk d + 1
  | .map entries => uptoBulkEntries entries + 1
  | .held _ => 1
def uptoBulkAll {H : Type} : List (DataW H) → Nat
  | [] => 0
  | d :: r => uptoBulk d + uptoBulkAll r
def uptoBulkEntries {H : Type} : List (Lit × DataW H) → Nat
  | [] => 0
  | x :: r => uptoBulkEntry x + uptoBulkEntries r
def uptoBulkEntry {H : Type} : Lit × DataW H → Nat
  | (.string bytes, d) => bytes.length + uptoBulk d + 1
  | (_, d) => uptoBulk d + 1
 end
def uptoSmall : (H : Type) → List (DataW H) → Bool := fun _ ds => decide (uptoBulkAll ds ≤ 1048576)
def OpenSpec.upto (s : _root_.Go.ChangeSpec) : _root_.Go.OpenSpec := { _root_.Go.OpenSpec.ofChange s with cond := some uptoSmall }

/-- 'twainlaw02.NumPuts', WHERE WHAT IT READS IS OF BULK AT MOST 1048576: true; the input reads as it did. -/
def numPutsUptoRow : OpenClaim := { program := "ytlfphoablloodaa", sum := "7bc9b9eacc29b43033480234266b6538a0a17d55cafd1c0e81af8c4a354810b4", func := "twain/twainlaw02.NumPuts", spec := "numPuts", plainKeys := false, apart := false, narrowed := true }
def NumPutsUptoSaid : Prop := numPutsUptoRow.holds Try.pinned (OpenSpec.upto numPutsSpec)

/-- 'twainlaw02.NumTickets', WHERE WHAT IT READS IS OF BULK AT MOST 1048576: true; the input reads as it did. -/
def numTicketsUptoRow : OpenClaim := { program := "ytlfphoablloodaa", sum := "7bc9b9eacc29b43033480234266b6538a0a17d55cafd1c0e81af8c4a354810b4", func := "twain/twainlaw02.NumTickets", spec := "numTickets", plainKeys := false, apart := false, narrowed := true }
def NumTicketsUptoSaid : Prop := numTicketsUptoRow.holds Try.pinned (OpenSpec.upto numTicketsSpec)

/-- 'twainlaw02.NumGets', WHERE WHAT IT READS IS OF BULK AT MOST 1048576: true; the input reads as it did. -/
def numGetsUptoRow : OpenClaim := { program := "ytlfphoablloodaa", sum := "7bc9b9eacc29b43033480234266b6538a0a17d55cafd1c0e81af8c4a354810b4", func := "twain/twainlaw02.NumGets", spec := "numGets", plainKeys := false, apart := false, narrowed := true }
def NumGetsUptoSaid : Prop := numGetsUptoRow.holds Try.pinned (OpenSpec.upto numGetsSpec)

/-- 'twainlaw48.VolumeCuts', WHERE WHAT IT READS IS OF BULK AT MOST 1048576: true; the input reads as it did. -/
def volumeCutsUptoRow : OpenClaim := { program := "ytlfphoablloodaa", sum := "7bc9b9eacc29b43033480234266b6538a0a17d55cafd1c0e81af8c4a354810b4", func := "twain/twainlaw48.VolumeCuts", spec := "volumeCuts", unfollowed := true, recurses := true, plainKeys := false, apart := false, narrowed := true }
def VolumeCutsUptoSaid : Prop := volumeCutsUptoRow.holds Try.pinned (OpenSpec.upto volumeCutsSpec)

/-- 'twainlaw02.NumBack', WHERE WHAT IT READS IS OF BULK AT MOST 1048576: true; the input reads as it did. -/
def numBackUptoRow : OpenClaim := { program := "ytlfphoablloodaa", sum := "7bc9b9eacc29b43033480234266b6538a0a17d55cafd1c0e81af8c4a354810b4", func := "twain/twainlaw02.NumBack", spec := "numBack", plainKeys := false, apart := false, narrowed := true }
def NumBackUptoSaid : Prop := numBackUptoRow.holds Try.pinned (OpenSpec.upto numBackSpec)

/-- 'twainlaw15.TableApart', WHERE WHAT IT READS IS OF BULK AT MOST 1048576: true; the input reads as it did. -/
def tableApartUptoRow : OpenClaim := { program := "ytlfphoablloodaa", sum := "7bc9b9eacc29b43033480234266b6538a0a17d55cafd1c0e81af8c4a354810b4", func := "twain/twainlaw15.TableApart", spec := "tableApart", plainKeys := false, apart := false, narrowed := true }
def TableApartUptoSaid : Prop := tableApartUptoRow.holds Try.pinned (OpenSpec.upto tableApartSpec)

/-- 'twainlaw19.OutboxGoes', WHERE WHAT IT READS IS OF BULK AT MOST 1048576: true; the input reads as it did. -/
def outboxGoesUptoRow : OpenClaim := { program := "ytlfphoablloodaa", sum := "7bc9b9eacc29b43033480234266b6538a0a17d55cafd1c0e81af8c4a354810b4", func := "twain/twainlaw19.OutboxGoes", spec := "outboxGoes", plainKeys := false, apart := false, narrowed := true }
def OutboxGoesUptoSaid : Prop := outboxGoesUptoRow.holds Try.pinned (OpenSpec.upto outboxGoesSpec)

/-- 'twainlaw19.OutboxActs', WHERE WHAT IT READS IS OF BULK AT MOST 1048576: true; the input reads as it did. -/
def outboxActsUptoRow : OpenClaim := { program := "ytlfphoablloodaa", sum := "7bc9b9eacc29b43033480234266b6538a0a17d55cafd1c0e81af8c4a354810b4", func := "twain/twainlaw19.OutboxActs", spec := "outboxActs", plainKeys := false, apart := false, narrowed := true }
def OutboxActsUptoSaid : Prop := outboxActsUptoRow.holds Try.pinned (OpenSpec.upto outboxActsSpec)

/-- 'twainlaw19.OutboxNone', WHERE WHAT IT READS IS OF BULK AT MOST 1048576: true; the input reads as it did. -/
def outboxNoneUptoRow : OpenClaim := { program := "ytlfphoablloodaa", sum := "7bc9b9eacc29b43033480234266b6538a0a17d55cafd1c0e81af8c4a354810b4", func := "twain/twainlaw19.OutboxNone", spec := "outboxNone", plainKeys := false, apart := false, narrowed := true }
def OutboxNoneUptoSaid : Prop := outboxNoneUptoRow.holds Try.pinned (OpenSpec.upto outboxNoneSpec)

/-- 'twainlaw05.SealPuts', WHERE WHAT IT READS IS OF BULK AT MOST 1048576: true; the input reads as it did. -/
def sealPutsUptoRow : OpenClaim := { program := "ytlfphoablloodaa", sum := "7bc9b9eacc29b43033480234266b6538a0a17d55cafd1c0e81af8c4a354810b4", func := "twain/twainlaw05.SealPuts", spec := "sealPuts", plainKeys := false, apart := false, narrowed := true }
def SealPutsUptoSaid : Prop := sealPutsUptoRow.holds Try.pinned (OpenSpec.upto sealPutsSpec)

/-- 'twainlaw48.VolumeJoins', WHERE WHAT IT READS IS OF BULK AT MOST 1048576: true; the input reads as it did. -/
def volumeJoinsUptoRow : OpenClaim := { program := "ytlfphoablloodaa", sum := "7bc9b9eacc29b43033480234266b6538a0a17d55cafd1c0e81af8c4a354810b4", func := "twain/twainlaw48.VolumeJoins", spec := "volumeJoins", unfollowed := true, recurses := true, plainKeys := false, apart := false, narrowed := true }
def VolumeJoinsUptoSaid : Prop := volumeJoinsUptoRow.holds Try.pinned (OpenSpec.upto volumeJoinsSpec)

/-- 'twainlaw05.SealGets', WHERE WHAT IT READS IS OF BULK AT MOST 1048576: true; the input reads as it did. -/
def sealGetsUptoRow : OpenClaim := { program := "ytlfphoablloodaa", sum := "7bc9b9eacc29b43033480234266b6538a0a17d55cafd1c0e81af8c4a354810b4", func := "twain/twainlaw05.SealGets", spec := "sealGets", plainKeys := false, apart := false, narrowed := true }
def SealGetsUptoSaid : Prop := sealGetsUptoRow.holds Try.pinned (OpenSpec.upto sealGetsSpec)

/-- 'twainlaw05.SealBack', WHERE WHAT IT READS IS OF BULK AT MOST 1048576: true; the input reads as it did. -/
def sealBackUptoRow : OpenClaim := { program := "ytlfphoablloodaa", sum := "7bc9b9eacc29b43033480234266b6538a0a17d55cafd1c0e81af8c4a354810b4", func := "twain/twainlaw05.SealBack", spec := "sealBack", plainKeys := false, apart := false, narrowed := true }
def SealBackUptoSaid : Prop := sealBackUptoRow.holds Try.pinned (OpenSpec.upto sealBackSpec)

/-- 'twainlaw12.DataKeeps', WHERE WHAT IT READS IS OF BULK AT MOST 1048576: true; the input reads as it did. -/
def dataKeepsUptoRow : OpenClaim := { program := "ytlfphoablloodaa", sum := "7bc9b9eacc29b43033480234266b6538a0a17d55cafd1c0e81af8c4a354810b4", func := "twain/twainlaw12.DataKeeps", spec := "dataKeeps", unfollowed := true, recurses := true, plainKeys := false, apart := false, narrowed := true }
def DataKeepsUptoSaid : Prop := dataKeepsUptoRow.holds Try.pinned (OpenSpec.upto dataKeepsSpec)

/-- 'twainlaw12.DataNone', WHERE WHAT IT READS IS OF BULK AT MOST 1048576: true; the input reads as it did. -/
def dataNoneUptoRow : OpenClaim := { program := "ytlfphoablloodaa", sum := "7bc9b9eacc29b43033480234266b6538a0a17d55cafd1c0e81af8c4a354810b4", func := "twain/twainlaw12.DataNone", spec := "dataNone", unfollowed := true, recurses := true, plainKeys := false, apart := false, narrowed := true }
def DataNoneUptoSaid : Prop := dataNoneUptoRow.holds Try.pinned (OpenSpec.upto dataNoneSpec)

end Rows
end Go.Proofs.Ytlfphoablloodaa
