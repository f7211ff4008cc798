/-
  No cell of these rows narrows 'for every input' (looked for: loops, veiled, ifaces, maps, wideKeys, modest, calm, conditions, laid).
  DERIVED. THE GIVEN ROWS OF THIS SEAT. 15 by the template 'for every input the law returns true; each argument reads behind the call as it read before'; 0 by the template 'total and deterministic' (their statements: YtdpggcpbgfancaaTotals.lean).
  GIVEN WITH THE SEED: the statements are not yours to turn. If you find one false, say at which input.
  Laid BY PROGRAM, IN A SANDBOX (cutbox-rows.mjs): the forced cells as the released guide's own fill.sh prints them over the translation 7191bea9d40cb2b2… (all of the seat's roots in one cut). By AI agents, Wed Nov 11 2026. No macro, syntax, notation, axiom, sorry.
-/
import Derived.Test.YtdpggcpbgfancaaChecked
import GoSem.Claim
import GoSem.ClaimJoined
import GoSem.ClaimMapViews
import Derived.JoinedTies
import Derived.KernelRfl
namespace Go.Proofs.Ytdpggcpbgfancaa
/- THE CELL 'sum', in the pinned program and in every row, IS THE sha256 OF THE DUMP (.gsa) THAT YtdpggcpbgfancaaProg.lean LOADS. Nothing in Lean hashes anything: it is a label: what it is worth is what the hold of that sum in a sandbox is worth. -/
noncomputable def Try.pinned : Pinned := { name := "ytdpggcpbgfancaa", sum := "7191bea9d40cb2b202a7d5ee54ff6fdc9355ce81d96ac57e17e63dbc221b3ae4", checked := Try.checked }
namespace Rows
def none {H : Type} : Left H := { results := [], args := [] }

/-- 'twainlaw18.WireForms': WHATEVER THE INPUT: true; the input reads as it did. -/
def wireFormsSpec : ChangeSpec := { name := "wireForms", fn := fun _ => fun
  | [d] => { results := [.lit (.bool true)], args := [d] }
  | _ => none }
def wireFormsRow : OpenClaim := { program := "ytdpggcpbgfancaa", sum := "7191bea9d40cb2b202a7d5ee54ff6fdc9355ce81d96ac57e17e63dbc221b3ae4", func := "twain/twainlaw18.WireForms", spec := "wireForms", unfollowed := true, recurses := true, apart := false }
def WireFormsSaid : Prop := wireFormsRow.holds Try.pinned (OpenSpec.ofChange wireFormsSpec)

/-- ITS FALSE NEIGHBOUR: 'it returns false'. Refute it at one input. -/
def wireFormsWrong : ChangeSpec := { name := "wireForms", fn := fun _ => fun
  | [d] => { results := [.lit (.bool false)], args := [d] }
  | _ => none }
def WireFormsWrongFalsely : Prop := wireFormsRow.holds Try.pinned (OpenSpec.ofChange wireFormsWrong)

/-- 'twainlaw18.WireReads': WHATEVER THE INPUT: true; the input reads as it did. -/
def wireReadsSpec : ChangeSpec := { name := "wireReads", fn := fun _ => fun
  | [d] => { results := [.lit (.bool true)], args := [d] }
  | _ => none }
def wireReadsRow : OpenClaim := { program := "ytdpggcpbgfancaa", sum := "7191bea9d40cb2b202a7d5ee54ff6fdc9355ce81d96ac57e17e63dbc221b3ae4", func := "twain/twainlaw18.WireReads", spec := "wireReads", unfollowed := true, recurses := true, apart := false }
def WireReadsSaid : Prop := wireReadsRow.holds Try.pinned (OpenSpec.ofChange wireReadsSpec)

/-- ITS FALSE NEIGHBOUR: 'it returns false'. Refute it at one input. -/
def wireReadsWrong : ChangeSpec := { name := "wireReads", fn := fun _ => fun
  | [d] => { results := [.lit (.bool false)], args := [d] }
  | _ => none }
def WireReadsWrongFalsely : Prop := wireReadsRow.holds Try.pinned (OpenSpec.ofChange wireReadsWrong)

/-- 'twainlaw18.WireTurned': WHATEVER THE INPUT: true; the input reads as it did. -/
def wireTurnedSpec : ChangeSpec := { name := "wireTurned", fn := fun _ => fun
  | [d1, d2] => { results := [.lit (.bool true)], args := [d1, d2] }
  | _ => none }
def wireTurnedRow : OpenClaim := { program := "ytdpggcpbgfancaa", sum := "7191bea9d40cb2b202a7d5ee54ff6fdc9355ce81d96ac57e17e63dbc221b3ae4", func := "twain/twainlaw18.WireTurned", spec := "wireTurned", unfollowed := true, recurses := true, apart := false }
def WireTurnedSaid : Prop := wireTurnedRow.holds Try.pinned (OpenSpec.ofChange wireTurnedSpec)

/-- ITS FALSE NEIGHBOUR: 'it returns false'. Refute it at one input. -/
def wireTurnedWrong : ChangeSpec := { name := "wireTurned", fn := fun _ => fun
  | [d1, d2] => { results := [.lit (.bool false)], args := [d1, d2] }
  | _ => none }
def WireTurnedWrongFalsely : Prop := wireTurnedRow.holds Try.pinned (OpenSpec.ofChange wireTurnedWrong)

/-- 'twainlaw17.PackForms': WHATEVER THE INPUT: true; the input reads as it did. -/
def packFormsSpec : ChangeSpec := { name := "packForms", fn := fun _ => fun
  | [d] => { results := [.lit (.bool true)], args := [d] }
  | _ => none }
def packFormsRow : OpenClaim := { program := "ytdpggcpbgfancaa", sum := "7191bea9d40cb2b202a7d5ee54ff6fdc9355ce81d96ac57e17e63dbc221b3ae4", func := "twain/twainlaw17.PackForms", spec := "packForms", apart := false }
def PackFormsSaid : Prop := packFormsRow.holds Try.pinned (OpenSpec.ofChange packFormsSpec)

/-- ITS FALSE NEIGHBOUR: 'it returns false'. Refute it at one input. -/
def packFormsWrong : ChangeSpec := { name := "packForms", fn := fun _ => fun
  | [d] => { results := [.lit (.bool false)], args := [d] }
  | _ => none }
def PackFormsWrongFalsely : Prop := packFormsRow.holds Try.pinned (OpenSpec.ofChange packFormsWrong)

/-- 'twainlaw17.PackReads': WHATEVER THE INPUT: true; the input reads as it did. -/
def packReadsSpec : ChangeSpec := { name := "packReads", fn := fun _ => fun
  | [d] => { results := [.lit (.bool true)], args := [d] }
  | _ => none }
def packReadsRow : OpenClaim := { program := "ytdpggcpbgfancaa", sum := "7191bea9d40cb2b202a7d5ee54ff6fdc9355ce81d96ac57e17e63dbc221b3ae4", func := "twain/twainlaw17.PackReads", spec := "packReads", apart := false }
def PackReadsSaid : Prop := packReadsRow.holds Try.pinned (OpenSpec.ofChange packReadsSpec)

/-- ITS FALSE NEIGHBOUR: 'it returns false'. Refute it at one input. -/
def packReadsWrong : ChangeSpec := { name := "packReads", fn := fun _ => fun
  | [d] => { results := [.lit (.bool false)], args := [d] }
  | _ => none }
def PackReadsWrongFalsely : Prop := packReadsRow.holds Try.pinned (OpenSpec.ofChange packReadsWrong)

/-- 'twainlaw18.WireBack': WHATEVER THE INPUT: true; the input reads as it did. -/
def wireBackSpec : ChangeSpec := { name := "wireBack", fn := fun _ => fun
  | [d1, d2] => { results := [.lit (.bool true)], args := [d1, d2] }
  | _ => none }
def wireBackRow : OpenClaim := { program := "ytdpggcpbgfancaa", sum := "7191bea9d40cb2b202a7d5ee54ff6fdc9355ce81d96ac57e17e63dbc221b3ae4", func := "twain/twainlaw18.WireBack", spec := "wireBack", unfollowed := true, recurses := true, apart := false }
def WireBackSaid : Prop := wireBackRow.holds Try.pinned (OpenSpec.ofChange wireBackSpec)

/-- ITS FALSE NEIGHBOUR: 'it returns false'. Refute it at one input. -/
def wireBackWrong : ChangeSpec := { name := "wireBack", fn := fun _ => fun
  | [d1, d2] => { results := [.lit (.bool false)], args := [d1, d2] }
  | _ => none }
def WireBackWrongFalsely : Prop := wireBackRow.holds Try.pinned (OpenSpec.ofChange wireBackWrong)

/-- 'twainlaw17.PackBack': WHATEVER THE INPUT: true; the input reads as it did. -/
def packBackSpec : ChangeSpec := { name := "packBack", fn := fun _ => fun
  | [d1, d2, d3] => { results := [.lit (.bool true)], args := [d1, d2, d3] }
  | _ => none }
def packBackRow : OpenClaim := { program := "ytdpggcpbgfancaa", sum := "7191bea9d40cb2b202a7d5ee54ff6fdc9355ce81d96ac57e17e63dbc221b3ae4", func := "twain/twainlaw17.PackBack", spec := "packBack", apart := false }
def PackBackSaid : Prop := packBackRow.holds Try.pinned (OpenSpec.ofChange packBackSpec)

/-- ITS FALSE NEIGHBOUR: 'it returns false'. Refute it at one input. -/
def packBackWrong : ChangeSpec := { name := "packBack", fn := fun _ => fun
  | [d1, d2, d3] => { results := [.lit (.bool false)], args := [d1, d2, d3] }
  | _ => none }
def PackBackWrongFalsely : Prop := packBackRow.holds Try.pinned (OpenSpec.ofChange packBackWrong)

/-- 'twainlaw17.PackSame': WHATEVER THE INPUT: true; the input reads as it did. -/
def packSameSpec : ChangeSpec := { name := "packSame", fn := fun _ => fun
  | [d1, d2] => { results := [.lit (.bool true)], args := [d1, d2] }
  | _ => none }
def packSameRow : OpenClaim := { program := "ytdpggcpbgfancaa", sum := "7191bea9d40cb2b202a7d5ee54ff6fdc9355ce81d96ac57e17e63dbc221b3ae4", func := "twain/twainlaw17.PackSame", spec := "packSame", apart := false }
def PackSameSaid : Prop := packSameRow.holds Try.pinned (OpenSpec.ofChange packSameSpec)

/-- ITS FALSE NEIGHBOUR: 'it returns false'. Refute it at one input. -/
def packSameWrong : ChangeSpec := { name := "packSame", fn := fun _ => fun
  | [d1, d2] => { results := [.lit (.bool false)], args := [d1, d2] }
  | _ => none }
def PackSameWrongFalsely : Prop := packSameRow.holds Try.pinned (OpenSpec.ofChange packSameWrong)

/-- 'twainlaw07.SlotsPlaces': WHATEVER THE INPUT: true; the input reads as it did. -/
def slotsPlacesSpec : ChangeSpec := { name := "slotsPlaces", fn := fun _ => fun
  | [d1, d2, d3] => { results := [.lit (.bool true)], args := [d1, d2, d3] }
  | _ => none }
def slotsPlacesRow : OpenClaim := { program := "ytdpggcpbgfancaa", sum := "7191bea9d40cb2b202a7d5ee54ff6fdc9355ce81d96ac57e17e63dbc221b3ae4", func := "twain/twainlaw07.SlotsPlaces", spec := "slotsPlaces", apart := false }
def SlotsPlacesSaid : Prop := slotsPlacesRow.holds Try.pinned (OpenSpec.ofChange slotsPlacesSpec)

/-- ITS FALSE NEIGHBOUR: 'it returns false'. Refute it at one input. -/
def slotsPlacesWrong : ChangeSpec := { name := "slotsPlaces", fn := fun _ => fun
  | [d1, d2, d3] => { results := [.lit (.bool false)], args := [d1, d2, d3] }
  | _ => none }
def SlotsPlacesWrongFalsely : Prop := slotsPlacesRow.holds Try.pinned (OpenSpec.ofChange slotsPlacesWrong)

/-- 'twainlaw07.SlotsNone': WHATEVER THE INPUT: true; the input reads as it did. -/
def slotsNoneSpec : ChangeSpec := { name := "slotsNone", fn := fun _ => fun
  | [d1, d2] => { results := [.lit (.bool true)], args := [d1, d2] }
  | _ => none }
def slotsNoneRow : OpenClaim := { program := "ytdpggcpbgfancaa", sum := "7191bea9d40cb2b202a7d5ee54ff6fdc9355ce81d96ac57e17e63dbc221b3ae4", func := "twain/twainlaw07.SlotsNone", spec := "slotsNone", apart := false }
def SlotsNoneSaid : Prop := slotsNoneRow.holds Try.pinned (OpenSpec.ofChange slotsNoneSpec)

/-- ITS FALSE NEIGHBOUR: 'it returns false'. Refute it at one input. -/
def slotsNoneWrong : ChangeSpec := { name := "slotsNone", fn := fun _ => fun
  | [d1, d2] => { results := [.lit (.bool false)], args := [d1, d2] }
  | _ => none }
def SlotsNoneWrongFalsely : Prop := slotsNoneRow.holds Try.pinned (OpenSpec.ofChange slotsNoneWrong)

/-- 'twainlaw08.SuperNone': WHATEVER THE INPUT: true; the input reads as it did. -/
def superNoneSpec : ChangeSpec := { name := "superNone", fn := fun _ => fun
  | [d] => { results := [.lit (.bool true)], args := [d] }
  | _ => none }
def superNoneRow : OpenClaim := { program := "ytdpggcpbgfancaa", sum := "7191bea9d40cb2b202a7d5ee54ff6fdc9355ce81d96ac57e17e63dbc221b3ae4", func := "twain/twainlaw08.SuperNone", spec := "superNone", unfollowed := true, recurses := true, apart := false }
def SuperNoneSaid : Prop := superNoneRow.holds Try.pinned (OpenSpec.ofChange superNoneSpec)

/-- ITS FALSE NEIGHBOUR: 'it returns false'. Refute it at one input. -/
def superNoneWrong : ChangeSpec := { name := "superNone", fn := fun _ => fun
  | [d] => { results := [.lit (.bool false)], args := [d] }
  | _ => none }
def SuperNoneWrongFalsely : Prop := superNoneRow.holds Try.pinned (OpenSpec.ofChange superNoneWrong)

/-- 'twainlaw10.ActlogNone': WHATEVER THE INPUT: true; the input reads as it did. -/
def actlogNoneSpec : ChangeSpec := { name := "actlogNone", fn := fun _ => fun
  | [d] => { results := [.lit (.bool true)], args := [d] }
  | _ => none }
def actlogNoneRow : OpenClaim := { program := "ytdpggcpbgfancaa", sum := "7191bea9d40cb2b202a7d5ee54ff6fdc9355ce81d96ac57e17e63dbc221b3ae4", func := "twain/twainlaw10.ActlogNone", spec := "actlogNone", unfollowed := true, recurses := true, apart := false }
def ActlogNoneSaid : Prop := actlogNoneRow.holds Try.pinned (OpenSpec.ofChange actlogNoneSpec)

/-- ITS FALSE NEIGHBOUR: 'it returns false'. Refute it at one input. -/
def actlogNoneWrong : ChangeSpec := { name := "actlogNone", fn := fun _ => fun
  | [d] => { results := [.lit (.bool false)], args := [d] }
  | _ => none }
def ActlogNoneWrongFalsely : Prop := actlogNoneRow.holds Try.pinned (OpenSpec.ofChange actlogNoneWrong)

/-- 'twainlaw48.VolumeBack': WHATEVER THE INPUT: true; the input reads as it did. -/
def volumeBackSpec : ChangeSpec := { name := "volumeBack", fn := fun _ => fun
  | [d1, d2, d3] => { results := [.lit (.bool true)], args := [d1, d2, d3] }
  | _ => none }
def volumeBackRow : OpenClaim := { program := "ytdpggcpbgfancaa", sum := "7191bea9d40cb2b202a7d5ee54ff6fdc9355ce81d96ac57e17e63dbc221b3ae4", func := "twain/twainlaw48.VolumeBack", spec := "volumeBack", unfollowed := true, recurses := true, apart := false }
def VolumeBackSaid : Prop := volumeBackRow.holds Try.pinned (OpenSpec.ofChange volumeBackSpec)

/-- ITS FALSE NEIGHBOUR: 'it returns false'. Refute it at one input. -/
def volumeBackWrong : ChangeSpec := { name := "volumeBack", fn := fun _ => fun
  | [d1, d2, d3] => { results := [.lit (.bool false)], args := [d1, d2, d3] }
  | _ => none }
def VolumeBackWrongFalsely : Prop := volumeBackRow.holds Try.pinned (OpenSpec.ofChange volumeBackWrong)

/-- 'twainlaw11.DirtyNone': WHATEVER THE INPUT: true; the input reads as it did. -/
def dirtyNoneSpec : ChangeSpec := { name := "dirtyNone", fn := fun _ => fun
  | [d1, d2] => { results := [.lit (.bool true)], args := [d1, d2] }
  | _ => none }
def dirtyNoneRow : OpenClaim := { program := "ytdpggcpbgfancaa", sum := "7191bea9d40cb2b202a7d5ee54ff6fdc9355ce81d96ac57e17e63dbc221b3ae4", func := "twain/twainlaw11.DirtyNone", spec := "dirtyNone", unfollowed := true, recurses := true, apart := false }
def DirtyNoneSaid : Prop := dirtyNoneRow.holds Try.pinned (OpenSpec.ofChange dirtyNoneSpec)

/-- ITS FALSE NEIGHBOUR: 'it returns false'. Refute it at one input. -/
def dirtyNoneWrong : ChangeSpec := { name := "dirtyNone", fn := fun _ => fun
  | [d1, d2] => { results := [.lit (.bool false)], args := [d1, d2] }
  | _ => none }
def DirtyNoneWrongFalsely : Prop := dirtyNoneRow.holds Try.pinned (OpenSpec.ofChange dirtyNoneWrong)

/-- 'twainlaw13.MetaNone': WHATEVER THE INPUT: true; the input reads as it did. -/
def metaNoneSpec : ChangeSpec := { name := "metaNone", fn := fun _ => fun
  | [d] => { results := [.lit (.bool true)], args := [d] }
  | _ => none }
def metaNoneRow : OpenClaim := { program := "ytdpggcpbgfancaa", sum := "7191bea9d40cb2b202a7d5ee54ff6fdc9355ce81d96ac57e17e63dbc221b3ae4", func := "twain/twainlaw13.MetaNone", spec := "metaNone", unfollowed := true, recurses := true, apart := false }
def MetaNoneSaid : Prop := metaNoneRow.holds Try.pinned (OpenSpec.ofChange metaNoneSpec)

/-- ITS FALSE NEIGHBOUR: 'it returns false'. Refute it at one input. -/
def metaNoneWrong : ChangeSpec := { name := "metaNone", fn := fun _ => fun
  | [d] => { results := [.lit (.bool false)], args := [d] }
  | _ => none }
def MetaNoneWrongFalsely : Prop := metaNoneRow.holds Try.pinned (OpenSpec.ofChange metaNoneWrong)

/- THE SECOND FORM. 'bulk': how many values and letters a reading holds, each counted each time it is reached (what is shared counts as often as it is met; a slice's spare places count too). A statement '..UptoSaid' is the law's where the arguments, and the package variables that the reading takes, are together of bulk at most 1048576: NARROWER than '..Said'. Prove '..Said' where nothing that the law and all that it calls make is longer than what came in: it says more and counts as full. Else prove '..UptoSaid'. A law counts once. -/
mutual
def uptoBulk {H : Type} : DataW H → Nat
  | .lit (.string bytes) => bytes.length + 1
  | .lit _ => 1
  | .nil => 1
  | .ptr d => uptoBulk d + 1
  | .slice elems spare => uptoBulkAll elems + uptoBulkAll spare + 1
  | .agg parts => uptoBulkAll parts + 1
  | .iface _ d => uptoBulk d + 1
  | .map entries => uptoBulkEntries entries + 1
  | .held _ => 1
def uptoBulkAll {H : Type} : List (DataW H) → Nat
  | [] => 0
  | d :: r => uptoBulk d + uptoBulkAll r
def uptoBulkEntries {H : Type} : List (Lit × DataW H) → Nat
  | [] => 0
  | x :: r => uptoBulkEntry x + uptoBulkEntries r
def uptoBulkEntry {H : Type} : Lit × DataW H → Nat
  | (.string bytes, d) => bytes.length + uptoBulk d + 1
  | (_, d) => uptoBulk d + 1
 end
def uptoSmall : (H : Type) → List (DataW H) → Bool := fun _ ds => decide (uptoBulkAll ds ≤ 1048576)
def OpenSpec.upto (s : _root_.Go.ChangeSpec) : _root_.Go.OpenSpec := { _root_.Go.OpenSpec.ofChange s with cond := some uptoSmall }

/-- 'twainlaw18.WireForms', WHERE WHAT IT READS IS OF BULK AT MOST 1048576: true; the input reads as it did. -/
def wireFormsUptoRow : OpenClaim := { program := "ytdpggcpbgfancaa", sum := "7191bea9d40cb2b202a7d5ee54ff6fdc9355ce81d96ac57e17e63dbc221b3ae4", func := "twain/twainlaw18.WireForms", spec := "wireForms", unfollowed := true, recurses := true, apart := false, narrowed := true }
def WireFormsUptoSaid : Prop := wireFormsUptoRow.holds Try.pinned (OpenSpec.upto wireFormsSpec)

/-- 'twainlaw18.WireReads', WHERE WHAT IT READS IS OF BULK AT MOST 1048576: true; the input reads as it did. -/
def wireReadsUptoRow : OpenClaim := { program := "ytdpggcpbgfancaa", sum := "7191bea9d40cb2b202a7d5ee54ff6fdc9355ce81d96ac57e17e63dbc221b3ae4", func := "twain/twainlaw18.WireReads", spec := "wireReads", unfollowed := true, recurses := true, apart := false, narrowed := true }
def WireReadsUptoSaid : Prop := wireReadsUptoRow.holds Try.pinned (OpenSpec.upto wireReadsSpec)

/-- 'twainlaw18.WireTurned', WHERE WHAT IT READS IS OF BULK AT MOST 1048576: true; the input reads as it did. -/
def wireTurnedUptoRow : OpenClaim := { program := "ytdpggcpbgfancaa", sum := "7191bea9d40cb2b202a7d5ee54ff6fdc9355ce81d96ac57e17e63dbc221b3ae4", func := "twain/twainlaw18.WireTurned", spec := "wireTurned", unfollowed := true, recurses := true, apart := false, narrowed := true }
def WireTurnedUptoSaid : Prop := wireTurnedUptoRow.holds Try.pinned (OpenSpec.upto wireTurnedSpec)

/-- 'twainlaw17.PackForms', WHERE WHAT IT READS IS OF BULK AT MOST 1048576: true; the input reads as it did. -/
def packFormsUptoRow : OpenClaim := { program := "ytdpggcpbgfancaa", sum := "7191bea9d40cb2b202a7d5ee54ff6fdc9355ce81d96ac57e17e63dbc221b3ae4", func := "twain/twainlaw17.PackForms", spec := "packForms", apart := false, narrowed := true }
def PackFormsUptoSaid : Prop := packFormsUptoRow.holds Try.pinned (OpenSpec.upto packFormsSpec)

/-- 'twainlaw17.PackReads', WHERE WHAT IT READS IS OF BULK AT MOST 1048576: true; the input reads as it did. -/
def packReadsUptoRow : OpenClaim := { program := "ytdpggcpbgfancaa", sum := "7191bea9d40cb2b202a7d5ee54ff6fdc9355ce81d96ac57e17e63dbc221b3ae4", func := "twain/twainlaw17.PackReads", spec := "packReads", apart := false, narrowed := true }
def PackReadsUptoSaid : Prop := packReadsUptoRow.holds Try.pinned (OpenSpec.upto packReadsSpec)

/-- 'twainlaw18.WireBack', WHERE WHAT IT READS IS OF BULK AT MOST 1048576: true; the input reads as it did. -/
def wireBackUptoRow : OpenClaim := { program := "ytdpggcpbgfancaa", sum := "7191bea9d40cb2b202a7d5ee54ff6fdc9355ce81d96ac57e17e63dbc221b3ae4", func := "twain/twainlaw18.WireBack", spec := "wireBack", unfollowed := true, recurses := true, apart := false, narrowed := true }
def WireBackUptoSaid : Prop := wireBackUptoRow.holds Try.pinned (OpenSpec.upto wireBackSpec)

/-- 'twainlaw17.PackBack', WHERE WHAT IT READS IS OF BULK AT MOST 1048576: true; the input reads as it did. -/
def packBackUptoRow : OpenClaim := { program := "ytdpggcpbgfancaa", sum := "7191bea9d40cb2b202a7d5ee54ff6fdc9355ce81d96ac57e17e63dbc221b3ae4", func := "twain/twainlaw17.PackBack", spec := "packBack", apart := false, narrowed := true }
def PackBackUptoSaid : Prop := packBackUptoRow.holds Try.pinned (OpenSpec.upto packBackSpec)

/-- 'twainlaw17.PackSame', WHERE WHAT IT READS IS OF BULK AT MOST 1048576: true; the input reads as it did. -/
def packSameUptoRow : OpenClaim := { program := "ytdpggcpbgfancaa", sum := "7191bea9d40cb2b202a7d5ee54ff6fdc9355ce81d96ac57e17e63dbc221b3ae4", func := "twain/twainlaw17.PackSame", spec := "packSame", apart := false, narrowed := true }
def PackSameUptoSaid : Prop := packSameUptoRow.holds Try.pinned (OpenSpec.upto packSameSpec)

/-- 'twainlaw07.SlotsPlaces', WHERE WHAT IT READS IS OF BULK AT MOST 1048576: true; the input reads as it did. -/
def slotsPlacesUptoRow : OpenClaim := { program := "ytdpggcpbgfancaa", sum := "7191bea9d40cb2b202a7d5ee54ff6fdc9355ce81d96ac57e17e63dbc221b3ae4", func := "twain/twainlaw07.SlotsPlaces", spec := "slotsPlaces", apart := false, narrowed := true }
def SlotsPlacesUptoSaid : Prop := slotsPlacesUptoRow.holds Try.pinned (OpenSpec.upto slotsPlacesSpec)

/-- 'twainlaw07.SlotsNone', WHERE WHAT IT READS IS OF BULK AT MOST 1048576: true; the input reads as it did. -/
def slotsNoneUptoRow : OpenClaim := { program := "ytdpggcpbgfancaa", sum := "7191bea9d40cb2b202a7d5ee54ff6fdc9355ce81d96ac57e17e63dbc221b3ae4", func := "twain/twainlaw07.SlotsNone", spec := "slotsNone", apart := false, narrowed := true }
def SlotsNoneUptoSaid : Prop := slotsNoneUptoRow.holds Try.pinned (OpenSpec.upto slotsNoneSpec)

/-- 'twainlaw08.SuperNone', WHERE WHAT IT READS IS OF BULK AT MOST 1048576: true; the input reads as it did. -/
def superNoneUptoRow : OpenClaim := { program := "ytdpggcpbgfancaa", sum := "7191bea9d40cb2b202a7d5ee54ff6fdc9355ce81d96ac57e17e63dbc221b3ae4", func := "twain/twainlaw08.SuperNone", spec := "superNone", unfollowed := true, recurses := true, apart := false, narrowed := true }
def SuperNoneUptoSaid : Prop := superNoneUptoRow.holds Try.pinned (OpenSpec.upto superNoneSpec)

/-- 'twainlaw10.ActlogNone', WHERE WHAT IT READS IS OF BULK AT MOST 1048576: true; the input reads as it did. -/
def actlogNoneUptoRow : OpenClaim := { program := "ytdpggcpbgfancaa", sum := "7191bea9d40cb2b202a7d5ee54ff6fdc9355ce81d96ac57e17e63dbc221b3ae4", func := "twain/twainlaw10.ActlogNone", spec := "actlogNone", unfollowed := true, recurses := true, apart := false, narrowed := true }
def ActlogNoneUptoSaid : Prop := actlogNoneUptoRow.holds Try.pinned (OpenSpec.upto actlogNoneSpec)

/-- 'twainlaw48.VolumeBack', WHERE WHAT IT READS IS OF BULK AT MOST 1048576: true; the input reads as it did. -/
def volumeBackUptoRow : OpenClaim := { program := "ytdpggcpbgfancaa", sum := "7191bea9d40cb2b202a7d5ee54ff6fdc9355ce81d96ac57e17e63dbc221b3ae4", func := "twain/twainlaw48.VolumeBack", spec := "volumeBack", unfollowed := true, recurses := true, apart := false, narrowed := true }
def VolumeBackUptoSaid : Prop := volumeBackUptoRow.holds Try.pinned (OpenSpec.upto volumeBackSpec)

/-- 'twainlaw11.DirtyNone', WHERE WHAT IT READS IS OF BULK AT MOST 1048576: true; the input reads as it did. -/
def dirtyNoneUptoRow : OpenClaim := { program := "ytdpggcpbgfancaa", sum := "7191bea9d40cb2b202a7d5ee54ff6fdc9355ce81d96ac57e17e63dbc221b3ae4", func := "twain/twainlaw11.DirtyNone", spec := "dirtyNone", unfollowed := true, recurses := true, apart := false, narrowed := true }
def DirtyNoneUptoSaid : Prop := dirtyNoneUptoRow.holds Try.pinned (OpenSpec.upto dirtyNoneSpec)

/-- 'twainlaw13.MetaNone', WHERE WHAT IT READS IS OF BULK AT MOST 1048576: true; the input reads as it did. -/
def metaNoneUptoRow : OpenClaim := { program := "ytdpggcpbgfancaa", sum := "7191bea9d40cb2b202a7d5ee54ff6fdc9355ce81d96ac57e17e63dbc221b3ae4", func := "twain/twainlaw13.MetaNone", spec := "metaNone", unfollowed := true, recurses := true, apart := false, narrowed := true }
def MetaNoneUptoSaid : Prop := metaNoneUptoRow.holds Try.pinned (OpenSpec.upto metaNoneSpec)

end Rows
end Go.Proofs.Ytdpggcpbgfancaa
