/- The laws SlotsPlaces and SlotsNone, walked. Conditions: none. -/
import Derived.Test.YtplemdgihlabgaaSlots4
set_option linter.unusedVariables false
set_option linter.unusedSimpArgs false
namespace Go.Proofs.Ytplemdgihlabgaa.Slots
open Go.RowKit Tw Disk
set_option maxHeartbeats 4000000
set_option maxRecDepth 100000
theorem c_dNewI' (X : Int) (n : Nat) (hX : X = (n : Int)) (w : World) (h1 : 1 ≤ n) (h2 : n ≤ 1024) :
    Calls Try.prog 27 #[.int .i64 X] w fun e w' => ∃ p g mb, e = .returned (.tuple #[.pointer (some ⟨p, 0, none⟩), .int .i64 0]) ∧ Dk w' p g mb n (Dsk.new n) ∧ (w.heap.size ≤ p ∧ w.heap.size ≤ g ∧ w.heap.size ≤ mb) ∧ Below w.heap.size w w' := by
  subst hX
  exact c_dNew n w h1 h2
theorem c_PutI {w : World} {p g mb c : Nat} {d d' : Dsk} (h : Dk w p g mb c d) (ho : d.ops + 1 < 1000000000) (b s : Int) (X : Int) (x : Nat) (hX : X = (x : Int)) (hx : x < 18446744073709551616) (e : Nat) (hs : sput d b s x = (d', e)) :
    Calls Try.prog 213 #[.pointer (some ⟨p, 0, none⟩), .int .i64 b, .int .i64 s, .int .u64 X] w fun e' w' => e' = .returned (.int .i64 (e : Int)) ∧ Dk w' p g mb c d' ∧ Fr (fun k => k = p ∨ k = g ∨ k = mb) w w' := by
  subst hX
  have h1 := c_Put h ho b s x hx
  rw [hs] at h1
  exact h1
theorem Dk.fresh {w0 w w' : World} {p g mb : Nat} (h : w0.heap.size ≤ p ∧ w0.heap.size ≤ g ∧ w0.heap.size ≤ mb) (hB : Below w0.heap.size w0 w) (f : Fr (fun k => k = p ∨ k = g ∨ k = mb) w w') : Below w0.heap.size w0 w' :=
  hB.trans (f.bel (fun k e => by omega) hB.size)
end Go.Proofs.Ytplemdgihlabgaa.Slots
