/- The law SealPuts, walked. Conditions: none. -/
import Derived.Test.YtpbcmghfhflkbaaSeal5
set_option linter.unusedVariables false
set_option linter.unusedSimpArgs false
namespace Go.Proofs.Ytpbcmghfhflkbaa.Seal
open Go.RowKit Tw
open Crc (le sealed le_length sealed_length)
set_option maxHeartbeats 400000

theorem rd_lit (w : World) (e : TypeId) (xs : List Value) (n : Nat) (hl : xs.length = n) (hm : n ≤ maxLen) : Rd (w.alloc (.cells xs.toArray e)) 1 (some ⟨w.heap.size, 0, none⟩) n n xs :=
  rd_of_heap (heap_alloc_new w _) hl hm
theorem c_Get_is (l : List UInt8) (k : Nat) (A : Option Addr) (n c : Nat) (b : List UInt8) (w : World) (hb : Byt w A n c b) (hn : n ≤ 140737488351000) (hg : get b = (l, k)) :
    Calls Try.prog 209 #[.slice A n c] w fun e w' => ∃ A2 c2, e = .returned (.tuple #[.slice A2 l.length c2, .int .i64 (k : Int)]) ∧ Byt w' A2 l.length c2 l ∧ Below w.heap.size w w' := by
  have h := c_Get A n c b w hb hn
  rw [hg] at h
  exact h
theorem c_rGet_is (l : List UInt8) (k : Nat) (A : Option Addr) (n c : Nat) (b : List UInt8) (w : World) (hb : Byt w A n c b) (hn : n ≤ 140737488351000) (hg : get b = (l, k)) :
    Calls Try.prog 240 #[.slice A n c] w fun e w' => ∃ A2 c2, e = .returned (.tuple #[.slice A2 l.length c2, .int .i64 (k : Int)]) ∧ Byt w' A2 l.length c2 l ∧ Below w.heap.size w w' := by
  have h := c_rGet A n c b w hb hn
  rw [hg] at h
  exact h
end Go.Proofs.Ytpbcmghfhflkbaa.Seal
