/- Contracts of the package seal, and of its reference. Conditions: none. -/
import Derived.Test.YtpbcmghfhflkbaaCrc
import Derived.Test.YtpbcmghfhflkbaaSealLaw
import Derived.Test.YtpbcmghfhflkbaaNum
set_option linter.unusedVariables false
set_option linter.unusedSimpArgs false
namespace Go.Proofs.Ytpbcmghfhflkbaa.Seal
open Go.RowKit Tw
open Crc (le sealed le_length sealed_length)
set_option maxHeartbeats 400000

theorem le_snoc (b : List UInt8) (k S y : Nat) (hy : y = S / 256 ^ k) : bytesV (b ++ le k S) ++ [Value.int .u8 ((y : Int) % 256)] = bytesV (b ++ le (k + 1) S) := by
  subst hy
  simp only [le, bytesV, List.map_append, List.append_assoc, List.map_cons, List.map_nil]
  congr 3
  simp

theorem c_rPut (A : Option Addr) (n c : Nat) (b : List UInt8) (w : World) (hb : Byt w A n c b) (hn : n ≤ 140737488351000) :
    Calls Try.prog 167 #[.slice A n c] w fun e w' => ∃ A2 c2, e = .returned (.slice A2 (n + 4) c2) ∧ Own w' w.heap.size 5 1 A2 (n + 4) c2 (bytesV (sealed b)) ∧ Below w.heap.size w w' := by
  have Hb := Lib.hid hb
  have hS := Crc.sum_lt b
  unfold sealed
  go_enter Try.func167, Try.ntmps167
  go_wp2_with (first
    | (at_builtin
       refine wpL_append _ rfl (.tmp 6) (.tmp 7) _ rfl w w.heap.size (bel_alloc (Below.refl _ _) (Nat.le_refl _) _) (size_alloc_le (Nat.le_refl _) _) 5 _ 1 1 Try.underlying96 Num.info_u8 rfl (by omega) _ _ _ [] rfl (own_empty _ _ _ _ (Nat.le_refl _)) _ _ _ _ rfl (Hb.out.alloc _) bytesV_one n (bytesV b) (by omega) rfl (by unfold maxLen; omega) (by omega) ?_
       intro A1 c1 w1 hown1 hb1 hg1 ho1
       clear hg1 ho1)
    | (go_at_call 220
       (with_reducible refine (Crc.c_rSum _ _ _ b _ (Hb.out.bel hb1)).mono ?_)
       rintro e w2 ⟨rfl, hb2⟩))
  generalize hSe : Crc.sum b = S at *
  have HSe := Lib.hid hSe
  clear hSe
  have hB2 : Below w.heap.size w w2 := hb1.trans ⟨hb2.os, hb2.tape, hb2.output, hb2.size, fun i hi => hb2.block i (Nat.lt_of_lt_of_le hi hb1.size)⟩
  have Hown := Lib.hid (hown1.bel hb2)
  clear hown1 hb1 hb2
  go_loopw [3, 4, 5] (fun v u i wr => ∃ (k y : Nat) (A2 : Option Addr) (c2 : Nat), k ≤ 4 ∧ i = .int .i64 (k : Int) ∧ u = .int .u32 (y : Int) ∧ v = .slice A2 (n + k) c2 ∧ Hid (y = S / 256 ^ k) ∧ Hid (Own wr w.heap.size 5 1 A2 (n + k) c2 (bytesV (b ++ le k S))) ∧ Below w.heap.size w wr) (fun _ _ i _ => 4 - (intOf i).toNat)
  case atStart => exact ⟨0, S, A1, c1, by omega, rfl, rfl, rfl, Lib.hid (by simp), by simpa [le] using Hown, hB2⟩
  case round =>
    obtain ⟨k, y, A2, c2, hk, rfl, rfl, rfl, hy, hown, hB⟩ := hrel
    by_cases hk4 : k < 4
    · have hyl : y < 4294967296 := by rw [hy.out]; exact Nat.lt_of_le_of_lt (Nat.div_le_self _ _) hS
      go_wp2_with (first
        | (at_builtin
           refine wpL_append _ rfl (.tmp 15) (.tmp 19) _ rfl w w.heap.size (bel_alloc hB hB.size _) (size_alloc_le hB.size _) 5 _ 1 1 Try.underlying96 Num.info_u8 rfl (by omega) _ _ _ _ rfl (hown.out.alloc _) _ _ _ _ rfl (rd_one _ _ _) (by simp [Value.oneCell']) (n + (k + 1)) (bytesV (b ++ le (k + 1) S)) (by omega) (le_snoc b k S y hy.out) (by unfold maxLen; omega) (by omega) ?_
           intro A3 c3 w3 hown3 hb3 hg3 ho3
           clear hg3 ho3))
      go_roundw
      case rel => exact ⟨k + 1, y / 256, A3, c3, by omega, by go_num, by first | rfl | simp, rfl, Lib.hid (by rw [hy.out, Nat.div_div_eq_div_mul, ← Nat.pow_succ]), Lib.hid hown3, hb3⟩
      case measure => simp [intOf] <;> omega
    · go_wp2_with fail
      go_ret
      obtain rfl : k = 4 := by omega
      rw [HSe.out]
      exact ⟨A2, c2, rfl, hown.out, hB⟩
end Go.Proofs.Ytpbcmghfhflkbaa.Seal
