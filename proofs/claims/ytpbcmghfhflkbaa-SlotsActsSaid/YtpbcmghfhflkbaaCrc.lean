/- Contracts of the sum of Ethernet, and of its reference. Conditions: none. -/
import Derived.Test.YtpbcmghfhflkbaaCrcLaw
import Derived.Test.YtpbcmghfhflkbaaProg
import Derived.Test.YtpbcmghfhflkbaaFrame
import Derived.Laws.BitsAllLaws
import Derived.IntWalk
set_option linter.unusedVariables false
set_option linter.unusedSimpArgs false
namespace Go.Proofs.Ytpbcmghfhflkbaa.Crc
open Go.RowKit Tw
set_option maxHeartbeats 400000

theorem half_tab {k : Nat} (h : k < 16) : [Value.int .u32 0, Value.int .u32 498536548, Value.int .u32 997073096, Value.int .u32 651767980, Value.int .u32 1994146192, Value.int .u32 1802195444, Value.int .u32 1303535960, Value.int .u32 1342533948, Value.int .u32 3988292384, Value.int .u32 4027552580, Value.int .u32 3604390888, Value.int .u32 3412177804, Value.int .u32 2607071920, Value.int .u32 2262029012, Value.int .u32 2685067896, Value.int .u32 3183342108][k]? = some (Value.int .u32 (tab k : Nat)) := by
  obtain rfl | rfl | rfl | rfl | rfl | rfl | rfl | rfl | rfl | rfl | rfl | rfl | rfl | rfl | rfl | rfl : k = 0 ∨ k = 1 ∨ k = 2 ∨ k = 3 ∨ k = 4 ∨ k = 5 ∨ k = 6 ∨ k = 7 ∨ k = 8 ∨ k = 9 ∨ k = 10 ∨ k = 11 ∨ k = 12 ∨ k = 13 ∨ k = 14 ∨ k = 15 := by omega
  all_goals rfl

theorem c_half (n : Nat) (hn : n < 256) (X : Int) (hX : X = (n : Int)) (w : World) : Calls Try.prog 266 #[.int .u8 X] w fun e w' => e = .returned (.int .u32 (tab (n % 16) : Nat)) ∧ Below w.heap.size w w' := by
  subst hX
  have hT := half_tab (k := n % 16) (by omega)
  generalize tab (n % 16) = tn at *
  go_enter Try.func266, Try.ntmps266
  go_wp2
  go_ret
  exact ⟨rfl, (Below.refl _ _).alloc (Nat.le_refl _) _⟩

theorem c_rStep (x c : Nat) (hx : x < 4294967296) (hc : c < 256) (w : World) : Calls Try.prog 262 #[.int .u32 (x : Int), .int .u8 (c : Int)] w fun e w' => e = .returned (.int .u32 (step x c : Nat)) ∧ w = w' := by
  have hxc := u32_xor_nat x c hx (by omega)
  have hlt : x ^^^ c < 4294967296 := xor_lt 32 hx (by omega)
  unfold step
  generalize x ^^^ c = z at *
  go_enter Try.func262, Try.ntmps262
  go_wp2
  go_loop [0, 5] (fun v i => ∃ k y : Nat, k ≤ 8 ∧ i = .int .i64 (k : Int) ∧ v = .int .u32 (y : Int) ∧ Hid (y = bn k z)) (fun _ i => 8 - (intOf i).toNat)
  case atStart => exact ⟨0, z, by omega, rfl, by first | rfl | rw [hxc], Lib.hid rfl⟩
  case round =>
    obtain ⟨k, y, hk, rfl, rfl, hy⟩ := hrel
    have hyl : y < 4294967296 := by rw [hy.out]; exact bn_lt hlt
    by_cases hk8 : k < 8
    · by_cases hb : y % 2 = 1
      · have hb1 : (((y : Int) % 2) == 1) = true := by simp; omega
        have hq : bits .xor .u32 ((y : Int) / 2) 3988292384 = ((y / 2 ^^^ 3988292384 : Nat) : Int) := u32_xor_nat (y / 2) 3988292384 (by omega) (by omega)
        have hstep : y / 2 ^^^ 3988292384 = b1 y := by unfold b1; rw [if_pos hb]
        rw [hstep] at hq
        have HS := hy
        go_wp2
        go_round
        case rel => exact ⟨k + 1, b1 y, by omega, by go_num, by first | rfl | rw [hq], Lib.hid (by rw [bn_succ, hy.out])⟩
        case measure => simp [intOf] <;> omega
      · have hb1 : (((y : Int) % 2) == 1) = false := by simp; omega
        have hstep : y / 2 = b1 y := by unfold b1; rw [if_neg hb]
        have Hs := Lib.hid hstep
        clear hstep
        go_wp2
        go_round
        case rel => exact ⟨k + 1, y / 2, by omega, by go_num, by first | rfl | simp, Lib.hid (by rw [bn_succ, ← hy.out, Hs.out])⟩
        case measure => simp [intOf] <;> omega
    · go_wp2
      go_ret
      have h8 : y = bn 8 z := by have h := hy.out; rwa [show k = 8 from by omega] at h
      exact ⟨by rw [← h8]; rfl, rfl⟩

theorem c_Step (x c : Nat) (hx : x < 4294967296) (hc : c < 256) (w : World) : Calls Try.prog 265 #[.int .u32 (x : Int), .int .u8 (c : Int)] w fun e w' => e = .returned (.int .u32 (step x c : Nat)) ∧ Below w.heap.size w w' := by
  have hxc := u32_xor_nat x c hx (by omega)
  have hlt : x ^^^ c < 4294967296 := xor_lt 32 hx (by omega)
  unfold step
  generalize x ^^^ c = z at *
  go_enter Try.func265, Try.ntmps265
  go_wp2_with fail
  go_loopw [0, 9] (fun v i wr => ∃ k y : Nat, k ≤ 2 ∧ i = .int .i64 (k : Int) ∧ v = .int .u32 (y : Int) ∧ Hid (y = bn (4 * k) z) ∧ Below w.heap.size w wr) (fun _ i _ => 2 - (intOf i).toNat)
  case atStart => exact ⟨0, z, by omega, rfl, by first | rfl | rw [hxc], Lib.hid rfl, Below.refl _ _⟩
  case round =>
    obtain ⟨k, y, hk, rfl, rfl, hy, hB⟩ := hrel
    have hyl : y < 4294967296 := by rw [hy.out]; exact bn_lt hlt
    by_cases hk2 : k < 2
    · have htl : tab (y % 256 % 16) < 4294967296 := bn_lt (by omega)
      rw [show y % 256 % 16 = y % 16 from by omega] at htl
      have hq : bits .xor .u32 ((y : Int) / 16) (tab (y % 16) : Nat) = ((y / 16 ^^^ tab (y % 16) : Nat) : Int) := u32_xor_nat (y / 16) _ (by omega) htl
      have hstep : y / 16 ^^^ tab (y % 16) = bn 4 y := by rw [four]
      rw [hstep] at hq
      go_wp2_with (first
        | (go_at_call 266
           (with_reducible refine (c_half (y % 256) (by omega) _ (by omega) _).mono ?_)
           rintro e w1 ⟨rfl, hb1⟩))
      go_roundw
      case rel => exact ⟨k + 1, bn 4 y, by omega, by go_num, by first | rfl | rw [hq], Lib.hid (by rw [show 4 * (k + 1) = 4 * k + 4 from by omega, bn_add, hy.out]), hB.trans ⟨hb1.os, hb1.tape, hb1.output, hb1.size, fun i hi => hb1.block i (Nat.lt_of_lt_of_le hi hB.size)⟩⟩
      case measure => simp [intOf] <;> omega
    · go_wp2_with fail
      go_ret
      have h8 : y = bn 8 z := by have h := hy.out; rwa [show k = 2 from by omega] at h
      exact ⟨by rw [← h8]; rfl, hB⟩

theorem run_snoc (x : Nat) (l : List UInt8) (c : UInt8) : run x (l ++ [c]) = step (run x l) c.toNat := by simp [run]

theorem take_snoc {l : List UInt8} {k : Nat} {z : UInt8} (h : l[k]? = some z) : l.take (k + 1) = l.take k ++ [z] := by
  obtain ⟨hl, rfl⟩ := List.getElem?_eq_some_iff.1 h
  rw [List.take_succ_eq_append_getElem hl]
theorem c_More (s : Nat) (hs : s < 4294967296) (A : Option Addr) (n c : Nat) (b : List UInt8) (w : World) (hb : Byt w A n c b) : Calls Try.prog 261 #[.int .u32 (s : Int), .slice A n c] w fun e w' => e = .returned (.int .u32 (run (s ^^^ 4294967295) b ^^^ 4294967295 : Nat)) ∧ Below w.heap.size w w' := by
  have hn := hb.le
  have hc := hb.cap
  have hbl := hb.blen
  unfold maxLen at hc
  have hxs : bits .xor .u32 (s : Int) 4294967295 = ((s ^^^ 4294967295 : Nat) : Int) := u32_xor_nat s 4294967295 hs (by omega)
  have hsl : s ^^^ 4294967295 < 4294967296 := xor_lt 32 hs (by omega)
  generalize s ^^^ 4294967295 = s0 at *
  have Hb := Lib.hid hb
  clear hb
  go_enter Try.func261, Try.ntmps261
  go_wp2_with fail
  go_loopw [5, 11] (fun v i wr => ∃ k y : Nat, k ≤ n ∧ i = .int .i64 (k : Int) ∧ v = .int .u32 (y : Int) ∧ Hid (y = run s0 (b.take k)) ∧ Below w.heap.size w wr) (fun _ i _ => n - (intOf i).toNat)
  case atStart => exact ⟨0, s0, by omega, rfl, by first | rfl | rw [hxs], Lib.hid rfl, Below.refl _ _⟩
  case round =>
    obtain ⟨k, y, hk, rfl, rfl, hy, hB⟩ := hrel
    have hyl : y < 4294967296 := by rw [hy.out]; exact run_lt hsl _
    by_cases hkn : k < n
    · obtain ⟨ad, q, rfl, hq, hcell, hq256⟩ := (Hb.out.below hB (Nat.le_refl _)).atB hkn
      go_wp2_with (first
        | (go_at_call 265
           (with_reducible refine (c_Step y q.toNat hyl hq256 _).mono ?_)
           rintro e w1 ⟨rfl, hb1⟩
           have hB2 := hB.trans ⟨hb1.os, hb1.tape, hb1.output, hb1.size, fun i hi => hb1.block i (Nat.lt_of_lt_of_le hi hB.size)⟩))
      go_roundw
      case rel => exact ⟨k + 1, _, by omega, by go_num, rfl, Lib.hid (by rw [take_snoc hq.out, run_snoc, ← hy.out]), hB2⟩
      case measure => simp [intOf] <;> omega
    · have hkn : k = n := by omega
      have hy2 : run s0 b = y := by have h := hy.out; rw [List.take_of_length_le (by omega)] at h; exact h.symm
      have hyx : bits .xor .u32 (y : Int) 4294967295 = ((y ^^^ 4294967295 : Nat) : Int) := u32_xor_nat y 4294967295 hyl (by omega)
      go_wp2_with fail
      go_ret
      exact ⟨by rw [hy2, ← hyx]; rfl, hB⟩
theorem c_rMore (s : Nat) (hs : s < 4294967296) (A : Option Addr) (n c : Nat) (b : List UInt8) (w : World) (hb : Byt w A n c b) : Calls Try.prog 248 #[.int .u32 (s : Int), .slice A n c] w fun e w' => e = .returned (.int .u32 (run (s ^^^ 4294967295) b ^^^ 4294967295 : Nat)) ∧ Below w.heap.size w w' := by
  have hn := hb.le
  have hc := hb.cap
  have hbl := hb.blen
  unfold maxLen at hc
  have hxs : bits .xor .u32 (s : Int) 4294967295 = ((s ^^^ 4294967295 : Nat) : Int) := u32_xor_nat s 4294967295 hs (by omega)
  have hsl : s ^^^ 4294967295 < 4294967296 := xor_lt 32 hs (by omega)
  generalize s ^^^ 4294967295 = s0 at *
  have Hb := Lib.hid hb
  clear hb
  go_enter Try.func248, Try.ntmps248
  go_wp2_with fail
  go_loopw [5, 12] (fun v i wr => ∃ k y : Nat, k ≤ n ∧ i = .int .i64 (k : Int) ∧ v = .int .u32 (y : Int) ∧ Hid (y = run s0 (b.take k)) ∧ Below w.heap.size w wr) (fun _ i _ => n - (intOf i).toNat)
  case atStart => exact ⟨0, s0, by omega, rfl, by first | rfl | rw [hxs], Lib.hid rfl, Below.refl _ _⟩
  case round =>
    obtain ⟨k, y, hk, rfl, rfl, hy, hB⟩ := hrel
    have hyl : y < 4294967296 := by rw [hy.out]; exact run_lt hsl _
    by_cases hkn : k < n
    · obtain ⟨ad, q, rfl, hq, hcell, hq256⟩ := (Hb.out.below hB (Nat.le_refl _)).atB hkn
      go_wp2_with (first
        | (go_at_call 262
           (with_reducible refine (c_rStep y q.toNat hyl hq256 _).mono ?_)
           rintro e w1 ⟨rfl, hb1⟩
           have hB2 := hB.trans (show Below w.heap.size wr w1 from hb1 ▸ Below.refl _ _)))
      go_roundw
      case rel => exact ⟨k + 1, _, by omega, by go_num, rfl, Lib.hid (by rw [take_snoc hq.out, run_snoc, ← hy.out]), hB2⟩
      case measure => simp [intOf] <;> omega
    · have hkn : k = n := by omega
      have hy2 : run s0 b = y := by have h := hy.out; rw [List.take_of_length_le (by omega)] at h; exact h.symm
      have hyx : bits .xor .u32 (y : Int) 4294967295 = ((y ^^^ 4294967295 : Nat) : Int) := u32_xor_nat y 4294967295 hyl (by omega)
      go_wp2_with fail
      go_ret
      exact ⟨by rw [hy2, ← hyx]; rfl, hB⟩

theorem c_Sum (A : Option Addr) (n c : Nat) (b : List UInt8) (w : World) (hb : Byt w A n c b) : Calls Try.prog 246 #[.slice A n c] w fun e w' => e = .returned (.int .u32 (sum b : Nat)) ∧ Below w.heap.size w w' := by
  have h := c_More 0 (by omega) A n c b w hb
  rw [Nat.zero_xor, show ((0 : Nat) : Int) = 0 from rfl] at h
  have H := Lib.hid h
  clear h
  go_enter Try.func246, Try.ntmps246
  go_wp2_with (first
    | (go_at_call 261
       (with_reducible refine H.out.mono ?_)
       rintro e w1 ⟨rfl, hb1⟩))
  go_ret
  exact ⟨rfl, hb1⟩
theorem c_rSum (A : Option Addr) (n c : Nat) (b : List UInt8) (w : World) (hb : Byt w A n c b) : Calls Try.prog 220 #[.slice A n c] w fun e w' => e = .returned (.int .u32 (sum b : Nat)) ∧ Below w.heap.size w w' := by
  have h := c_rMore 0 (by omega) A n c b w hb
  rw [Nat.zero_xor, show ((0 : Nat) : Int) = 0 from rfl] at h
  have H := Lib.hid h
  clear h
  go_enter Try.func220, Try.ntmps220
  go_wp2_with (first
    | (go_at_call 248
       (with_reducible refine H.out.mono ?_)
       rintro e w1 ⟨rfl, hb1⟩))
  go_ret
  exact ⟨rfl, hb1⟩
end Go.Proofs.Ytpbcmghfhflkbaa.Crc
