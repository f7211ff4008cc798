/- Contracts of the package num and of its reference: numbers put behind bytes, highest byte first. Conditions: the bytes are at most 2^30. -/
import Derived.Test.YtpbcmghfhflkbaaProg
import Derived.Test.YtpbcmghfhflkbaaTw
set_option linter.unusedVariables false
set_option linter.unusedSimpArgs false
namespace Go.Proofs.Ytpbcmghfhflkbaa.Num
open Go.RowKit Tw
set_option maxHeartbeats 400000

theorem info_u8 : (Try.prog.info? 5).map (fun i => (i.zero, i.size, i.bytes)) = some (some (.int .u8 0), 1, 1) := by kernel_rfl

/-- the lowest k bytes of n, the highest first -/
def be : Nat → Nat → List UInt8
  | 0, _ => []
  | k + 1, n => UInt8.ofNat (n / 256 ^ k) :: be k n
theorem be_length (k n : Nat) : (be k n).length = k := by induction k <;> simp [be, *]

theorem c_join (A A' : Option Addr) (n c m c' N : Nat) (b l : List UInt8) (w : World) (hb : Byt w A n c b) (hl : Byt w A' m c' l) (hN : n + m = N) (hn : N ≤ 2147483648) :
    Calls Try.prog 247 #[.slice A n c, .slice A' m c'] w fun e w' => ∃ A2 c2, e = .returned (.slice A2 N c2) ∧ Own w' w.heap.size 5 1 A2 N c2 (bytesV (b ++ l)) ∧ Below w.heap.size w w' := by
  subst hN
  go_enter Try.func247, Try.ntmps247
  go_wp2_with (first
    | (at_make
       refine wpL_make_cap _ rfl _ _ _ rfl w w.heap.size (Below.refl _ _) (Nat.le_refl _) 5 _ 1 1 Try.underlying96 info_u8 _ _ _ (n + m) rfl rfl (by omega) (by omega) (by unfold maxLen; omega) ?_
       intro w1 hown1 hb1 hg1)
    | (at_builtin
       refine wpL_append _ rfl (.tmp 12) (.tmp 13) _ rfl w w.heap.size hb1 hb1.size 5 _ 1 1 Try.underlying96 info_u8 rfl (by omega) _ _ _ _ rfl hown1 _ _ _ _ rfl (hb.bel hb1) bytesV_one n (bytesV b) (by omega) rfl (by unfold maxLen; omega) (by omega) ?_
       intro A2 c2 w2 hown2 hb2 hg2 ho2)
    | (at_builtin
       refine wpL_append _ rfl (.tmp 15) (.tmp 16) _ rfl w w.heap.size hb2 hb2.size 5 _ 1 1 Try.underlying96 info_u8 rfl (by omega) _ _ _ _ rfl hown2 _ _ _ _ rfl (hl.bel hb2) bytesV_one (n + m) (bytesV (b ++ l)) (by omega) (bytesV_append _ _).symm (by unfold maxLen; omega) (by omega) ?_
       intro A3 c3 w3 hown3 hb3 hg3 ho3))
  go_ret
  exact ⟨A3, c3, rfl, hown3, hb3⟩

theorem put_step (k i : Nat) (n0 y : Nat) (hy : y = n0 / 256 ^ k) : (bytesV (List.replicate (i + 1) 0 ++ be k n0)).set i (.int .u8 ((y : Int) % 256)) = bytesV (List.replicate i 0 ++ be (k + 1) n0) := by
  have e : ((y : Int) % 256) = ((UInt8.ofNat (n0 / 256 ^ k)).toNat : Int) := by rw [← wrap_u8_nat, ← hy, IntKind.wrap_u8]
  rw [e]
  rw [show List.replicate (i + 1) (0 : UInt8) = List.replicate i 0 ++ [0] from List.replicate_succ' .., List.append_assoc]
  rw [bytesV_append, bytesV_append, List.set_append_right _ _ (by simp [bytesV])]
  simp [bytesV, be]
theorem pow_step (x k : Nat) : x / 256 ^ k / 256 = x / 256 ^ (k + 1) := by rw [Nat.div_div_eq_div_mul, Nat.pow_succ]

theorem put_cell (i k n0 : Nat) : (bytesV (List.replicate (i + 1) 0 ++ be k n0))[i]? = some (.int .u8 0) := by
  rw [show List.replicate (i + 1) (0 : UInt8) = List.replicate i 0 ++ [0] from List.replicate_succ' .., List.append_assoc, bytesV_append, List.getElem?_append_right (by simp [bytesV])]
  simp [bytesV]

theorem c_put_u16 (A : Option Addr) (n c : Nat) (b : List UInt8) (X : Int) (x : Nat) (sz : Int) (size N : Nat) (w : World) (hX : X = (x : Int)) (hsz : sz = (size : Int)) (hb : Byt w A n c b) (hx : x < 65536) (hs : size ≤ 8) (hN : n + size = N) (hn : N ≤ 2147483648) :
    Calls Try.prog 258 #[.slice A n c, .int .u16 X, .int .i64 sz] w fun e w' => ∃ A2 c2, e = .returned (.slice A2 N c2) ∧ Own w' w.heap.size 5 1 A2 N c2 (bytesV (b ++ be size x)) ∧ Below w.heap.size w w' := by
  subst hsz hX
  go_enter Try.func258, Try.ntmps258
  go_wp2_with (first
    | (at_make
       refine wpL_make _ rfl _ _ _ rfl w w.heap.size (Below.refl _ _) (Nat.le_refl _) 5 _ 1 1 Try.underlying96 info_u8 _ _ _ _ size rfl rfl (by omega) (by omega) (by omega) (by unfold maxLen; omega) _ (made_u8 size) ?_
       intro w1 hown1 hb1 hg1))
  go_loopw [1, 8] (fun v i wr => ∃ j k y : Nat, Hid (j + k = size) ∧ i = .int .i64 ((j : Int) - 1) ∧ v = .int .u16 (y : Int) ∧ Hid (y = x / 256 ^ k) ∧ y < 65536 ∧ Own wr w.heap.size 5 1 (some ⟨w.heap.size, 0, none⟩) size size (bytesV (List.replicate j 0 ++ be k x)) ∧ Below w.heap.size w wr) (fun _ i _ => (intOf i + 1).toNat)
  case atStart =>
    exact ⟨size, 0, x, Lib.hid (by omega), rfl, rfl, Lib.hid (by simp), hx, by simpa [be] using hown1, hb1⟩
  case round =>
    obtain ⟨j, k, y, hjk, rfl, rfl, hy, hyx, hown, hbr⟩ := hrel
    clear hown1 hb1 hg1
    rcases j with _ | i
    · have hk : k = size := by have := hjk.out; omega
      subst hk
      simp only [List.replicate_zero, List.nil_append] at hown
      clear hjk
      go_wp2_with (first
        | (go_at_call 247
           (with_reducible refine (c_join _ _ _ _ _ _ N _ _ _ (hb.bel hbr) hown.rd (by omega) (by omega)).mono ?_)
           rintro e w' ⟨A2, c2, rfl, hown2, hb2⟩))
      go_ret
      exact ⟨A2, c2, rfl, hown2.mono hbr.size, hbr.trans (hb2.mono hbr.size)⟩
    · rw [show ((i + 1 : Nat) : Int) - 1 = (i : Int) from by omega]
      have hi : i < size := by have := hjk.out; omega
      have hcell := hown.cellAt i (by omega)
      have hfr := hown.frozenAt i
      have hst := hown.stored i (.int .u8 ((y : Int) % 256))
      rw [put_step _ _ _ _ hy.out] at hst
      rw [put_cell] at hcell
      have Hst := Lib.hid hst
      clear hst hown
      go_wp2
      go_roundw
      case rel => exact ⟨i, k + 1, y / 256, Lib.hid (by have := hjk.out; omega), rfl, by simp, Lib.hid (by rw [hy.out, pow_step]), by omega, Hst.out.1, hbr.setCell (by simp) _⟩
      case measure => simp [intOf] <;> omega
theorem c_put_u32 (A : Option Addr) (n c : Nat) (b : List UInt8) (X : Int) (x : Nat) (sz : Int) (size N : Nat) (w : World) (hX : X = (x : Int)) (hsz : sz = (size : Int)) (hb : Byt w A n c b) (hx : x < 4294967296) (hs : size ≤ 8) (hN : n + size = N) (hn : N ≤ 2147483648) :
    Calls Try.prog 219 #[.slice A n c, .int .u32 X, .int .i64 sz] w fun e w' => ∃ A2 c2, e = .returned (.slice A2 N c2) ∧ Own w' w.heap.size 5 1 A2 N c2 (bytesV (b ++ be size x)) ∧ Below w.heap.size w w' := by
  subst hsz hX
  go_enter Try.func219, Try.ntmps219
  go_wp2_with (first
    | (at_make
       refine wpL_make _ rfl _ _ _ rfl w w.heap.size (Below.refl _ _) (Nat.le_refl _) 5 _ 1 1 Try.underlying96 info_u8 _ _ _ _ size rfl rfl (by omega) (by omega) (by omega) (by unfold maxLen; omega) _ (made_u8 size) ?_
       intro w1 hown1 hb1 hg1))
  go_loopw [1, 8] (fun v i wr => ∃ j k y : Nat, Hid (j + k = size) ∧ i = .int .i64 ((j : Int) - 1) ∧ v = .int .u32 (y : Int) ∧ Hid (y = x / 256 ^ k) ∧ y < 4294967296 ∧ Own wr w.heap.size 5 1 (some ⟨w.heap.size, 0, none⟩) size size (bytesV (List.replicate j 0 ++ be k x)) ∧ Below w.heap.size w wr) (fun _ i _ => (intOf i + 1).toNat)
  case atStart =>
    exact ⟨size, 0, x, Lib.hid (by omega), rfl, rfl, Lib.hid (by simp), hx, by simpa [be] using hown1, hb1⟩
  case round =>
    obtain ⟨j, k, y, hjk, rfl, rfl, hy, hyx, hown, hbr⟩ := hrel
    clear hown1 hb1 hg1
    rcases j with _ | i
    · have hk : k = size := by have := hjk.out; omega
      subst hk
      simp only [List.replicate_zero, List.nil_append] at hown
      clear hjk
      go_wp2_with (first
        | (go_at_call 247
           (with_reducible refine (c_join _ _ _ _ _ _ N _ _ _ (hb.bel hbr) hown.rd (by omega) (by omega)).mono ?_)
           rintro e w' ⟨A2, c2, rfl, hown2, hb2⟩))
      go_ret
      exact ⟨A2, c2, rfl, hown2.mono hbr.size, hbr.trans (hb2.mono hbr.size)⟩
    · rw [show ((i + 1 : Nat) : Int) - 1 = (i : Int) from by omega]
      have hi : i < size := by have := hjk.out; omega
      have hcell := hown.cellAt i (by omega)
      have hfr := hown.frozenAt i
      have hst := hown.stored i (.int .u8 ((y : Int) % 256))
      rw [put_step _ _ _ _ hy.out] at hst
      rw [put_cell] at hcell
      have Hst := Lib.hid hst
      clear hst hown
      go_wp2
      go_roundw
      case rel => exact ⟨i, k + 1, y / 256, Lib.hid (by have := hjk.out; omega), rfl, by simp, Lib.hid (by rw [hy.out, pow_step]), by omega, Hst.out.1, hbr.setCell (by simp) _⟩
      case measure => simp [intOf] <;> omega
theorem c_put_u64 (A : Option Addr) (n c : Nat) (b : List UInt8) (X : Int) (x : Nat) (sz : Int) (size N : Nat) (w : World) (hX : X = (x : Int)) (hsz : sz = (size : Int)) (hb : Byt w A n c b) (hx : x < 18446744073709551616) (hs : size ≤ 8) (hN : n + size = N) (hn : N ≤ 2147483648) :
    Calls Try.prog 218 #[.slice A n c, .int .u64 X, .int .i64 sz] w fun e w' => ∃ A2 c2, e = .returned (.slice A2 N c2) ∧ Own w' w.heap.size 5 1 A2 N c2 (bytesV (b ++ be size x)) ∧ Below w.heap.size w w' := by
  subst hsz hX
  go_enter Try.func218, Try.ntmps218
  go_wp2_with (first
    | (at_make
       refine wpL_make _ rfl _ _ _ rfl w w.heap.size (Below.refl _ _) (Nat.le_refl _) 5 _ 1 1 Try.underlying96 info_u8 _ _ _ _ size rfl rfl (by omega) (by omega) (by omega) (by unfold maxLen; omega) _ (made_u8 size) ?_
       intro w1 hown1 hb1 hg1))
  go_loopw [1, 8] (fun v i wr => ∃ j k y : Nat, Hid (j + k = size) ∧ i = .int .i64 ((j : Int) - 1) ∧ v = .int .u64 (y : Int) ∧ Hid (y = x / 256 ^ k) ∧ y < 18446744073709551616 ∧ Own wr w.heap.size 5 1 (some ⟨w.heap.size, 0, none⟩) size size (bytesV (List.replicate j 0 ++ be k x)) ∧ Below w.heap.size w wr) (fun _ i _ => (intOf i + 1).toNat)
  case atStart =>
    exact ⟨size, 0, x, Lib.hid (by omega), rfl, rfl, Lib.hid (by simp), hx, by simpa [be] using hown1, hb1⟩
  case round =>
    obtain ⟨j, k, y, hjk, rfl, rfl, hy, hyx, hown, hbr⟩ := hrel
    clear hown1 hb1 hg1
    rcases j with _ | i
    · have hk : k = size := by have := hjk.out; omega
      subst hk
      simp only [List.replicate_zero, List.nil_append] at hown
      clear hjk
      go_wp2_with (first
        | (go_at_call 247
           (with_reducible refine (c_join _ _ _ _ _ _ N _ _ _ (hb.bel hbr) hown.rd (by omega) (by omega)).mono ?_)
           rintro e w' ⟨A2, c2, rfl, hown2, hb2⟩))
      go_ret
      exact ⟨A2, c2, rfl, hown2.mono hbr.size, hbr.trans (hb2.mono hbr.size)⟩
    · rw [show ((i + 1 : Nat) : Int) - 1 = (i : Int) from by omega]
      have hi : i < size := by have := hjk.out; omega
      have hcell := hown.cellAt i (by omega)
      have hfr := hown.frozenAt i
      have hst := hown.stored i (.int .u8 ((y : Int) % 256))
      rw [put_step _ _ _ _ hy.out] at hst
      rw [put_cell] at hcell
      have Hst := Lib.hid hst
      clear hst hown
      go_wp2
      go_roundw
      case rel => exact ⟨i, k + 1, y / 256, Lib.hid (by have := hjk.out; omega), rfl, by simp, Lib.hid (by rw [hy.out, pow_step]), by omega, Hst.out.1, hbr.setCell (by simp) _⟩
      case measure => simp [intOf] <;> omega

theorem c_Put16 (A : Option Addr) (n c : Nat) (b : List UInt8) (x : Int) (N : Nat) (w : World) (hb : Byt w A n c b) (hN : n + 2 = N) (hn : N ≤ 2147483648) :
    Calls Try.prog 242 #[.slice A n c, .int .i64 x] w fun e w' => ∃ A2 c2, e = .returned (.slice A2 N c2) ∧ Own w' w.heap.size 5 1 A2 N c2 (bytesV (b ++ be 2 (x % 65536).toNat)) ∧ Below w.heap.size w w' := by
  obtain ⟨k, hk⟩ : ∃ k : Nat, x % 65536 = k := ⟨(x % 65536).toNat, by omega⟩
  have hk2 : k < 65536 := by omega
  rw [hk, Int.toNat_natCast]
  go_enter Try.func242, Try.ntmps242
  go_wp2_with (first
    | (go_at_call 258
       (with_reducible refine (c_put_u16 _ _ _ _ _ k 2 2 N _ (by rw [IntKind.wrap_u16]; omega) rfl hb hk2 (by omega) hN hn).mono ?_)
       rintro e w' ⟨A2, c2, rfl, hown2, hb2⟩))
  go_ret
  exact ⟨A2, c2, rfl, hown2, hb2⟩

theorem c_Put32 (A : Option Addr) (n c : Nat) (b : List UInt8) (X : Int) (x : Nat) (N : Nat) (w : World) (hb : Byt w A n c b) (hX : X = (x : Int)) (hx : x < 4294967296) (hN : n + 4 = N) (hn : N ≤ 2147483648) :
    Calls Try.prog 166 #[.slice A n c, .int .u32 X] w fun e w' => ∃ A2 c2, e = .returned (.slice A2 N c2) ∧ Own w' w.heap.size 5 1 A2 N c2 (bytesV (b ++ be 4 x)) ∧ Below w.heap.size w w' := by
  subst hX
  go_enter Try.func166, Try.ntmps166
  go_wp2_with (first
    | (go_at_call 219
       (with_reducible refine (c_put_u32 _ _ _ _ _ x 4 4 N _ rfl rfl hb hx (by omega) hN hn).mono ?_)
       rintro e w' ⟨A2, c2, rfl, hown2, hb2⟩))
  go_ret
  exact ⟨A2, c2, rfl, hown2, hb2⟩

theorem c_Put64 (A : Option Addr) (n c : Nat) (b : List UInt8) (X : Int) (x : Nat) (N : Nat) (w : World) (hb : Byt w A n c b) (hX : X = (x : Int)) (hx : x < 18446744073709551616) (hN : n + 8 = N) (hn : N ≤ 2147483648) :
    Calls Try.prog 165 #[.slice A n c, .int .u64 X] w fun e w' => ∃ A2 c2, e = .returned (.slice A2 N c2) ∧ Own w' w.heap.size 5 1 A2 N c2 (bytesV (b ++ be 8 x)) ∧ Below w.heap.size w w' := by
  subst hX
  go_enter Try.func165, Try.ntmps165
  go_wp2_with (first
    | (go_at_call 218
       (with_reducible refine (c_put_u64 _ _ _ _ _ x 8 8 N _ rfl rfl hb hx (by omega) hN hn).mono ?_)
       rintro e w' ⟨A2, c2, rfl, hown2, hb2⟩))
  go_ret
  exact ⟨A2, c2, rfl, hown2, hb2⟩

theorem rput_cell (b : List UInt8) (n i k n0 : Nat) (hbn : b.length = n) : (bytesV (b ++ (List.replicate (i + 1) 0 ++ be k n0)))[n + i]? = some (.int .u8 0) := by
  rw [bytesV_append, List.getElem?_append_right (by simp [bytesV, hbn])]
  simp only [bytesV_length, hbn, Nat.add_sub_cancel_left]
  exact put_cell i k n0
theorem rput_step (b : List UInt8) (n k i : Nat) (n0 y : Nat) (hbn : b.length = n) (hy : y = n0 / 256 ^ k) : (bytesV (b ++ (List.replicate (i + 1) 0 ++ be k n0))).set (n + i) (.int .u8 ((y : Int) % 256)) = bytesV (b ++ (List.replicate i 0 ++ be (k + 1) n0)) := by
  rw [bytesV_append, List.set_append_right _ _ (by simp [bytesV, hbn])]
  simp only [bytesV_length, hbn, Nat.add_sub_cancel_left]
  rw [put_step k i n0 y hy, ← bytesV_append]

theorem c_rPut (A : Option Addr) (n c : Nat) (b : List UInt8) (X : Int) (x : Nat) (sz : Int) (size N : Nat) (w : World) (hX : X = (x : Int)) (hsz : sz = (size : Int)) (hb : Byt w A n c b) (hx : x < 18446744073709551616) (hs : size ≤ 8) (hs0 : 0 < size) (hN : n + size = N) (hn : N ≤ 2147483648) :
    Calls Try.prog 221 #[.slice A n c, .int .u64 X, .int .i64 sz] w fun e w' => ∃ A2 c2, e = .returned (.slice A2 N c2) ∧ Own w' w.heap.size 5 1 A2 N c2 (bytesV (b ++ be size x)) ∧ Below w.heap.size w w' := by
  subst hsz hX
  have hbn := hb.blen
  have Hbn := Lib.hid hbn
  have HN := Lib.hid hN
  have hnN : n ≤ N := by omega
  clear hbn hN
  go_enter Try.func221, Try.ntmps221
  go_wp2_with (first
    | (at_builtin
       refine wpL_append _ rfl (.tmp 10) (.tmp 11) _ rfl w w.heap.size (bel_alloc (Below.refl _ _) (Nat.le_refl _) _) (size_alloc_le (Nat.le_refl _) _) 5 _ 1 1 Try.underlying96 info_u8 rfl (by omega) _ _ _ [] rfl (own_empty _ _ _ _ (Nat.le_refl _)) _ _ _ _ rfl (hb.alloc _) bytesV_one n (bytesV b) (by omega) rfl (by unfold maxLen; omega) (by omega) ?_
       intro A1 c1 w1 hown1 hb1 hg1 ho1))
  clear ho1 hg1
  go_loopw [7, 8] (fun v i wr => ∃ k m A1 c1, Hid (n + k = m) ∧ k ≤ size ∧ m ≤ N ∧ i = .int .i64 (k : Int) ∧ v = .slice A1 m c1 ∧ Own wr w.heap.size 5 1 A1 m c1 (bytesV (b ++ List.replicate k 0)) ∧ Below w.heap.size w wr) (fun _ i _ => size - (intOf i).toNat)
  case atStart => exact ⟨0, n, A1, c1, Lib.hid (by omega), by omega, hnN, rfl, rfl, by simpa using hown1, hb1⟩
  case round =>
    obtain ⟨k, m, A1, c1, hkm, hk, hm, rfl, rfl, hown, hbr⟩ := hrel
    by_cases hlt : k < size
    · have hmN : m + 1 ≤ N := by have := HN.out; have := hkm.out; omega
      go_wp2_with (first
        | (at_builtin
           go_loud (refine wpL_append _ rfl (.tmp 18) (.tmp 19) _ rfl w w.heap.size (bel_alloc hbr hbr.size _) (size_alloc_le hbr.size _) 5 _ 1 1 Try.underlying96 info_u8 rfl (by omega) _ _ _ _ rfl (hown.alloc _) _ _ _ _ rfl (rd_one _ _ _) (by simp [Value.oneCell']) (m + 1) (bytesV (b ++ List.replicate (k + 1) 0)) rfl (by simp [bytesV, List.replicate_succ']) (by unfold maxLen; omega) (by omega) ?_)
           intro A2 c2 w2 hown2 hb2 hg2 ho2))
      clear ho2 hg2
      go_wp2
      go_roundw
      case rel => exact ⟨k + 1, m + 1, A2, c2, Lib.hid (by have := hkm.out; omega), by omega, by omega, by go_num, rfl, hown2, hb2⟩
      case measure => simp [intOf] <;> omega
    · have hk : k = size := by omega
      have hm : m = N := by have := HN.out; have := hkm.out; omega
      subst hk hm
      obtain ⟨g, cap, hv, hg, hgl⟩ := hown.form (by have := HN.out; omega)
      injection hv with hv1 hv2 hv3
      subst hv1 hv3
      clear hkm hown1 hb1 hgl
      go_wp2_with fail
      go_loopw [1, 9] (fun v i wr => ∃ j q y : Nat, Hid (j + q = k) ∧ i = .int .i64 (((n + j : Nat) : Int) - 1) ∧ v = .int .u64 (y : Int) ∧ Hid (y = x / 256 ^ q) ∧ y < 18446744073709551616 ∧ Own wr w.heap.size 5 1 (some ⟨g, 0, none⟩) m c1 (bytesV (b ++ (List.replicate j 0 ++ be q x))) ∧ Below w.heap.size w wr) (fun _ i _ => (intOf i + 1).toNat)
      case atStart => exact ⟨k, 0, x, Lib.hid (by omega), by rw [HN.out], rfl, Lib.hid (by simp), hx, by simpa [be] using hown, hbr⟩
      case round =>
        clear hbr hown
        obtain ⟨j, q, y, hjq, rfl, rfl, hy, hyx, hown, hbr⟩ := hrel
        rcases j with _ | i
        · have hq : q = k := by have := hjq.out; omega
          subst hq
          simp only [List.replicate_zero, List.nil_append] at hown
          rw [Nat.add_zero]
          clear hjq
          go_wp2
          go_ret
          exact ⟨_, _, rfl, hown, hbr⟩
        · rw [show ((n + (i + 1) : Nat) : Int) - 1 = ((n + i : Nat) : Int) from by omega]
          have hi : n + i < m := by have := hjq.out; have := HN.out; omega
          have hcell := hown.cellAt (n + i) (by omega)
          have hfr := hown.frozenAt (n + i)
          have hst := hown.stored (n + i) (.int .u8 ((y : Int) % 256))
          rw [rput_step _ _ _ _ _ _ Hbn.out hy.out] at hst
          rw [rput_cell _ _ _ _ _ Hbn.out] at hcell
          have Hst := Lib.hid hst
          clear hst hown
          obtain ⟨p, hp⟩ : ∃ p, p = n + i := ⟨_, rfl⟩
          rw [← hp] at hcell hfr hi ⊢
          have hnp : n ≤ p := by omega
          have Hp := Lib.hid hp
          clear hp
          go_wp2
          go_roundw
          case rel => exact ⟨i, q + 1, y / 256, Lib.hid (by have := hjq.out; omega), by rw [Hp.out], by simp, Lib.hid (by rw [hy.out, pow_step]), by omega, by rw [Hp.out]; exact Hst.out.1, hbr.setCell (by simpa using hg) _⟩
          case measure => simp [intOf] <;> omega

theorem c_rPut32 (A : Option Addr) (n c : Nat) (b : List UInt8) (X : Int) (x : Nat) (N : Nat) (w : World) (hb : Byt w A n c b) (hX : X = (x : Int)) (hx : x < 4294967296) (hN : n + 4 = N) (hn : N ≤ 2147483648) :
    Calls Try.prog 169 #[.slice A n c, .int .u32 X] w fun e w' => ∃ A2 c2, e = .returned (.slice A2 N c2) ∧ Own w' w.heap.size 5 1 A2 N c2 (bytesV (b ++ be 4 x)) ∧ Below w.heap.size w w' := by
  subst hX
  go_enter Try.func169, Try.ntmps169
  go_wp2_with (first
    | (go_at_call 221
       (with_reducible refine (c_rPut _ _ _ _ _ x 4 4 N _ (by simp <;> omega) rfl hb (by omega) (by omega) (by omega) hN hn).mono ?_)
       rintro e w' ⟨A2, c2, rfl, hown2, hb2⟩))
  go_ret
  exact ⟨A2, c2, rfl, hown2, hb2⟩
theorem c_rPut64 (A : Option Addr) (n c : Nat) (b : List UInt8) (X : Int) (x : Nat) (N : Nat) (w : World) (hb : Byt w A n c b) (hX : X = (x : Int)) (hx : x < 18446744073709551616) (hN : n + 8 = N) (hn : N ≤ 2147483648) :
    Calls Try.prog 168 #[.slice A n c, .int .u64 X] w fun e w' => ∃ A2 c2, e = .returned (.slice A2 N c2) ∧ Own w' w.heap.size 5 1 A2 N c2 (bytesV (b ++ be 8 x)) ∧ Below w.heap.size w w' := by
  subst hX
  go_enter Try.func168, Try.ntmps168
  go_wp2_with (first
    | (go_at_call 221
       (with_reducible refine (c_rPut _ _ _ _ _ x 8 8 N _ (by simp <;> omega) rfl hb (by omega) (by omega) (by omega) hN hn).mono ?_)
       rintro e w' ⟨A2, c2, rfl, hown2, hb2⟩))
  go_ret
  exact ⟨A2, c2, rfl, hown2, hb2⟩
theorem c_rPut16 (A : Option Addr) (n c : Nat) (b : List UInt8) (x : Int) (N : Nat) (w : World) (hb : Byt w A n c b) (hN : n + 2 = N) (hn : N ≤ 2147483648) :
    Calls Try.prog 187 #[.slice A n c, .int .i64 x] w fun e w' => ∃ A2 c2, e = .returned (.slice A2 N c2) ∧ Own w' w.heap.size 5 1 A2 N c2 (bytesV (b ++ be 2 (x % 65536).toNat)) ∧ Below w.heap.size w w' := by
  obtain ⟨k, hk⟩ : ∃ k : Nat, x % 65536 = k := ⟨(x % 65536).toNat, by omega⟩
  have hk2 : k < 65536 := by omega
  rw [hk, Int.toNat_natCast]
  go_enter Try.func187, Try.ntmps187
  go_wp2_with (first
    | (go_at_call 221
       (with_reducible refine (c_rPut _ _ _ _ _ k 2 2 N _ (by rw [IntKind.wrap_u16, IntKind.wrap_u64]; omega) rfl hb (by omega) (by omega) (by omega) hN hn).mono ?_)
       rintro e w' ⟨A2, c2, rfl, hown2, hb2⟩))
  go_ret
  exact ⟨A2, c2, rfl, hown2, hb2⟩

/-- the number of bytes, the highest first -/
def val (l : List UInt8) : Nat := l.foldl (fun n c => n * 256 + c.toNat) 0
theorem val_snoc (l : List UInt8) (c : UInt8) : val (l ++ [c]) = val l * 256 + c.toNat := by simp [val]
theorem val_lt' (l : List UInt8) : ∀ a, l.foldl (fun n (c : UInt8) => n * 256 + c.toNat) a < (a + 1) * 256 ^ l.length := by
  induction l with
  | nil => intro a; simp
  | cons c l ih =>
    intro a
    rw [List.foldl_cons, List.length_cons, Nat.pow_succ]
    refine Nat.lt_of_lt_of_le (ih _) ?_
    have := c.toNat_lt
    have h2 : a * 256 + c.toNat + 1 ≤ (a + 1) * 256 := by omega
    calc (a * 256 + c.toNat + 1) * 256 ^ l.length ≤ ((a + 1) * 256) * 256 ^ l.length := Nat.mul_le_mul_right _ h2
      _ = (a + 1) * (256 ^ l.length * 256) := by rw [Nat.mul_assoc, Nat.mul_comm 256]
theorem val_lt (l : List UInt8) : val l < 256 ^ l.length := by
  have := val_lt' l 0
  simpa [val] using this
theorem take_succ_byte (l : List UInt8) (k : Nat) (h : k < l.length) : l.take (k + 1) = l.take k ++ [l[k]] := by
  rw [List.take_succ_eq_append_getElem h]

theorem or8_u16 (y c : Nat) (hy : y < 256) (hc : c < 256) : bits .or .u16 (IntKind.u16.wrap ((y : Int) * 256)) (c : Int) = ((y * 256 + c : Nat) : Int) := by
  rw [IntKind.wrap_u16]
  have e : (y : Int) * 256 % 65536 = ((y * 256 : Nat) : Int) := by omega
  rw [e, u16_or_nat _ _ (by omega) (by omega), nat_join 8 _ _ (by omega) (by omega)]
theorem or8_u32 (y c : Nat) (hy : y < 16777216) (hc : c < 256) : bits .or .u32 ((y : Int) * 256 % 4294967296) (c : Int) = ((y * 256 + c : Nat) : Int) := by
  have e : (y : Int) * 256 % 4294967296 = ((y * 256 : Nat) : Int) := by omega
  rw [e, u32_or_nat _ _ (by omega) (by omega), nat_join 8 _ _ (by omega) (by omega)]
theorem or8_u64 (y c : Nat) (hy : y < 72057594037927936) (hc : c < 256) : bits .or .u64 (IntKind.u64.wrap ((y : Int) * 256)) (c : Int) = ((y * 256 + c : Nat) : Int) := by
  rw [IntKind.wrap_u64]
  have e : (y : Int) * 256 % 18446744073709551616 = ((y * 256 : Nat) : Int) := by omega
  rw [e, u64_or_nat _ _ (by omega) (by omega), nat_join 8 _ _ (by omega) (by omega)]
theorem val_take_lt (b : List UInt8) (k j : Nat) (h : k ≤ j) : val (b.take k) < 256 ^ j :=
  Nat.lt_of_lt_of_le (val_lt _) (Nat.pow_le_pow_right (by omega) (Nat.le_trans (by simp; omega) h))
theorem val_take_succ (b : List UInt8) (k : Nat) (x : UInt8) (h : b[k]? = some x) : val (b.take (k + 1)) = val (b.take k) * 256 + x.toNat := by
  obtain ⟨hl, rfl⟩ := List.getElem?_eq_some_iff.1 h
  rw [take_succ_byte b k hl, val_snoc]

theorem c_get_u16 (A : Option Addr) (n c : Nat) (b : List UInt8) (sz : Int) (size : Nat) (w : World) (hb : Byt w A n c b) (hsz : sz = (size : Int)) (hs : size ≤ 2) (hn : size ≤ n) :
    Calls Try.prog 243 #[.slice A n c, .int .i64 sz] w fun e w' => e = .returned (.tuple #[.int .u16 (val (b.take size) : Nat), .bool true]) ∧ w = w' := by
  subst hsz
  have hc := hb.le
  have hm := hb.cap
  unfold maxLen at hm
  have hl := hb.blen
  have Hl := Lib.hid hl
  clear hl
  go_enter Try.func243, Try.ntmps243
  go_wp2
  go_loop [6, 8, 17] (fun v u i => ∃ k y : Nat, k ≤ size ∧ i = .int .i64 (k : Int) ∧ v = .int .u16 (y : Int) ∧ Hid (y = val (b.take k))) (fun _ _ i => size - (intOf i).toNat)
  case atStart => exact ⟨0, 0, by omega, rfl, rfl, Lib.hid (by simp [val])⟩
  case round =>
    obtain ⟨k, y, hk, rfl, rfl, hy⟩ := hrel
    by_cases hlt : k < size
    · obtain ⟨ad, x, rfl, hx, hcell, hx256⟩ := hb.atB (k := k) (by omega)
      go_wp2
      go_round
      case rel => exact ⟨k + 1, y * 256 + x.toNat, by omega, by go_num, by rw [or8_u16 y _ (by rw [hy.out]; exact val_take_lt b k 1 (by omega)) hx256], Lib.hid (by rw [hy.out, val_take_succ b k x hx.out])⟩
      case measure => simp [intOf] <;> omega
    · have hk : k = size := by omega
      subst hk
      go_wp2
      go_ret2
      refine ⟨?_, rfl⟩
      rw [← hy.out]
      rfl
theorem c_get_u16_short (A : Option Addr) (n c : Nat) (sz : Int) (size : Nat) (w : World) (hsz : sz = (size : Int)) (hn : n < size) :
    Calls Try.prog 243 #[.slice A n c, .int .i64 sz] w fun e w' => e = .returned (.tuple #[.int .u16 0, .bool false]) ∧ w = w' := by
  subst hsz
  go_enter Try.func243, Try.ntmps243
  go_wp2
  go_ret2
  exact ⟨rfl, rfl⟩
theorem c_get_u32 (A : Option Addr) (n c : Nat) (b : List UInt8) (sz : Int) (size : Nat) (w : World) (hb : Byt w A n c b) (hsz : sz = (size : Int)) (hs : size ≤ 4) (hn : size ≤ n) :
    Calls Try.prog 259 #[.slice A n c, .int .i64 sz] w fun e w' => e = .returned (.tuple #[.int .u32 (val (b.take size) : Nat), .bool true]) ∧ w = w' := by
  subst hsz
  have hc := hb.le
  have hm := hb.cap
  unfold maxLen at hm
  have hl := hb.blen
  have Hl := Lib.hid hl
  clear hl
  go_enter Try.func259, Try.ntmps259
  go_wp2
  go_loop [6, 8, 17] (fun v u i => ∃ k y : Nat, k ≤ size ∧ i = .int .i64 (k : Int) ∧ v = .int .u32 (y : Int) ∧ Hid (y = val (b.take k))) (fun _ _ i => size - (intOf i).toNat)
  case atStart => exact ⟨0, 0, by omega, rfl, rfl, Lib.hid (by simp [val])⟩
  case round =>
    obtain ⟨k, y, hk, rfl, rfl, hy⟩ := hrel
    by_cases hlt : k < size
    · obtain ⟨ad, x, rfl, hx, hcell, hx256⟩ := hb.atB (k := k) (by omega)
      go_wp2
      go_round
      case rel => exact ⟨k + 1, y * 256 + x.toNat, by omega, by go_num, by rw [or8_u32 y _ (by rw [hy.out]; exact val_take_lt b k 3 (by omega)) hx256], Lib.hid (by rw [hy.out, val_take_succ b k x hx.out])⟩
      case measure => simp [intOf] <;> omega
    · have hk : k = size := by omega
      subst hk
      go_wp2
      go_ret2
      refine ⟨?_, rfl⟩
      rw [← hy.out]
      rfl
theorem c_get_u32_short (A : Option Addr) (n c : Nat) (sz : Int) (size : Nat) (w : World) (hsz : sz = (size : Int)) (hn : n < size) :
    Calls Try.prog 259 #[.slice A n c, .int .i64 sz] w fun e w' => e = .returned (.tuple #[.int .u32 0, .bool false]) ∧ w = w' := by
  subst hsz
  go_enter Try.func259, Try.ntmps259
  go_wp2
  go_ret2
  exact ⟨rfl, rfl⟩
theorem c_get_u64 (A : Option Addr) (n c : Nat) (b : List UInt8) (sz : Int) (size : Nat) (w : World) (hb : Byt w A n c b) (hsz : sz = (size : Int)) (hs : size ≤ 8) (hn : size ≤ n) :
    Calls Try.prog 260 #[.slice A n c, .int .i64 sz] w fun e w' => e = .returned (.tuple #[.int .u64 (val (b.take size) : Nat), .bool true]) ∧ w = w' := by
  subst hsz
  have hc := hb.le
  have hm := hb.cap
  unfold maxLen at hm
  have hl := hb.blen
  have Hl := Lib.hid hl
  clear hl
  go_enter Try.func260, Try.ntmps260
  go_wp2
  go_loop [6, 8, 17] (fun v u i => ∃ k y : Nat, k ≤ size ∧ i = .int .i64 (k : Int) ∧ v = .int .u64 (y : Int) ∧ Hid (y = val (b.take k))) (fun _ _ i => size - (intOf i).toNat)
  case atStart => exact ⟨0, 0, by omega, rfl, rfl, Lib.hid (by simp [val])⟩
  case round =>
    obtain ⟨k, y, hk, rfl, rfl, hy⟩ := hrel
    by_cases hlt : k < size
    · obtain ⟨ad, x, rfl, hx, hcell, hx256⟩ := hb.atB (k := k) (by omega)
      go_wp2
      go_round
      case rel => exact ⟨k + 1, y * 256 + x.toNat, by omega, by go_num, by rw [or8_u64 y _ (by rw [hy.out]; exact val_take_lt b k 7 (by omega)) hx256], Lib.hid (by rw [hy.out, val_take_succ b k x hx.out])⟩
      case measure => simp [intOf] <;> omega
    · have hk : k = size := by omega
      subst hk
      go_wp2
      go_ret2
      refine ⟨?_, rfl⟩
      rw [← hy.out]
      rfl
theorem c_get_u64_short (A : Option Addr) (n c : Nat) (sz : Int) (size : Nat) (w : World) (hsz : sz = (size : Int)) (hn : n < size) :
    Calls Try.prog 260 #[.slice A n c, .int .i64 sz] w fun e w' => e = .returned (.tuple #[.int .u64 0, .bool false]) ∧ w = w' := by
  subst hsz
  go_enter Try.func260, Try.ntmps260
  go_wp2
  go_ret2
  exact ⟨rfl, rfl⟩
theorem c_rGet (A : Option Addr) (n c : Nat) (b : List UInt8) (sz : Int) (size : Nat) (w : World) (hb : Byt w A n c b) (hsz : sz = (size : Int)) (hs : size ≤ 8) (hn : size ≤ n) :
    Calls Try.prog 173 #[.slice A n c, .int .i64 sz] w fun e w' => e = .returned (.tuple #[.int .u64 (val (b.take size) : Nat), .bool true]) ∧ w = w' := by
  subst hsz
  have hc := hb.le
  have hm := hb.cap
  unfold maxLen at hm
  have hl := hb.blen
  have Hl := Lib.hid hl
  clear hl
  go_enter Try.func173, Try.ntmps173
  go_wp2
  go_loop [6, 7] (fun v i => ∃ k y : Nat, k ≤ size ∧ i = .int .i64 (k : Int) ∧ v = .int .u64 (y : Int) ∧ Hid (y = val (b.take k))) (fun _ i => size - (intOf i).toNat)
  case atStart => exact ⟨0, 0, by omega, rfl, rfl, Lib.hid (by simp [val])⟩
  case round =>
    obtain ⟨k, y, hk, rfl, rfl, hy⟩ := hrel
    by_cases hlt : k < size
    · obtain ⟨ad, x, rfl, hx, hcell, hx256⟩ := hb.atB (k := k) (by omega)
      have hyb : y < 72057594037927936 := by rw [hy.out]; exact val_take_lt b k 7 (by omega)
      go_wp2
      go_round
      case rel => exact ⟨k + 1, y * 256 + x.toNat, by omega, by go_num, by congr 1; omega, Lib.hid (by rw [hy.out, val_take_succ b k x hx.out])⟩
      case measure => simp [intOf] <;> omega
    · have hk : k = size := by omega
      subst hk
      go_wp2
      go_ret2
      refine ⟨?_, rfl⟩
      rw [← hy.out]
      rfl
theorem c_rGet_short (A : Option Addr) (n c : Nat) (sz : Int) (size : Nat) (w : World) (hsz : sz = (size : Int)) (hn : n < size) :
    Calls Try.prog 173 #[.slice A n c, .int .i64 sz] w fun e w' => e = .returned (.tuple #[.int .u64 0, .bool false]) ∧ w = w' := by
  subst hsz
  go_enter Try.func173, Try.ntmps173
  go_wp2
  go_ret2
  exact ⟨rfl, rfl⟩
end Go.Proofs.Ytpbcmghfhflkbaa.Num
