/- The law SealBack, walked. Conditions: none. -/
import Derived.Test.YtlfphoablloodaaSealLaw3
namespace Go.Proofs.Ytlfphoablloodaa.Seal
open Go.RowKit Tw
open Crc (le sealed le_length sealed_length turn)
set_option maxHeartbeats 2000000
set_option maxRecDepth 100000

theorem c_Open_is (x y : Nat) (z : Bool) (s : List UInt8) (w : World) (hs : s.length = 16) (ho : opened s = (x, y, z)) :
    Calls Try.prog 73 #[.agg (bytesV s).toArray] w fun e w' => e = .returned (.tuple #[.int .u32 (x : Int), .int .u64 (y : Int), .bool z]) ∧ Below w.heap.size w w' := by
  have h := c_Open s w hs
  rw [ho] at h
  exact h
theorem c_Open_zero (w : World) :
    Calls Try.prog 73 #[.agg #[.int .u8 0, .int .u8 0, .int .u8 0, .int .u8 0, .int .u8 0, .int .u8 0, .int .u8 0, .int .u8 0, .int .u8 0, .int .u8 0, .int .u8 0, .int .u8 0, .int .u8 0, .int .u8 0, .int .u8 0, .int .u8 0]] w fun e w' => e = .returned (.tuple #[.int .u32 0, .int .u64 0, .bool false]) ∧ Below w.heap.size w w' :=
  c_Open_is 0 0 false (List.replicate 16 0) w rfl opened_zero

theorem w_SealBack (A : Option Addr) (n c : Nat) (b : List UInt8) (x y r : Nat) (z : Int) (w : World) (hb : Byt w A n c b) (hx : x < 4294967296) (hy : y < 18446744073709551616) (hr : r < 4294967296) (hz0 : -9223372036854775808 ≤ z) (hz1 : z ≤ 9223372036854775807) :
    Calls Try.prog 15 #[.slice A n c, .agg #[.int .u32 (x : Int), .int .u64 (y : Int), .int .i64 z, .int .u32 (r : Int)]] w fun e w' => e = .returned (.bool true) ∧ Below w.heap.size w w' := by
  have Hb := Lib.hid hb
  by_cases hn : n ≤ 2000
  · by_cases hzr : z < 0 ∨ r = 0
    · have hz : (decide (z < 0) || decide (r = 0)) = true := by simpa using hzr
      skip
      go_enter Try.func15, Try.ntmps15
      go_wp2_with fail
      go_quiet (fail)
      have HB : Hid (Below w.heap.size w ((w.alloc (.cells #[.int .u32 (x : Int), .int .u64 (y : Int), .int .i64 z, .int .u32 (r : Int)] 118)).drewN nq)) := Lib.hid (by
        have h := (Below.refl w.heap.size w).alloc (Nat.le_refl _) (.cells #[.int .u32 (x : Int), .int .u64 (y : Int), .int .i64 z, .int .u32 (r : Int)] 118)
        exact ⟨h.os, h.tape, h.output, h.size, h.block⟩)
      generalize ((w.alloc (.cells #[.int .u32 (x : Int), .int .u64 (y : Int), .int .i64 z, .int .u32 (r : Int)] 118)).drewN nq) = W0 at *
      go_wp2_with (first
        | (go_at_call 61
           (with_reducible refine (c_Put _ n _ b _ (Hb.out.bel HB.out) (by omega)).mono ?_)
           rintro e w1 ⟨A1, c1, rfl, h1, hb1⟩
           have B1 : Below w.heap.size w w1 := HB.out.trans (hb1.mono HB.out.size))
        | (go_at_call 71
           (with_reducible refine (c_Get_is b 0 _ (n + 4) _ (sealed b) _ h1.rd (by omega) (get_sealed b)).mono ?_)
           rintro e w2 ⟨A2, c2, rfl, h2, hb2⟩
           have B2 : Below w.heap.size w w2 := B1.trans (hb2.mono B1.size)
           clear h1)
        | (go_at_call 63
           (with_reducible refine (c_Record x y _ hx hy).mono ?_)
           rintro e w3 ⟨rfl, hb3⟩
           have B3 : Below w.heap.size w w3 := B2.trans (hb3.mono B2.size)
           have h3 := h2.bel hb3
           clear h2)
        | (go_at_call 73
           (with_reducible refine (c_Open_is x y true (rec x y) _ (rec_length x y) (opened_rec hx hy)).mono ?_)
           rintro e w4 ⟨rfl, hb4⟩
           have B4 : Below w.heap.size w w4 := B3.trans (hb4.mono B3.size)
           have h4 := h3.bel hb4
           clear h3)
        | (go_at_call 73
           (with_reducible refine (c_Open_zero _).mono ?_)
           rintro e w5 ⟨rfl, hb5⟩
           have B5 : Below w.heap.size w w5 := B4.trans (hb5.mono B4.size)
           have e1 := run_str (P := Try.prog) w5 22 9 5 A2 b.length c2 b Try.underlying22 Try.underlying5 Try.underlying9 (h4.bel hb5)
           have e2 := run_str (P := Try.prog) w5 22 9 5 A n c b Try.underlying22 Try.underlying5 Try.underlying9 (Hb.out.below B5 (Nat.le_refl _))
           clear h4)
        | (go_at_call 60; (with_reducible refine (c_lives _).mono ?_); rintro e w' ⟨rfl, hb6⟩))
      all_goals first
        | (go_ret; exact ⟨rfl, B5.trans (hb6.mono B5.size)⟩)
        | (exfalso; obtain ⟨q1, q2⟩ : 0 ≤ z ∧ ((r : Int) == 0) = false := by assumption
           simp at q2
           omega)
    · obtain ⟨a, rfl⟩ : ∃ a : Nat, z = (a : Int) := ⟨z.toNat, by omega⟩
      have hr0 : r ≠ 0 := by omega
      have H16 : Hid ((Try.prog.info? 98).map (·.size) = some (bytesV (rec x y)).toArray.size) := Lib.hid (by rw [List.size_toArray, bytesV_length, rec_length]; kernel_rfl)
      have hrb : ((r : Int) == 0) = false := by simp; omega
      skip
      go_enter Try.func15, Try.ntmps15
      go_wp2_with fail
      go_quiet (fail)
      have HB : Hid (Below w.heap.size w ((w.alloc (.cells #[.int .u32 (x : Int), .int .u64 (y : Int), .int .i64 (a : Int), .int .u32 (r : Int)] 118)).drewN nq)) := Lib.hid (by
        have h := (Below.refl w.heap.size w).alloc (Nat.le_refl _) (.cells #[.int .u32 (x : Int), .int .u64 (y : Int), .int .i64 (a : Int), .int .u32 (r : Int)] 118)
        exact ⟨h.os, h.tape, h.output, h.size, h.block⟩)
      generalize ((w.alloc (.cells #[.int .u32 (x : Int), .int .u64 (y : Int), .int .i64 (a : Int), .int .u32 (r : Int)] 118)).drewN nq) = W0 at *
      go_wp2_with (first
        | (go_at_call 61
           (with_reducible refine (c_Put _ n _ b _ (Hb.out.bel HB.out) (by omega)).mono ?_)
           rintro e w1 ⟨A1, c1, rfl, h1, hb1⟩
           have B1 : Below w.heap.size w w1 := HB.out.trans (hb1.mono HB.out.size))
        | (go_at_call 71
           (with_reducible refine (c_Get_is b 0 _ (n + 4) _ (sealed b) _ h1.rd (by omega) (get_sealed b)).mono ?_)
           rintro e w2 ⟨A2, c2, rfl, h2, hb2⟩
           have B2 : Below w.heap.size w w2 := B1.trans (hb2.mono B1.size)
           clear h1)
        | (go_at_call 63
           (with_reducible refine (c_Record x y _ hx hy).mono ?_)
           rintro e w3 ⟨rfl, hb3⟩
           have B3 : Below w.heap.size w w3 := B2.trans (hb3.mono B2.size)
           have h3 := h2.bel hb3
           clear h2)
        | (go_at_call 73
           (with_reducible refine (c_Open_is x y true (rec x y) _ (rec_length x y) (opened_rec hx hy)).mono ?_)
           rintro e w4 ⟨rfl, hb4⟩
           have B4 : Below w.heap.size w w4 := B3.trans (hb4.mono B3.size)
           have h4 := h3.bel hb4
           clear h3)
        | (go_at_call 73
           (with_reducible refine (c_Open_zero _).mono ?_)
           rintro e w5 ⟨rfl, hb5⟩
           have B5 : Below w.heap.size w w5 := B4.trans (hb5.mono B4.size)
           have e1 := run_str (P := Try.prog) w5 22 9 5 A2 b.length c2 b Try.underlying22 Try.underlying5 Try.underlying9 (h4.bel hb5)
           have e2 := run_str (P := Try.prog) w5 22 9 5 A n c b Try.underlying22 Try.underlying5 Try.underlying9 (Hb.out.below B5 (Nat.le_refl _))
           clear h4)
        | (go_at_call 61
           (with_reducible refine (c_Put _ n _ b _ (Hb.out.below B5 (Nat.le_refl _)) (by omega)).mono ?_)
           rintro e w6 ⟨A6, c6, rfl, h6, hb6⟩
           have B6 : Below w.heap.size w w6 := B5.trans (hb6.mono B5.size)
           replace h6 := h6.mono B5.size
           clear e1 e2)
        | (go_at_call 63
           (with_reducible refine (c_Record x y _ hx hy).mono ?_)
           rintro e w7 ⟨rfl, hb7⟩
           have B7 : Below w.heap.size w w7 := B6.trans (hb7.mono B6.size)
           have h7 := h6.bel hb7
           obtain ⟨g, cap, hv, hgb, hgl⟩ := h7.form (by omega)
           injection hv with hv1 hv2 hv3
           subst hv1 hv3
           have hlt := (h7.at0 _ rfl).2
           clear h6)
        | (refine wpList_store_row rfl 98 (.tmp 18) (.tmp 101) rfl w7.heap.size _ rfl rfl _ _ (heap_alloc_new _ _) H16.out (by simp [bytesV_length, rec_length]) (Array.all_eq_true_iff_forall_mem.2 fun v hv => bytesV_one v (by simpa using hv)) ?_
           have B8 : Below w.heap.size w ((w7.alloc (.cells z16.toArray 98)).setRow w7.heap.size (bytesV (rec x y)).toArray) := (bel_alloc B7 B7.size _).grown (grown_setRow _ _ _) (size_alloc_le B7.size _) (by rintro k ⟨⟩; exact B7.size)
           have k8 : ((w7.alloc (.cells z16.toArray 98)).setRow w7.heap.size (bytesV (rec x y)).toArray).heap[w7.heap.size]? = some (.cells (bytesV (rec x y)).toArray 98 (0, 0)) := setRow_heap _ _ _ _ _ _ (heap_alloc_new _ _)
           have h8 := (h7.bel ((Below.refl _ _).alloc (Nat.le_refl _) (.cells z16.toArray 98))).kept (grown_setRow _ w7.heap.size (bytesV (rec x y)).toArray) (.inr (by simp [Value.ownBlock]; omega))
           replace h8 : Own ((w7.alloc (.cells z16.toArray 98)).setRow w7.heap.size (bytesV (rec x y)).toArray) w.heap.size 5 1 (some ⟨g, 0, none⟩) (n + 4) c6 (bytesV (sealed b)) := h8
           have hgs : g ≠ w7.heap.size := by omega
           have hsB := B7.size
           simp only [z16] at B8 k8 h8
           generalize ((w7.alloc (.cells [.int .u8 0, .int .u8 0, .int .u8 0, .int .u8 0, .int .u8 0, .int .u8 0, .int .u8 0, .int .u8 0, .int .u8 0, .int .u8 0, .int .u8 0, .int .u8 0, .int .u8 0, .int .u8 0, .int .u8 0, .int .u8 0].toArray 98)).setRow w7.heap.size (bytesV (rec x y)).toArray) = W8 at *
           generalize w7.heap.size = s at *
           have K8 := Lib.hid k8
           have H8 := Lib.hid h8
           clear k8 h8 h7))
      have Hbl := Lib.hid hb.blen
      obtain ⟨p0, hp0⟩ : ∃ p0, p0 = a % (n + 1) := ⟨_, rfl⟩
      have hm1 := mod_p hp0
      have hp0n := mod_le hp0
      obtain ⟨j0, hj0⟩ : ∃ j0, j0 = a % 13 := ⟨_, rfl⟩
      have hm2 := mod_j hj0
      have hj0n : j0 ≤ 12 := by rw [hj0]; exact Nat.le_of_lt_succ (Nat.mod_lt a (by omega))
      clear hp0 hj0
      have Hsl : Hid ((sealed b).length = n + 4) := Lib.hid (by rw [sealed_length, Hbl.out])
      clear hb1 B1 hb2 B2 hb3 B3 hb4 B4 hb5 B5 hb6 B6 hb7 B7 HB hb hgl hlt
      go_loopw [19, 20] (fun v i wr => ∃ k q : Nat, k ≤ 4 ∧ i = .int .i64 (k : Int) ∧ v = .int .u32 (q : Int) ∧ Hid (q = r / 256 ^ k) ∧ q < 4294967296 ∧ Hid (Own wr w.heap.size 5 1 (some ⟨g, 0, none⟩) (n + 4) c6 (bytesV (turn (sealed b) (bits4 p0 k (n + 4) r)))) ∧ Hid (wr.heap[s]? = some (.cells (bytesV (turn (rec x y) (bits4 j0 k 16 r))).toArray 98 (0, 0))) ∧ Below w.heap.size w wr) (fun _ i _ => 4 - (intOf i).toNat)
      case atStart => exact ⟨0, r, by omega, rfl, rfl, Lib.hid (by simp), hr, Lib.hid (by rw [turn_bits_none Hsl.out (by omega)]; exact H8.out), Lib.hid (by rw [turn_bits_none (rec_length x y) (by omega)]; exact K8.out), B8⟩
      case round =>
        clear B8 H8 K8
        obtain ⟨k, q, hk, rfl, rfl, hq, hql, ho, hh, hB⟩ := hrel
        by_cases hk4 : k < 4
        · have hpl : p0 + k < n + 4 := by clear hm1 hm2; omega
          have hjl : j0 + k < 16 := by clear hm1 hm2; omega
          obtain ⟨u, hu⟩ : ∃ u, (sealed b)[p0 + k]? = some u := get_some (by rw [Hsl.out]; exact hpl)
          obtain ⟨v, hv⟩ : ∃ v, (rec x y)[j0 + k]? = some v := get_some (by rw [rec_length]; exact hjl)
          have hc1 := ho.out.cellAt (p0 + k) (by rw [Nat.mul_one]; exact hpl)
          rw [turn_cell Hsl.out (Nat.le_of_lt hpl) rfl hu] at hc1
          have Ht2 := Lib.hid (turn_cell (s := r) (rec_length x y) (Nat.le_of_lt hjl) rfl hv)
          have hn1 := (turn_next Hsl.out (Nat.succ_le_of_lt hpl) rfl hu hq.out)
          have hn2 := (turn_next (rec_length x y) (Nat.succ_le_of_lt hjl) rfl hv hq.out)
          have hxu := xor_byte u q
          have hxv := xor_byte v q
          generalize u ^^^ UInt8.ofNat (q % 256) = u2 at hn1 hxu
          generalize v ^^^ UInt8.ofNat (q % 256) = v2 at hn2 hxv
          have Hn1 := Lib.hid hn1
          have Hn2 := Lib.hid hn2
          have Hjl : Hid (j0 + k < (bytesV (turn (rec x y) (bits4 j0 k 16 r))).toArray.size) := Lib.hid (by rw [List.size_toArray, bytesV_length, turn_length (by rw [bits4_length (Nat.le_of_lt hjl), rec_length]), rec_length]; exact hjl)
          clear hu hv hn1 hn2
          go_wp2_with (first
            | (refine wpL_store_own rfl 5 (.tmp 121) (.tmp 120) rfl w.heap.size 5 g (p0 + k) (n + 4) c6 rfl .u8 _ rfl (by kernel_rfl) _ ho.out hpl _ Hn1.out ?_
               intro w9 h9 hg9
               have hh9 := heap_grown hh.out hg9 (by simpa using hgs.symm)
               have hc2 := heap_cell hh9 Ht2.out
               have HH9 := Lib.hid hh9
               have H9 := Lib.hid h9
               clear h9 hh9 hc1)
            | (refine wpL_store_int rfl 5 (.tmp 132) (.tmp 131) rfl s (j0 + k) rfl .u8 _ rfl (by kernel_rfl) _ _ HH9.out Hjl.out ?_
               intro w10 h10 hg10
               rw [List.setIfInBounds_toArray, Hn2.out] at h10
               have h9 := H9.out.kept hg10 (.inr (by simpa [Value.ownBlock] using hgs))
               have H10 := Lib.hid h10
               have H92 := Lib.hid h9
               clear h10 h9))
          have hB9 := (hB.grown hg9 hB.size (by rintro j ⟨⟩; exact hgb)).grown hg10 (Nat.le_trans hB.size hg9.size) (by rintro j ⟨⟩; exact hsB)
          clear hm1 hm2 hc2 hxu hxv
          go_roundw
          case rel => exact ⟨k + 1, q / 256, by omega, by go_num, by first | rfl | simp, Lib.hid (by rw [hq.out, Nat.div_div_eq_div_mul, ← Nat.pow_succ]), by omega, H92, H10, hB9⟩
          case measure => simp [intOf] <;> omega
        · obtain rfl : k = 4 := by clear hm1 hm2; omega
          clear hm1 hm2
          have Hgt : Hid (get (turn (sealed b) (bits4 p0 4 (n + 4) r)) = ([], 10)) := Lib.hid (by rw [← Hbl.out]; exact get_turned b hr hr0 (by rw [Hbl.out]; exact hp0n))
          have Hot : Hid (opened (turn (rec x y) (bits4 j0 4 16 r)) = (0, 0, false)) := Lib.hid (opened_turned hr hr0 hj0n)
          have Hl : Hid ((turn (rec x y) (bits4 j0 4 16 r)).length = 16) := Lib.hid (by rw [turn_length (by rw [bits4_length (by omega), rec_length]), rec_length])
          have H17 : Hid ((Try.prog.info? 98).map (·.size) = some (bytesV (turn (rec x y) (bits4 j0 4 16 r))).toArray.size) := Lib.hid (by rw [List.size_toArray, bytesV_length, Hl.out]; kernel_rfl)
          go_wp2_with (first
            | (go_at_call 71
               (with_reducible refine (c_Get_is [] 10 _ (n + 4) _ _ _ ho.out.rd (by omega) Hgt.out).mono ?_)
               rintro e w11 ⟨A7, c7, rfl, -, hb11⟩
               have k11 := (hb11.block _ (heap_lt hh.out)).trans hh.out
               have B11 : Below w.heap.size w w11 := hB.trans (hb11.mono hB.size)
               have K11 := Lib.hid k11
               clear k11)
            | (refine wpList_load_row rfl 98 (.tmp 18) rfl _ rfl _ _ _ _ K11.out Try.underlying98 rfl H17.out ?_)
            | (go_at_call 73
               (with_reducible refine (c_Open_is 0 0 false _ _ Hl.out Hot.out).mono ?_)
               rintro e w12 ⟨rfl, hb12⟩
               have B12 : Below w.heap.size w w12 := B11.trans (hb12.mono B11.size))
            | (go_at_call 60
               (with_reducible refine (c_lives _).mono ?_)
               rintro e w13 ⟨rfl, hb13⟩))
          go_ret
          exact ⟨rfl, B12.trans (hb13.mono B12.size)⟩
  · skip
    go_enter Try.func15, Try.ntmps15
    go_wp2_with fail
    go_quiet (fail)
    have HB : Hid (Below w.heap.size w ((w.alloc (.cells #[.int .u32 (x : Int), .int .u64 (y : Int), .int .i64 z, .int .u32 (r : Int)] 118)).drewN nq)) := Lib.hid (by
      have h := (Below.refl w.heap.size w).alloc (Nat.le_refl _) (.cells #[.int .u32 (x : Int), .int .u64 (y : Int), .int .i64 z, .int .u32 (r : Int)] 118)
      exact ⟨h.os, h.tape, h.output, h.size, h.block⟩)
    generalize ((w.alloc (.cells #[.int .u32 (x : Int), .int .u64 (y : Int), .int .i64 z, .int .u32 (r : Int)] 118)).drewN nq) = W0 at *
    go_wp2_with (first
      | (go_at_call 60; (with_reducible refine (c_lives _).mono ?_); rintro e w' ⟨rfl, hb1⟩))
    go_ret
    exact ⟨rfl, HB.out.trans (hb1.mono HB.out.size)⟩
end Go.Proofs.Ytlfphoablloodaa.Seal
