/- The reference's disk: Read, Durable. Conditions: none. -/
import Derived.Test.YtplemdgihlabgaaRef2
import Derived.Test.YtplemdgihlabgaaDisk9
set_option linter.unusedVariables false
set_option linter.unusedSimpArgs false
namespace Go.Proofs.Ytplemdgihlabgaa.Disk
open Go.RowKit Tw
set_option maxHeartbeats 4000000
set_option maxRecDepth 100000
section
variable {w w' : World} {q r c : Nat} {d : Dsk}
theorem r_Read (h : Rk w q r c d) (x : Int) : Calls Try.prog 90 #[.pointer (some ⟨q, 0, none⟩), .int .i64 x] w fun e w' => e = .returned (.tuple #[secV (d.read x).1, .int .i64 ((d.read x).2 : Int)]) ∧ Below w.heap.size w w' := by
  have HB := Lib.hid ((Below.refl w.heap.size w).alloc (Nat.le_refl _) (.cells Z16 23))
  have H := Lib.hid (h.bel HB.out)
  have HX := Lib.hid (heap_alloc_new w (.cells Z16 23))
  obtain ⟨k0, k1, k2, k3⟩ := H.out.cells
  unfold Z16 at *
  clear h
  by_cases hh : d.has x
  · obtain ⟨n, rfl⟩ : ∃ n : Nat, x = (n : Int) := ⟨x.toNat, by have := (has_iff d x).1 hh; omega⟩
    have hd := Lib.hid (decide_eq_true hh)
    have hnl : n < d.cells.length := by have := (has_iff d (n : Int)).1 hh; omega
    have hnn := H.out.ok.n
    cases hb : d.broken with
    | true =>
      have hw : Hid (d.read (n : Int) = (zs, 3)) := Lib.hid (by unfold Dsk.read; rw [if_pos hh, if_pos hb])
      rw [hb] at k2
      clear hh hb
      go_enter Try.func90, Try.ntmps90
      go_upto_region 1 with (fail)
      generalize (w.alloc (.cells #[.int .u8 0, .int .u8 0, .int .u8 0, .int .u8 0, .int .u8 0, .int .u8 0, .int .u8 0, .int .u8 0, .int .u8 0, .int .u8 0, .int .u8 0, .int .u8 0, .int .u8 0, .int .u8 0, .int .u8 0, .int .u8 0] 23)) = W1 at *
      go_wp2_with (first
        | (go_at_call 145
           (with_reducible refine (r_in H.out _).mono ?_)
           rintro e w' ⟨rfl, rfl⟩
           rw [hd.out])
        | (refine wpL_store_all rfl rfl 23 (.tmp 4) (.tmp 15) rfl _ rfl _ rfl _ _ HX.out (by kernel_rfl) rfl (by simp [Value.oneCell']) ?_
           intro w2 x2 g2
           have HR := Lib.hid x2
           have HBR := Lib.hid (HB.out.grown g2 HB.out.size (by rintro k ⟨⟩; exact Nat.le_refl _))
           clear x2 g2))
      refine bodyPost_ret (results_cell2 rfl _ _ w.heap.size _ _ (0, 0) _ rfl HR.out Try.underlying23 rfl (by kernel_rfl) _ rfl) rfl ?_
      rw [hw.out]
      exact ⟨by first | rfl | (unfold secV; rw [zcells]; rfl), HBR.out⟩
    | false =>
      obtain ⟨p1, p2, p3⟩ := H.out.part hnl
      have hm := H.out.ok.cell_ok _ (cell_mem hh)
      rw [hb] at k2
      cases hc : (d.cell (n : Int)).2 with
      | some s =>
        have hw : Hid (d.read (n : Int) = (s, 0)) := Lib.hid (by unfold Dsk.read view; rw [if_pos hh, hb, hc]; rfl)
        have Hs := Lib.hid (hm.2 s hc)
        rw [hc] at p2 p3
        have P2 := Lib.hid p2
        clear p1 p2 hm hh hb hc
        simp only [Option.isSome_some] at p3
        simp only [Option.getD_some] at P2
        go_enter Try.func90, Try.ntmps90
        go_upto_region 1 with (fail)
        generalize (w.alloc (.cells #[.int .u8 0, .int .u8 0, .int .u8 0, .int .u8 0, .int .u8 0, .int .u8 0, .int .u8 0, .int .u8 0, .int .u8 0, .int .u8 0, .int .u8 0, .int .u8 0, .int .u8 0, .int .u8 0, .int .u8 0, .int .u8 0] 23)) = W1 at *
        go_wp2_with (first
          | (go_at_call 145
             (with_reducible refine (r_in H.out _).mono ?_)
             rintro e w' ⟨rfl, rfl⟩
             rw [hd.out])
          | (refine wpL_load_rd rfl 23 (.tmp 30) rfl ⟨r, n * 33 + 16, none⟩ rfl (bytesV s) _ P2.out Try.underlying23 rfl (by rw [bytesV_length, Hs.out]; kernel_rfl) ?_)
          | (refine wpL_store_all rfl rfl 23 (.tmp 4) (.tmp 31) rfl _ rfl _ rfl _ _ HX.out (by rw [List.size_toArray, bytesV_length, Hs.out]; kernel_rfl) (by rw [List.size_toArray, bytesV_length, Hs.out]; rfl) (fun v hv => bytesV_one v (by simpa using hv)) ?_
             intro w2 x2 g2
             have HR := Lib.hid x2
             have HBR := Lib.hid (HB.out.grown g2 HB.out.size (by rintro k ⟨⟩; exact Nat.le_refl _))
             clear x2 g2))
        refine bodyPost_ret (results_cell2 rfl _ _ w.heap.size _ _ (0, 0) _ rfl HR.out Try.underlying23 rfl (by rw [List.size_toArray, bytesV_length, Hs.out]; kernel_rfl) _ rfl) rfl ?_
        rw [hw.out]
        exact ⟨rfl, HBR.out⟩
      | none =>
        have hw : Hid (d.read (n : Int) = ((d.cell (n : Int)).1, 0)) := Lib.hid (by unfold Dsk.read view; rw [if_pos hh, hb, hc]; rfl)
        have Hs := Lib.hid hm.1
        rw [hc] at p3
        have P1 := Lib.hid p1
        clear p1 p2 hm hh hb hc
        simp only [Option.isSome_none] at p3
        generalize (d.cell (n : Int)).1 = s at *
        go_enter Try.func90, Try.ntmps90
        go_upto_region 1 with (fail)
        generalize (w.alloc (.cells #[.int .u8 0, .int .u8 0, .int .u8 0, .int .u8 0, .int .u8 0, .int .u8 0, .int .u8 0, .int .u8 0, .int .u8 0, .int .u8 0, .int .u8 0, .int .u8 0, .int .u8 0, .int .u8 0, .int .u8 0, .int .u8 0] 23)) = W1 at *
        go_wp2_with (first
          | (go_at_call 145
             (with_reducible refine (r_in H.out _).mono ?_)
             rintro e w' ⟨rfl, rfl⟩
             rw [hd.out])
          | (refine wpL_load_rd rfl 23 (.tmp 38) rfl ⟨r, n * 33, none⟩ rfl (bytesV s) _ P1.out Try.underlying23 rfl (by rw [bytesV_length, Hs.out]; kernel_rfl) ?_)
          | (refine wpL_store_all rfl rfl 23 (.tmp 4) (.tmp 39) rfl _ rfl _ rfl _ _ HX.out (by rw [List.size_toArray, bytesV_length, Hs.out]; kernel_rfl) (by rw [List.size_toArray, bytesV_length, Hs.out]; rfl) (fun v hv => bytesV_one v (by simpa using hv)) ?_
             intro w2 x2 g2
             have HR := Lib.hid x2
             have HBR := Lib.hid (HB.out.grown g2 HB.out.size (by rintro k ⟨⟩; exact Nat.le_refl _))
             clear x2 g2))
        refine bodyPost_ret (results_cell2 rfl _ _ w.heap.size _ _ (0, 0) _ rfl HR.out Try.underlying23 rfl (by rw [List.size_toArray, bytesV_length, Hs.out]; kernel_rfl) _ rfl) rfl ?_
        rw [hw.out]
        exact ⟨rfl, HBR.out⟩
  · have hd := Lib.hid (decide_eq_false hh)
    have hw : Hid (d.read x = (zs, 13)) := Lib.hid (by unfold Dsk.read; rw [if_neg hh])
    clear hh
    go_enter Try.func90, Try.ntmps90
    go_upto_region 1 with (fail)
    generalize (w.alloc (.cells #[.int .u8 0, .int .u8 0, .int .u8 0, .int .u8 0, .int .u8 0, .int .u8 0, .int .u8 0, .int .u8 0, .int .u8 0, .int .u8 0, .int .u8 0, .int .u8 0, .int .u8 0, .int .u8 0, .int .u8 0, .int .u8 0] 23)) = W1 at *
    go_wp2_with (first
      | (go_at_call 145
         (with_reducible refine (r_in H.out _).mono ?_)
         rintro e w' ⟨rfl, rfl⟩
         rw [hd.out])
      | (refine wpL_store_all rfl rfl 23 (.tmp 4) (.tmp 10) rfl _ rfl _ rfl _ _ HX.out (by kernel_rfl) rfl (by simp [Value.oneCell']) ?_
         intro w2 x2 g2
         have HR := Lib.hid x2
         have HBR := Lib.hid (HB.out.grown g2 HB.out.size (by rintro k ⟨⟩; exact Nat.le_refl _))
         clear x2 g2))
    refine bodyPost_ret (results_cell2 rfl _ _ w.heap.size _ _ (0, 0) _ rfl HR.out Try.underlying23 rfl (by kernel_rfl) _ rfl) rfl ?_
    rw [hw.out]
    exact ⟨by first | rfl | (unfold secV; rw [zcells]; rfl), HBR.out⟩
theorem r_Durable (h : Rk w q r c d) (x : Int) : Calls Try.prog 92 #[.pointer (some ⟨q, 0, none⟩), .int .i64 x] w fun e w' => e = .returned (secV (d.durableAt x)) ∧ Below w.heap.size w w' := by
  have HB := Lib.hid ((Below.refl w.heap.size w).alloc (Nat.le_refl _) (.cells Z16 23))
  have H := Lib.hid (h.bel HB.out)
  have HX := Lib.hid (heap_alloc_new w (.cells Z16 23))
  obtain ⟨k0, k1, k2, k3⟩ := H.out.cells
  unfold Z16 at *
  clear h
  by_cases hh : d.has x
  · obtain ⟨n, rfl⟩ : ∃ n : Nat, x = (n : Int) := ⟨x.toNat, by have := (has_iff d x).1 hh; omega⟩
    have hd := Lib.hid (decide_eq_true hh)
    have hnl : n < d.cells.length := by have := (has_iff d (n : Int)).1 hh; omega
    have hnn := H.out.ok.n
    obtain ⟨p1, p2, p3⟩ := H.out.part hnl
    have Hs := Lib.hid (H.out.ok.cell_ok _ (cell_mem hh)).1
    have hw : Hid (d.durableAt (n : Int) = (d.cell (n : Int)).1) := Lib.hid (by unfold Dsk.durableAt; rw [if_pos hh])
    have P1 := Lib.hid p1
    clear p1 p2 p3 hh
    generalize (d.cell (n : Int)).1 = s at *
    go_enter Try.func92, Try.ntmps92
    go_upto_region 1 with (fail)
    generalize (w.alloc (.cells #[.int .u8 0, .int .u8 0, .int .u8 0, .int .u8 0, .int .u8 0, .int .u8 0, .int .u8 0, .int .u8 0, .int .u8 0, .int .u8 0, .int .u8 0, .int .u8 0, .int .u8 0, .int .u8 0, .int .u8 0, .int .u8 0] 23)) = W1 at *
    go_wp2_with (first
      | (go_at_call 145
         (with_reducible refine (r_in H.out _).mono ?_)
         rintro e w' ⟨rfl, rfl⟩
         rw [hd.out])
      | (refine wpL_load_rd rfl 23 (.tmp 16) rfl ⟨r, n * 33, none⟩ rfl (bytesV s) _ P1.out Try.underlying23 rfl (by rw [bytesV_length, Hs.out]; kernel_rfl) ?_)
      | (refine wpL_store_all rfl rfl 23 (.tmp 4) (.tmp 17) rfl _ rfl _ rfl _ _ HX.out (by rw [List.size_toArray, bytesV_length, Hs.out]; kernel_rfl) (by rw [List.size_toArray, bytesV_length, Hs.out]; rfl) (fun v hv => bytesV_one v (by simpa using hv)) ?_
         intro w2 x2 g2
         have HR := Lib.hid x2
         have HBR := Lib.hid (HB.out.grown g2 HB.out.size (by rintro k ⟨⟩; exact Nat.le_refl _))
         clear x2 g2))
    refine bodyPost_ret (results_cell_row rfl _ _ w.heap.size _ _ (0, 0) _ rfl HR.out Try.underlying23 rfl (by rw [List.size_toArray, bytesV_length, Hs.out]; kernel_rfl)) rfl ?_
    rw [hw.out]
    exact ⟨rfl, HBR.out⟩
  · have hd := Lib.hid (decide_eq_false hh)
    have hw : Hid (d.durableAt x = zs) := Lib.hid (by unfold Dsk.durableAt; rw [if_neg hh])
    clear hh
    go_enter Try.func92, Try.ntmps92
    go_upto_region 1 with (fail)
    generalize (w.alloc (.cells #[.int .u8 0, .int .u8 0, .int .u8 0, .int .u8 0, .int .u8 0, .int .u8 0, .int .u8 0, .int .u8 0, .int .u8 0, .int .u8 0, .int .u8 0, .int .u8 0, .int .u8 0, .int .u8 0, .int .u8 0, .int .u8 0] 23)) = W1 at *
    go_wp2_with (first
      | (go_at_call 145
         (with_reducible refine (r_in H.out _).mono ?_)
         rintro e w' ⟨rfl, rfl⟩
         rw [hd.out])
      | (refine wpL_store_all rfl rfl 23 (.tmp 4) (.tmp 9) rfl _ rfl _ rfl _ _ HX.out (by kernel_rfl) rfl (by simp [Value.oneCell']) ?_
         intro w2 x2 g2
         have HR := Lib.hid x2
         have HBR := Lib.hid (HB.out.grown g2 HB.out.size (by rintro k ⟨⟩; exact Nat.le_refl _))
         clear x2 g2))
    refine bodyPost_ret (results_cell_row rfl _ _ w.heap.size _ _ (0, 0) _ rfl HR.out Try.underlying23 rfl (by kernel_rfl)) rfl ?_
    rw [hw.out]
    exact ⟨by unfold secV; rw [zcells], HBR.out⟩
end
end Go.Proofs.Ytplemdgihlabgaa.Disk
