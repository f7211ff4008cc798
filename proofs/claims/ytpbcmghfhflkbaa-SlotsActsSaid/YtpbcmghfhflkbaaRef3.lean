/- The reference's disk: Read, Durable. Conditions: none. -/
import Derived.Test.YtpbcmghfhflkbaaRef2
import Derived.Test.YtpbcmghfhflkbaaDisk9
set_option linter.unusedVariables false
set_option linter.unusedSimpArgs false
namespace Go.Proofs.Ytpbcmghfhflkbaa.Disk
open Go.RowKit Tw
set_option maxHeartbeats 4000000
set_option maxRecDepth 100000
section
variable {w w' : World} {q r c : Nat} {d : Dsk}
theorem r_Read (h : Rk w q r c d) (x : Int) : Calls Try.prog 106 #[.pointer (some ⟨q, 0, none⟩), .int .i64 x] w fun e w' => e = .returned (.tuple #[secV (d.read x).1, .int .i64 ((d.read x).2 : Int)]) ∧ Below w.heap.size w w' := by
  have HB := Lib.hid ((Below.refl w.heap.size w).alloc (Nat.le_refl _) (.cells Z16 35))
  have H := Lib.hid (h.bel HB.out)
  have HX := Lib.hid (heap_alloc_new w (.cells Z16 35))
  obtain ⟨k0, k1, k2, k3⟩ := H.out.cells
  unfold Z16 at *
  clear h
  by_cases hh : d.has x
  · obtain ⟨n, rfl⟩ : ∃ n : Nat, x = (n : Int) := ⟨x.toNat, by have := (has_iff d x).1 hh; omega⟩
    have hd := Lib.hid (decide_eq_true hh)
    have hnl : n < d.cells.length := by have := (has_iff d (n : Int)).1 hh; omega
    have hnn := H.out.ok.n
    cases hb : d.broken with
    | true =>
      have hw : Hid (d.read (n : Int) = (zs, 3)) := Lib.hid (by unfold Dsk.read; rw [if_pos hh, if_pos hb])
      rw [hb] at k2
      clear hh hb
      go_enter Try.func106, Try.ntmps106
      go_upto_region 1 with (fail)
      generalize (w.alloc (.cells #[.int .u8 0, .int .u8 0, .int .u8 0, .int .u8 0, .int .u8 0, .int .u8 0, .int .u8 0, .int .u8 0, .int .u8 0, .int .u8 0, .int .u8 0, .int .u8 0, .int .u8 0, .int .u8 0, .int .u8 0, .int .u8 0] 35)) = W1 at *
      go_wp2_with (first
        | (go_at_call 104
           (with_reducible refine (r_in H.out _).mono ?_)
           rintro e w' ⟨rfl, rfl⟩
           rw [hd.out])
        | (refine wpL_store_all rfl rfl 35 (.tmp 4) (.tmp 15) rfl _ rfl _ rfl _ _ HX.out (by kernel_rfl) rfl (by simp [Value.oneCell']) ?_
           intro w2 x2 g2
           have HR := Lib.hid x2
           have HBR := Lib.hid (HB.out.grown g2 HB.out.size (by rintro k ⟨⟩; exact Nat.le_refl _))
           clear x2 g2))
      refine bodyPost_ret (results_cell2 rfl _ _ w.heap.size _ _ (0, 0) _ rfl HR.out Try.underlying35 rfl (by kernel_rfl) _ rfl) rfl ?_
      rw [hw.out]
      exact ⟨by first | rfl | (unfold secV; rw [zcells]; rfl), HBR.out⟩
    | false =>
      obtain ⟨p1, p2, p3⟩ := H.out.part hnl
      have hm := H.out.ok.cell_ok _ (cell_mem hh)
      rw [hb] at k2
      cases hc : (d.cell (n : Int)).2 with
      | some s =>
        have hw : Hid (d.read (n : Int) = (s, 0)) := Lib.hid (by unfold Dsk.read view; rw [if_pos hh, hb, hc]; rfl)
        have Hs := Lib.hid (hm.2 s hc)
        rw [hc] at p2 p3
        have P2 := Lib.hid p2
        clear p1 p2 hm hh hb hc
        simp only [Option.isSome_some] at p3
        simp only [Option.getD_some] at P2
        go_enter Try.func106, Try.ntmps106
        go_upto_region 1 with (fail)
        generalize (w.alloc (.cells #[.int .u8 0, .int .u8 0, .int .u8 0, .int .u8 0, .int .u8 0, .int .u8 0, .int .u8 0, .int .u8 0, .int .u8 0, .int .u8 0, .int .u8 0, .int .u8 0, .int .u8 0, .int .u8 0, .int .u8 0, .int .u8 0] 35)) = W1 at *
        go_wp2_with (first
          | (go_at_call 104
             (with_reducible refine (r_in H.out _).mono ?_)
             rintro e w' ⟨rfl, rfl⟩
             rw [hd.out])
          | (refine wpL_load_rd rfl 35 (.tmp 30) rfl ⟨r, n * 33 + 16, none⟩ rfl (bytesV s) _ P2.out Try.underlying35 rfl (by rw [bytesV_length, Hs.out]; kernel_rfl) ?_)
          | (refine wpL_store_all rfl rfl 35 (.tmp 4) (.tmp 31) rfl _ rfl _ rfl _ _ HX.out (by rw [List.size_toArray, bytesV_length, Hs.out]; kernel_rfl) (by rw [List.size_toArray, bytesV_length, Hs.out]; rfl) (fun v hv => bytesV_one v (by simpa using hv)) ?_
             intro w2 x2 g2
             have HR := Lib.hid x2
             have HBR := Lib.hid (HB.out.grown g2 HB.out.size (by rintro k ⟨⟩; exact Nat.le_refl _))
             clear x2 g2))
        refine bodyPost_ret (results_cell2 rfl _ _ w.heap.size _ _ (0, 0) _ rfl HR.out Try.underlying35 rfl (by rw [List.size_toArray, bytesV_length, Hs.out]; kernel_rfl) _ rfl) rfl ?_
        rw [hw.out]
        exact ⟨rfl, HBR.out⟩
      | none =>
        have hw : Hid (d.read (n : Int) = ((d.cell (n : Int)).1, 0)) := Lib.hid (by unfold Dsk.read view; rw [if_pos hh, hb, hc]; rfl)
        have Hs := Lib.hid hm.1
        rw [hc] at p3
        have P1 := Lib.hid p1
        clear p1 p2 hm hh hb hc
        simp only [Option.isSome_none] at p3
        generalize (d.cell (n : Int)).1 = s at *
        go_enter Try.func106, Try.ntmps106
        go_upto_region 1 with (fail)
        generalize (w.alloc (.cells #[.int .u8 0, .int .u8 0, .int .u8 0, .int .u8 0, .int .u8 0, .int .u8 0, .int .u8 0, .int .u8 0, .int .u8 0, .int .u8 0, .int .u8 0, .int .u8 0, .int .u8 0, .int .u8 0, .int .u8 0, .int .u8 0] 35)) = W1 at *
        go_wp2_with (first
          | (go_at_call 104
             (with_reducible refine (r_in H.out _).mono ?_)
             rintro e w' ⟨rfl, rfl⟩
             rw [hd.out])
          | (refine wpL_load_rd rfl 35 (.tmp 38) rfl ⟨r, n * 33, none⟩ rfl (bytesV s) _ P1.out Try.underlying35 rfl (by rw [bytesV_length, Hs.out]; kernel_rfl) ?_)
          | (refine wpL_store_all rfl rfl 35 (.tmp 4) (.tmp 39) rfl _ rfl _ rfl _ _ HX.out (by rw [List.size_toArray, bytesV_length, Hs.out]; kernel_rfl) (by rw [List.size_toArray, bytesV_length, Hs.out]; rfl) (fun v hv => bytesV_one v (by simpa using hv)) ?_
             intro w2 x2 g2
             have HR := Lib.hid x2
             have HBR := Lib.hid (HB.out.grown g2 HB.out.size (by rintro k ⟨⟩; exact Nat.le_refl _))
             clear x2 g2))
        refine bodyPost_ret (results_cell2 rfl _ _ w.heap.size _ _ (0, 0) _ rfl HR.out Try.underlying35 rfl (by rw [List.size_toArray, bytesV_length, Hs.out]; kernel_rfl) _ rfl) rfl ?_
        rw [hw.out]
        exact ⟨rfl, HBR.out⟩
  · have hd := Lib.hid (decide_eq_false hh)
    have hw : Hid (d.read x = (zs, 13)) := Lib.hid (by unfold Dsk.read; rw [if_neg hh])
    clear hh
    go_enter Try.func106, Try.ntmps106
    go_upto_region 1 with (fail)
    generalize (w.alloc (.cells #[.int .u8 0, .int .u8 0, .int .u8 0, .int .u8 0, .int .u8 0, .int .u8 0, .int .u8 0, .int .u8 0, .int .u8 0, .int .u8 0, .int .u8 0, .int .u8 0, .int .u8 0, .int .u8 0, .int .u8 0, .int .u8 0] 35)) = W1 at *
    go_wp2_with (first
      | (go_at_call 104
         (with_reducible refine (r_in H.out _).mono ?_)
         rintro e w' ⟨rfl, rfl⟩
         rw [hd.out])
      | (refine wpL_store_all rfl rfl 35 (.tmp 4) (.tmp 10) rfl _ rfl _ rfl _ _ HX.out (by kernel_rfl) rfl (by simp [Value.oneCell']) ?_
         intro w2 x2 g2
         have HR := Lib.hid x2
         have HBR := Lib.hid (HB.out.grown g2 HB.out.size (by rintro k ⟨⟩; exact Nat.le_refl _))
         clear x2 g2))
    refine bodyPost_ret (results_cell2 rfl _ _ w.heap.size _ _ (0, 0) _ rfl HR.out Try.underlying35 rfl (by kernel_rfl) _ rfl) rfl ?_
    rw [hw.out]
    exact ⟨by first | rfl | (unfold secV; rw [zcells]; rfl), HBR.out⟩
end
end Go.Proofs.Ytpbcmghfhflkbaa.Disk
