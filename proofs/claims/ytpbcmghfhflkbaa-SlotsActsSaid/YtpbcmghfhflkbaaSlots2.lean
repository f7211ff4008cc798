/- Contracts of the package slots: read, latest, Latest. Conditions: none. -/
import Derived.Test.YtpbcmghfhflkbaaSlots
import Derived.Test.YtpbcmghfhflkbaaDisk6
import Derived.Test.YtpbcmghfhflkbaaSeal7
set_option linter.unusedVariables false
set_option linter.unusedSimpArgs false
namespace Go.Proofs.Ytpbcmghfhflkbaa.Slots
open Go.RowKit Tw Disk
set_option maxHeartbeats 2000000
set_option maxRecDepth 100000

theorem read_len {d : Dsk} (h : d.Ok) (x : Int) : (d.read x).1.length = 16 := by
  unfold Dsk.read
  split
  · rename_i hh
    split
    · exact zs_len
    · exact h.view (cell_mem hh)
  · exact zs_len
theorem read_err (d : Dsk) (x : Int) : (d.read x).2 ≤ 13 := by
  unfold Dsk.read
  (repeat' split) <;> simp
section
variable {w : World} {p g mb c : Nat} {d : Dsk}
theorem c_read (h : Dk w p g mb c d) (b s at_ : Int) (hr : RingOk b s) (hat : 0 ≤ at_ ∧ at_ ≤ 4096) :
    Calls Try.prog 163 #[.agg #[.int .i64 b, .int .i64 s], .pointer (some ⟨p, 0, none⟩), .int .i64 at_] w fun e w' => e = .returned (.agg #[.int .u32 ((readAt d b s at_).1 : Nat), .int .u64 ((readAt d b s at_).2 : Nat)]) ∧ Below w.heap.size w w' := by
  have HB := Lib.hid (((Below.refl _ _).alloc (Nat.le_refl w.heap.size) (.cells #[.int .i64 b, .int .i64 s] 182)).alloc (by simp) (.cells #[.int .u32 0, .int .u64 0] 185))
  have hx1 := heap_alloc_new w (.cells #[.int .i64 b, .int .i64 s] 182)
  have hx2 := heap_alloc_new (w.alloc (.cells #[.int .i64 b, .int .i64 s] 182)) (.cells #[.int .u32 0, .int .u64 0] 185)
  have HX := Lib.hid ((Below.heap_alloc (w.alloc (.cells #[.int .i64 b, .int .i64 s] 182)) (.cells #[.int .u32 0, .int .u64 0] 185) _ (heap_lt hx1)).trans hx1)
  rw [World.size_alloc] at hx2
  have HY := Lib.hid hx2
  have HK := Lib.hid (h.bel HB.out)
  have hrl := read_len h.ok at_
  have hre := read_err d at_
  have hR := fun w (h : Dk w p g mb c d) => c_dRead h at_ (by omega)
  clear h hx1 hx2
  obtain ⟨⟨x, er⟩, hrd⟩ : ∃ r, d.read at_ = r := ⟨_, rfl⟩
  obtain ⟨⟨r1, r2⟩, hra⟩ : ∃ r, readAt d b s at_ = r := ⟨_, rfl⟩
  rw [hra]
  unfold readAt told at hra
  rw [hrd] at hrl hre hra
  simp only at hrl hre hra
  have Hra := Lib.hid hra
  have Hrd := Lib.hid hrd
  have Hrl := Lib.hid hrl
  have Hr := Lib.hid hr
  have hsz : Hid ((bytesV x).toArray.size = 16) := Lib.hid (by rw [List.size_toArray, bytesV_length]; exact hrl)
  clear hrd hra hrl hr
  go_enter Try.func163, Try.ntmps163
  go_upto_region 1 with (fail)
  generalize (w.alloc (.cells #[.int .i64 b, .int .i64 s] 182)).alloc (.cells #[.int .u32 0, .int .u64 0] 185) = W1 at *
  by_cases he : er = 0
  · subst he
    obtain ⟨⟨n, q, ok⟩, hop⟩ : ∃ r, Seal.opened x = r := ⟨_, rfl⟩
    have hn := opened_lt x
    rw [hop] at hn
    have hra := Hra.out
    rw [if_pos rfl, hop] at hra
    simp only at hra hn
    have Hop := Lib.hid hop
    have Hn := Lib.hid hn
    have hp := fun w => c_place b s n w Hr.out hn.1
    clear hop hn hre
    cases ok with
    | false =>
      rw [if_neg (by simp)] at hra
      simp only [Prod.mk.injEq] at hra
      have Hre := Lib.hid hra
      clear hra
      go_wp2_with (first
    | (go_at_call 181
       (with_reducible refine (hR _ HK.out).mono ?_)
       rintro e w2 ⟨rfl, hb2⟩
       rw [Hrd.out]
       simp only [secV]
       have HB2 := Lib.hid (HB.out.trans (hb2.mono HB.out.size))
       have HX2 := Lib.hid ((hb2.block _ (heap_lt HX.out)).trans HX.out)
       have HY2 := Lib.hid ((hb2.block _ (heap_lt HY.out)).trans HY.out)
       have HX7 := Lib.hid (heap_alloc_new w2 (.cells #[.int .u8 0, .int .u8 0, .int .u8 0, .int .u8 0, .int .u8 0, .int .u8 0, .int .u8 0, .int .u8 0, .int .u8 0, .int .u8 0, .int .u8 0, .int .u8 0, .int .u8 0, .int .u8 0, .int .u8 0, .int .u8 0] 35))
       clear hb2 hR HB HX HY)
    | (refine wpL_store_all rfl rfl 35 (.tmp 7) (.tmp 16) rfl _ rfl _ rfl _ _ HX7.out (by rw [hsz.out]; kernel_rfl) hsz.out (fun v hv => bytesV_one v (by simpa using hv)) ?_
       intro w5 x5 g5
       have F5 := ((Fr.alloc (S := fun k => k = w2.heap.size) (w := w2) (.cells #[.int .u8 0, .int .u8 0, .int .u8 0, .int .u8 0, .int .u8 0, .int .u8 0, .int .u8 0, .int .u8 0, .int .u8 0, .int .u8 0, .int .u8 0, .int .u8 0, .int .u8 0, .int .u8 0, .int .u8 0, .int .u8 0] 35)).trans (Fr.grown (S := fun k => k = w2.heap.size) g5 (by simp)) (fun b hb e => e))
       have HX5 := Lib.hid x5
       have HB5 := Lib.hid (HB2.out.trans (F5.bel (fun k e => by have := HB2.out.size; omega) HB2.out.size))
       have HX3 := Lib.hid (heap_fr HX2.out F5 (by have := heap_lt HX2.out; omega))
       have HY3 := Lib.hid (heap_fr HY2.out F5 (by have := heap_lt HY2.out; omega))
       clear x5 g5 F5)
    | (go_at_call 216
       (with_reducible refine (Seal.c_Open x _ Hrl.out).mono ?_)
       rintro e w3 ⟨rfl, hb3⟩
       rw [Hop.out]
       have HB6 := Lib.hid (HB5.out.trans (hb3.mono HB5.out.size))
       have HX6 := Lib.hid ((hb3.block _ (heap_lt HX3.out)).trans HX3.out)
       have HY6 := Lib.hid ((hb3.block _ (heap_lt HY3.out)).trans HY3.out)
       have d1 : w3.cell? ⟨w.heap.size, 0, none⟩ = some (.int .i64 b) := by simp [World.cell?, HX6.out]
       have d2 : w3.cell? ⟨w.heap.size, 1, none⟩ = some (.int .i64 s) := by simp [World.cell?, HX6.out]
       clear hb3)
    | (refine wpList_load_row rfl 35 (.tmp 7) rfl _ rfl _ _ _ _ HX5.out Try.underlying35 rfl (by rw [hsz.out]; kernel_rfl) ?_)
    | (refine wpL_store_all rfl rfl 185 (.tmp 6) (.tmp 36) rfl _ rfl _ rfl _ _ HY6.out (by kernel_rfl) rfl (by simp [Value.oneCell']) ?_
       intro w9 x9 g9
       have HR := Lib.hid x9
       have HBR := Lib.hid (HB6.out.grown g9 HB6.out.size (by rintro k ⟨⟩; exact Nat.le_succ _))
       clear x9 g9)
    | fail)
      refine bodyPost_ret (results_cell_row rfl _ _ (w.heap.size + 1) _ _ (0, 0) _ rfl HR.out Try.underlying185 rfl (by kernel_rfl)) rfl ?_
      rw [← Hre.out.1, ← Hre.out.2]
      exact ⟨rfl, HBR.out⟩
    | true =>
      by_cases hpl : place b s n = at_
      · rw [if_pos ⟨rfl, hpl⟩] at hra
        simp only [Prod.mk.injEq] at hra
        have Hre := Lib.hid hra
        have hne : (place b s n != at_) = false := by simp [hpl]
        clear hra hpl
        go_wp2_with (first
      | (go_at_call 181
         (with_reducible refine (hR _ HK.out).mono ?_)
         rintro e w2 ⟨rfl, hb2⟩
         rw [Hrd.out]
         simp only [secV]
         have HB2 := Lib.hid (HB.out.trans (hb2.mono HB.out.size))
         have HX2 := Lib.hid ((hb2.block _ (heap_lt HX.out)).trans HX.out)
         have HY2 := Lib.hid ((hb2.block _ (heap_lt HY.out)).trans HY.out)
         have HX7 := Lib.hid (heap_alloc_new w2 (.cells #[.int .u8 0, .int .u8 0, .int .u8 0, .int .u8 0, .int .u8 0, .int .u8 0, .int .u8 0, .int .u8 0, .int .u8 0, .int .u8 0, .int .u8 0, .int .u8 0, .int .u8 0, .int .u8 0, .int .u8 0, .int .u8 0] 35))
         clear hb2 hR HB HX HY)
      | (refine wpL_store_all rfl rfl 35 (.tmp 7) (.tmp 16) rfl _ rfl _ rfl _ _ HX7.out (by rw [hsz.out]; kernel_rfl) hsz.out (fun v hv => bytesV_one v (by simpa using hv)) ?_
         intro w5 x5 g5
         have F5 := ((Fr.alloc (S := fun k => k = w2.heap.size) (w := w2) (.cells #[.int .u8 0, .int .u8 0, .int .u8 0, .int .u8 0, .int .u8 0, .int .u8 0, .int .u8 0, .int .u8 0, .int .u8 0, .int .u8 0, .int .u8 0, .int .u8 0, .int .u8 0, .int .u8 0, .int .u8 0, .int .u8 0] 35)).trans (Fr.grown (S := fun k => k = w2.heap.size) g5 (by simp)) (fun b hb e => e))
         have HX5 := Lib.hid x5
         have HB5 := Lib.hid (HB2.out.trans (F5.bel (fun k e => by have := HB2.out.size; omega) HB2.out.size))
         have HX3 := Lib.hid (heap_fr HX2.out F5 (by have := heap_lt HX2.out; omega))
         have HY3 := Lib.hid (heap_fr HY2.out F5 (by have := heap_lt HY2.out; omega))
         clear x5 g5 F5)
      | (go_at_call 216
         (with_reducible refine (Seal.c_Open x _ Hrl.out).mono ?_)
         rintro e w3 ⟨rfl, hb3⟩
         rw [Hop.out]
         have HB6 := Lib.hid (HB5.out.trans (hb3.mono HB5.out.size))
         have HX6 := Lib.hid ((hb3.block _ (heap_lt HX3.out)).trans HX3.out)
         have HY6 := Lib.hid ((hb3.block _ (heap_lt HY3.out)).trans HY3.out)
         have d1 : w3.cell? ⟨w.heap.size, 0, none⟩ = some (.int .i64 b) := by simp [World.cell?, HX6.out]
         have d2 : w3.cell? ⟨w.heap.size, 1, none⟩ = some (.int .i64 s) := by simp [World.cell?, HX6.out]
         clear hb3)
      | (refine wpList_load_row rfl 35 (.tmp 7) rfl _ rfl _ _ _ _ HX5.out Try.underlying35 rfl (by rw [hsz.out]; kernel_rfl) ?_)
      | (go_at_call 94
         (with_reducible refine (hp _).mono ?_)
         rintro e w4 ⟨rfl, hb4⟩
         have HB7 := Lib.hid (HB6.out.trans (hb4.mono HB6.out.size))
         have HY7 := Lib.hid ((hb4.block _ (heap_lt HY6.out)).trans HY6.out)
         clear hb4 hp)
      | (refine wpL_store_all rfl rfl 185 (.tmp 6) (.tmp 39) rfl _ rfl _ rfl _ _ HY7.out (by kernel_rfl) rfl (by simp [Value.oneCell']) ?_
         intro w9 x9 g9
         have HR := Lib.hid x9
         have HBR := Lib.hid (HB7.out.grown g9 HB7.out.size (by rintro k ⟨⟩; exact Nat.le_succ _))
         clear x9 g9)
      | fail)
        refine bodyPost_ret (results_cell_row rfl _ _ (w.heap.size + 1) _ _ (0, 0) _ rfl HR.out Try.underlying185 rfl (by kernel_rfl)) rfl ?_
        rw [← Hre.out.1, ← Hre.out.2]
        exact ⟨rfl, HBR.out⟩
      · rw [if_neg (fun h => hpl h.2)] at hra
        simp only [Prod.mk.injEq] at hra
        have Hre := Lib.hid hra
        have hne : (place b s n != at_) = true := by simp [hpl]
        clear hra hpl
        go_wp2_with (first
      | (go_at_call 181
         (with_reducible refine (hR _ HK.out).mono ?_)
         rintro e w2 ⟨rfl, hb2⟩
         rw [Hrd.out]
         simp only [secV]
         have HB2 := Lib.hid (HB.out.trans (hb2.mono HB.out.size))
         have HX2 := Lib.hid ((hb2.block _ (heap_lt HX.out)).trans HX.out)
         have HY2 := Lib.hid ((hb2.block _ (heap_lt HY.out)).trans HY.out)
         have HX7 := Lib.hid (heap_alloc_new w2 (.cells #[.int .u8 0, .int .u8 0, .int .u8 0, .int .u8 0, .int .u8 0, .int .u8 0, .int .u8 0, .int .u8 0, .int .u8 0, .int .u8 0, .int .u8 0, .int .u8 0, .int .u8 0, .int .u8 0, .int .u8 0, .int .u8 0] 35))
         clear hb2 hR HB HX HY)
      | (refine wpL_store_all rfl rfl 35 (.tmp 7) (.tmp 16) rfl _ rfl _ rfl _ _ HX7.out (by rw [hsz.out]; kernel_rfl) hsz.out (fun v hv => bytesV_one v (by simpa using hv)) ?_
         intro w5 x5 g5
         have F5 := ((Fr.alloc (S := fun k => k = w2.heap.size) (w := w2) (.cells #[.int .u8 0, .int .u8 0, .int .u8 0, .int .u8 0, .int .u8 0, .int .u8 0, .int .u8 0, .int .u8 0, .int .u8 0, .int .u8 0, .int .u8 0, .int .u8 0, .int .u8 0, .int .u8 0, .int .u8 0, .int .u8 0] 35)).trans (Fr.grown (S := fun k => k = w2.heap.size) g5 (by simp)) (fun b hb e => e))
         have HX5 := Lib.hid x5
         have HB5 := Lib.hid (HB2.out.trans (F5.bel (fun k e => by have := HB2.out.size; omega) HB2.out.size))
         have HX3 := Lib.hid (heap_fr HX2.out F5 (by have := heap_lt HX2.out; omega))
         have HY3 := Lib.hid (heap_fr HY2.out F5 (by have := heap_lt HY2.out; omega))
         clear x5 g5 F5)
      | (go_at_call 216
         (with_reducible refine (Seal.c_Open x _ Hrl.out).mono ?_)
         rintro e w3 ⟨rfl, hb3⟩
         rw [Hop.out]
         have HB6 := Lib.hid (HB5.out.trans (hb3.mono HB5.out.size))
         have HX6 := Lib.hid ((hb3.block _ (heap_lt HX3.out)).trans HX3.out)
         have HY6 := Lib.hid ((hb3.block _ (heap_lt HY3.out)).trans HY3.out)
         have d1 : w3.cell? ⟨w.heap.size, 0, none⟩ = some (.int .i64 b) := by simp [World.cell?, HX6.out]
         have d2 : w3.cell? ⟨w.heap.size, 1, none⟩ = some (.int .i64 s) := by simp [World.cell?, HX6.out]
         clear hb3)
      | (refine wpList_load_row rfl 35 (.tmp 7) rfl _ rfl _ _ _ _ HX5.out Try.underlying35 rfl (by rw [hsz.out]; kernel_rfl) ?_)
      | (go_at_call 94
         (with_reducible refine (hp _).mono ?_)
         rintro e w4 ⟨rfl, hb4⟩
         have HB7 := Lib.hid (HB6.out.trans (hb4.mono HB6.out.size))
         have HY7 := Lib.hid ((hb4.block _ (heap_lt HY6.out)).trans HY6.out)
         clear hb4 hp)
      | (refine wpL_store_all rfl rfl 185 (.tmp 6) (.tmp 36) rfl _ rfl _ rfl _ _ HY7.out (by kernel_rfl) rfl (by simp [Value.oneCell']) ?_
         intro w9 x9 g9
         have HR := Lib.hid x9
         have HBR := Lib.hid (HB7.out.grown g9 HB7.out.size (by rintro k ⟨⟩; exact Nat.le_succ _))
         clear x9 g9)
      | fail)
        refine bodyPost_ret (results_cell_row rfl _ _ (w.heap.size + 1) _ _ (0, 0) _ rfl HR.out Try.underlying185 rfl (by kernel_rfl)) rfl ?_
        rw [← Hre.out.1, ← Hre.out.2]
        exact ⟨rfl, HBR.out⟩
  · have hra := Hra.out
    rw [if_neg he] at hra
    simp only [Prod.mk.injEq] at hra
    have hne : ((er : Int) != 0) = true := by simp; omega
    have Hre := Lib.hid hra
    clear hra he
    go_wp2_with (first
  | (go_at_call 181
     (with_reducible refine (hR _ HK.out).mono ?_)
     rintro e w2 ⟨rfl, hb2⟩
     rw [Hrd.out]
     simp only [secV]
     have HB2 := Lib.hid (HB.out.trans (hb2.mono HB.out.size))
     have HX2 := Lib.hid ((hb2.block _ (heap_lt HX.out)).trans HX.out)
     have HY2 := Lib.hid ((hb2.block _ (heap_lt HY.out)).trans HY.out)
     have HX7 := Lib.hid (heap_alloc_new w2 (.cells #[.int .u8 0, .int .u8 0, .int .u8 0, .int .u8 0, .int .u8 0, .int .u8 0, .int .u8 0, .int .u8 0, .int .u8 0, .int .u8 0, .int .u8 0, .int .u8 0, .int .u8 0, .int .u8 0, .int .u8 0, .int .u8 0] 35))
     clear hb2 hR HB HX HY)
  | (refine wpL_store_all rfl rfl 35 (.tmp 7) (.tmp 16) rfl _ rfl _ rfl _ _ HX7.out (by rw [hsz.out]; kernel_rfl) hsz.out (fun v hv => bytesV_one v (by simpa using hv)) ?_
     intro w5 x5 g5
     have F5 := ((Fr.alloc (S := fun k => k = w2.heap.size) (w := w2) (.cells #[.int .u8 0, .int .u8 0, .int .u8 0, .int .u8 0, .int .u8 0, .int .u8 0, .int .u8 0, .int .u8 0, .int .u8 0, .int .u8 0, .int .u8 0, .int .u8 0, .int .u8 0, .int .u8 0, .int .u8 0, .int .u8 0] 35)).trans (Fr.grown (S := fun k => k = w2.heap.size) g5 (by simp)) (fun b hb e => e))
     have HX5 := Lib.hid x5
     have HB5 := Lib.hid (HB2.out.trans (F5.bel (fun k e => by have := HB2.out.size; omega) HB2.out.size))
     have HX3 := Lib.hid (heap_fr HX2.out F5 (by have := heap_lt HX2.out; omega))
     have HY3 := Lib.hid (heap_fr HY2.out F5 (by have := heap_lt HY2.out; omega))
     clear x5 g5 F5)
  | (refine wpL_store_all rfl rfl 185 (.tmp 6) (.tmp 20) rfl _ rfl _ rfl _ _ HY3.out (by kernel_rfl) rfl (by simp [Value.oneCell']) ?_
     intro w9 x9 g9
     have HR := Lib.hid x9
     have HBR := Lib.hid (HB5.out.grown g9 HB5.out.size (by rintro k ⟨⟩; exact Nat.le_succ _))
     clear x9 g9)
  | fail)
    refine bodyPost_ret (results_cell_row rfl _ _ (w.heap.size + 1) _ _ (0, 0) _ rfl HR.out Try.underlying185 rfl (by kernel_rfl)) rfl ?_
    rw [← Hre.out.1, ← Hre.out.2]
    exact ⟨rfl, HBR.out⟩
end
end Go.Proofs.Ytpbcmghfhflkbaa.Slots
