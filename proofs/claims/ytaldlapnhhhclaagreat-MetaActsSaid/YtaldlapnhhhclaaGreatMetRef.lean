/- The reference's meta (twainref13) over its disk: Look, Start, Retire. Conditions: at most 10^9 operations. -/
import Derived.Test.YtaldlapnhhhclaaGreatMetEx
set_option linter.unusedVariables false
set_option linter.unusedSimpArgs false
namespace Go.Proofs.YtaldlapnhhhclaaGreat.Meta
open Go.RowKit Tw Disk Slots
set_option maxHeartbeats 4000000
set_option maxRecDepth 100000
section
variable {w : World} {p g mb c q r : Nat} {d d' : Dsk}
theorem r_Look (h : Rk w q r c d) : Calls Tryz.prog 38 #[.pointer (some ⟨q, 0, none⟩)] w fun e w' => e = .returned (.agg (metV (boot d) (hotOf d) (dirtyOf d))) ∧ Below w.heap.size w w' := by
  have HB := Lib.hid ((Below.refl w.heap.size w).alloc (Nat.le_refl _) (.cells #[.int .u32 0, .int .u64 0, .int .u64 0] 81))
  have HX := Lib.hid (heap_alloc_new w (.cells #[.int .u32 0, .int .u64 0, .int .u64 0] 81))
  have HK := Lib.hid (h.bel HB.out)
  clear h
  unfold metV
  go_enter Tryz.func38, Tryz.ntmps38
  go_upto_region 1 with (fail)
  generalize w.alloc (.cells #[.int .u32 0, .int .u64 0, .int .u64 0] 81) = W1 at *
  go_wp2_with (first
    | (go_at_call 82
       (with_reducible refine (r_Boot HK.out).mono ?_)
       rintro e w1 ⟨rfl, hb1⟩
       have HB := Lib.hid (HB.out.trans (hb1.mono HB.out.size))
       have HX := Lib.hid ((hb1.block _ (heap_lt HX.out)).trans HX.out)
       have HK := Lib.hid (HK.out.bel hb1)
       clear hb1)
    | (go_at_call 83
       (with_reducible refine (r_aGet HK.out).mono ?_)
       rintro e w2 ⟨rfl, hb1⟩
       have HB := Lib.hid (HB.out.trans (hb1.mono HB.out.size))
       have HX := Lib.hid ((hb1.block _ (heap_lt HX.out)).trans HX.out)
       have HK := Lib.hid (HK.out.bel hb1)
       clear hb1)
    | (go_at_call 28
       (with_reducible refine (r_dGet HK.out).mono ?_)
       rintro e w3 ⟨rfl, hb1⟩
       have HB := Lib.hid (HB.out.trans (hb1.mono HB.out.size))
       have HX3 := Lib.hid ((hb1.block _ (heap_lt HX.out)).trans HX.out)
       clear hb1)
    | (refine wpL_store_all rfl rfl 81 (.tmp 2) (.tmp 9) rfl _ rfl _ rfl _ _ HX3.out (by kernel_rfl) rfl (by simp [Value.oneCell']) ?_
       intro w9 x9 g9
       have HR := Lib.hid x9
       have HBR := Lib.hid (HB.out.grown g9 HB.out.size (by rintro k ⟨⟩; exact Nat.le_refl _))
       clear x9 g9))
  refine bodyPost_ret (results_cell_row rfl _ _ w.heap.size _ _ (0, 0) _ rfl HR.out Tryz.underlying81 rfl (by kernel_rfl)) rfl ?_
  exact ⟨rfl, HBR.out⟩
theorem r_Start (h : Rk w q r c d) (ho : d.ops + 1 < 1000000000) :
    Calls Tryz.prog 78 #[.pointer (some ⟨q, 0, none⟩)] w fun e w' => e = .returned (.tuple #[.agg (if (mstart d).2 = 0 then metV (boot (mstart d).1) (hotOf (mstart d).1) (dirtyOf (mstart d).1) else metV 0 0 0), .int .i64 ((mstart d).2 : Int)]) ∧ Rk w' q r c (mstart d).1 ∧ Fr (fun k => k = q ∨ k = r) w w' := by
  have hlt := h.lts
  have hB := ((Below.refl w.heap.size w).alloc (Nat.le_refl _) (.cells #[.int .u32 0, .int .u64 0, .int .u64 0] 81))
  have HB := Lib.hid hB
  have HX := Lib.hid (heap_alloc_new w (.cells #[.int .u32 0, .int .u64 0, .int .u64 0] 81))
  have HK := Lib.hid (h.bel hB)
  have hn := fun w (h : Rk w q r c d) => r_Next h ho
  unfold mstart
  obtain ⟨⟨d1, m, e1⟩, hs⟩ : ∃ r, snext d = r := ⟨_, rfl⟩
  rw [hs] at hn ⊢
  simp only at hn ⊢
  clear h hB
  by_cases he : e1 = 0
  · subst he
    have hlook := fun w (h : Rk w q r c d1) => r_Look h
    simp only [if_pos]
    generalize boot d1 = B at *
    generalize hotOf d1 = H at *
    generalize dirtyOf d1 = D at *
    unfold metV at *
    clear hs
    go_enter Tryz.func78, Tryz.ntmps78
    go_upto_region 1 with (fail)
    generalize w.alloc (.cells #[.int .u32 0, .int .u64 0, .int .u64 0] 81) = W1 at *
    go_wp2_with (first
      | (go_at_call 136
         (with_reducible refine (hn _ HK.out).mono ?_)
         rintro e w1 ⟨rfl, hk1, f1⟩
         have HF1 := Lib.hid ((Fr.of_bel (S := fun k => k = q ∨ k = r) HB.out).trans f1 (fun _ _ e => e))
         have HK1 := Lib.hid hk1
         have HX1 := Lib.hid (heap_fr HX.out f1 (by omega))
         clear hk1 f1 hn)
      | (go_at_call 38
         (with_reducible refine (hlook _ HK1.out).mono ?_)
         rintro e w2 ⟨rfl, hb2⟩
         have HF2 := Lib.hid (HF1.out.trans (Fr.of_bel (S := fun _ => False) hb2) (fun _ _ e => e.elim))
         have HK2 := Lib.hid (HK1.out.bel hb2)
         have HX2 := Lib.hid ((hb2.block _ (heap_lt HX1.out)).trans HX1.out)
         clear hb2 hlook)
      | (refine wpL_store_all rfl rfl 81 (.tmp 2) (.tmp 16) rfl _ rfl _ rfl _ _ HX2.out (by kernel_rfl) rfl (by simp [Value.oneCell']) ?_
         intro w9 x9 g9
         have HR := Lib.hid x9
         have F9 := Lib.hid (Fr.grown (S := fun k => k = w.heap.size) g9 (by simp))
         clear x9 g9))
    refine bodyPost_ret (results_cell2 rfl _ _ w.heap.size _ _ (0, 0) _ rfl HR.out Tryz.underlying81 rfl (by kernel_rfl) _ rfl) rfl ?_
    exact ⟨rfl, HK2.out.fr F9.out (by omega) (by omega), HF2.out.trans F9.out (fun b hb e => by omega)⟩
  · rw [if_neg he]
    simp only [if_neg he]
    have hne : ((e1 : Int) != 0) = true := by simp; omega
    unfold metV at *
    clear hs
    go_enter Tryz.func78, Tryz.ntmps78
    go_upto_region 1 with (fail)
    generalize w.alloc (.cells #[.int .u32 0, .int .u64 0, .int .u64 0] 81) = W1 at *
    go_wp2_with (first
      | (go_at_call 136
         (with_reducible refine (hn _ HK.out).mono ?_)
         rintro e w1 ⟨rfl, hk1, f1⟩
         have HF1 := Lib.hid ((Fr.of_bel (S := fun k => k = q ∨ k = r) HB.out).trans f1 (fun _ _ e => e))
         have HK1 := Lib.hid hk1
         have HX1 := Lib.hid (heap_fr HX.out f1 (by omega))
         clear hk1 f1 hn)
      | (refine wpL_store_all rfl rfl 81 (.tmp 2) (.tmp 13) rfl _ rfl _ rfl _ _ HX1.out (by kernel_rfl) rfl (by simp [Value.oneCell']) ?_
         intro w9 x9 g9
         have HR := Lib.hid x9
         have F9 := Lib.hid (Fr.grown (S := fun k => k = w.heap.size) g9 (by simp))
         clear x9 g9))
    refine bodyPost_ret (results_cell2 rfl _ _ w.heap.size _ _ (0, 0) _ rfl HR.out Tryz.underlying81 rfl (by kernel_rfl) _ rfl) rfl ?_
    exact ⟨rfl, HK1.out.fr F9.out (by omega) (by omega), HF1.out.trans F9.out (fun b hb e => by omega)⟩
theorem r_Retire (h : Rk w q r c d) (ho : d.ops + 3 < 1000000000) (hso : ∀ d b s x, (sput d b s x).1.ops ≤ d.ops + 2) (x : Nat) (hx : x < 18446744073709551616) :
    Calls Tryz.prog 79 #[.pointer (some ⟨q, 0, none⟩), .int .u64 (x : Int)] w fun e w' => e = .returned (.int .i64 ((mretire d x).2 : Int)) ∧ Rk w' q r c (mretire d x).1 ∧ Fr (fun k => k = q ∨ k = r) w w' := by
  have hop := rput_opsM 6 2 d x hso
  have hd := r_dPut h (by omega) x hx
  unfold mretire
  obtain ⟨⟨d1, e1⟩, hs⟩ : ∃ r, dput d x = r := ⟨_, rfl⟩
  rw [show rput 6 2 d x = (d1, e1) from hs] at hop
  rw [hs] at hd ⊢
  simp only at hd hop ⊢
  clear h hs
  by_cases he : e1 = 0
  · subst he
    simp only [if_pos]
    have ha := fun w (h : Rk w q r c d1) => r_aPut h (by omega) 0 (by omega)
    generalize aput d1 0 = R at *
    go_enter Tryz.func79, Tryz.ntmps79
    go_wp2_with (first
      | (go_at_call 20
         (with_reducible refine hd.mono ?_)
         rintro e w1 ⟨rfl, hk1, f1⟩
         have HK1 := Lib.hid hk1
         have HF1 := Lib.hid f1
         clear hk1 f1 hd)
      | (go_at_call 81
         refine (ha _ HK1.out).mono ?_
         rintro e w2 ⟨rfl, hk2, f2⟩
         have HK2 := Lib.hid hk2
         have HF2 := Lib.hid (HF1.out.trans f2 (fun _ _ e => e))
         clear hk2 f2 ha))
    go_ret
    exact ⟨rfl, HK2.out, HF2.out⟩
  · rw [if_neg he]
    have hne : ((e1 : Int) != 0) = true := by simp; omega
    go_enter Tryz.func79, Tryz.ntmps79
    go_wp2_with (first
      | (go_at_call 20
         (with_reducible refine hd.mono ?_)
         rintro e w1 ⟨rfl, hk1, f1⟩
         have HK1 := Lib.hid hk1
         have HF1 := Lib.hid f1
         clear hk1 f1 hd)
      )
    go_ret
    exact ⟨rfl, HK1.out, HF1.out⟩
end
end Go.Proofs.YtaldlapnhhhclaaGreat.Meta
