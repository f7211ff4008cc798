/- Exact contracts of the package meta, and of its reference (twainref13). Conditions: at most 10^9 operations. -/
import Derived.Test.YtaldlapnhhhclaaGreatB11
import Derived.Test.YtaldlapnhhhclaaGreatB10
set_option linter.unusedVariables false
set_option linter.unusedSimpArgs false
namespace Go.Proofs.YtaldlapnhhhclaaGreat.Meta
open Go.RowKit Tw Disk Slots
set_option maxHeartbeats 4000000
set_option maxRecDepth 100000
def metV (B H D : Nat) : Array Value := #[.int .u32 (B : Int), .int .u64 (H : Int), .int .u64 (D : Int)]
abbrev hotOf (d : Dsk) : Nat := (latest d 2 4).2
abbrev dirtyOf (d : Dsk) : Nat := (latest d 6 2).2
def mstart (d : Dsk) : Dsk × Nat := if (snext d).2.2 = 0 then ((snext d).1, 0) else ((snext d).1, (snext d).2.2)
theorem snext_now {d d' : Dsk} {m : Nat} (h : snext d = (d', m, 0)) : boot d' = m ∧ 0 < m ∧ m < 4294967296 := by
  have hbl := boot_lt d
  unfold snext at h
  by_cases hm : boot d = 4294967295
  · rw [if_pos hm] at h
    simp at h
  · rw [if_neg hm] at h
    obtain ⟨⟨d1, e1⟩, hs⟩ : ∃ r, sput d 0 2 (boot d + 1) = r := ⟨_, rfl⟩
    rw [hs] at h
    by_cases he : e1 = 0
    · subst he
      simp only [if_pos] at h
      obtain ⟨rfl, h2⟩ := Prod.mk.inj h
      obtain ⟨rfl, _⟩ := Prod.mk.inj h2
      have hn := (sput_now (by omega) hs).2.2.2.1
      refine ⟨?_, by omega, by omega⟩
      show (latest d1 0 2).2 % 4294967296 = boot d + 1
      rw [hn]
      show (boot d + 1) % 4294967296 = boot d + 1
      omega
    · simp only at h
      rw [if_neg he] at h
      obtain ⟨rfl, h2⟩ := Prod.mk.inj h
      obtain ⟨_, h3⟩ := Prod.mk.inj h2
      exact absurd h3 he
theorem cells_3 {w : World} {g : Nat} {t : TypeId} {a b c : Value} (h : w.heap[g]? = some (.cells #[a, b, c] t (0, 0))) : w.cell? ⟨g, 0, none⟩ = some a ∧ w.cell? ⟨g, 1, none⟩ = some b ∧ w.cell? ⟨g, 2, none⟩ = some c := by
  simp [World.cell?, h]
section
variable {w : World} {p g mb c q r : Nat} {d d' : Dsk}
theorem c_LookE (h : Dk w p g mb c d) : Calls Tryz.prog 35 #[.pointer (some ⟨p, 0, none⟩)] w fun e w' => e = .returned (.agg (metV (boot d) (hotOf d) (dirtyOf d))) ∧ Below w.heap.size w w' := by
  have HB := Lib.hid ((Below.refl w.heap.size w).alloc (Nat.le_refl _) (.cells #[.int .u32 0, .int .u64 0, .int .u64 0] 75))
  have HX := Lib.hid (heap_alloc_new w (.cells #[.int .u32 0, .int .u64 0, .int .u64 0] 75))
  have HK := Lib.hid (h.bel HB.out)
  clear h
  unfold metV
  go_enter Tryz.func35, Tryz.ntmps35
  go_upto_region 1 with (fail)
  generalize w.alloc (.cells #[.int .u32 0, .int .u64 0, .int .u64 0] 75) = W1 at *
  go_wp2_with (first
    | (go_at_call 76
       (with_reducible refine (Super.c_BootE HK.out).mono ?_)
       rintro e w1 ⟨rfl, hb1⟩
       have HB := Lib.hid (HB.out.trans (hb1.mono HB.out.size))
       have HX := Lib.hid ((hb1.block _ (heap_lt HX.out)).trans HX.out)
       have HK := Lib.hid (HK.out.bel hb1)
       clear hb1)
    | (go_at_call 77
       (with_reducible refine (Actlog.c_GetE HK.out).mono ?_)
       rintro e w2 ⟨rfl, hb1⟩
       have HB := Lib.hid (HB.out.trans (hb1.mono HB.out.size))
       have HX := Lib.hid ((hb1.block _ (heap_lt HX.out)).trans HX.out)
       have HK := Lib.hid (HK.out.bel hb1)
       clear hb1)
    | (go_at_call 27
       (with_reducible refine (Dirty.c_GetE HK.out).mono ?_)
       rintro e w3 ⟨rfl, hb1⟩
       have HB := Lib.hid (HB.out.trans (hb1.mono HB.out.size))
       have HX3 := Lib.hid ((hb1.block _ (heap_lt HX.out)).trans HX.out)
       clear hb1)
    | (refine wpL_store_all rfl rfl 75 (.tmp 2) (.tmp 9) rfl _ rfl _ rfl _ _ HX3.out (by kernel_rfl) rfl (by simp [Value.oneCell']) ?_
       intro w9 x9 g9
       have HR := Lib.hid x9
       have HBR := Lib.hid (HB.out.grown g9 HB.out.size (by rintro k ⟨⟩; exact Nat.le_refl _))
       clear x9 g9))
  refine bodyPost_ret (results_cell_row rfl _ _ w.heap.size _ _ (0, 0) _ rfl HR.out Tryz.underlying75 rfl (by kernel_rfl)) rfl ?_
  exact ⟨rfl, HBR.out⟩
theorem c_MineE (B H D : Nat) (w : World) (hH : H < 18446744073709551616) (hD : D < 18446744073709551616) : Calls Tryz.prog 34 #[.agg (metV B H D)] w fun e w' => e = .returned (.int .u64 ((H ||| D : Nat) : Int)) ∧ Below w.heap.size w w' := by
  have HB := Lib.hid ((Below.refl w.heap.size w).alloc (Nat.le_refl _) (.cells #[.int .u32 (B : Int), .int .u64 (H : Int), .int .u64 (D : Int)] 75))
  have hor : bits .or .u64 (H : Int) (D : Int) = ((H ||| D : Nat) : Int) := u64_or_nat H D hH hD
  unfold metV
  go_enter Tryz.func34, Tryz.ntmps34
  go_wp2_with fail
  go_ret
  exact ⟨rfl, HB.out⟩
theorem c_StartE (h : Dk w p g mb c d) (ho : d.ops + 1 < 1000000000) :
    Calls Tryz.prog 69 #[.pointer (some ⟨p, 0, none⟩)] w fun e w' => e = .returned (.tuple #[.agg (if (mstart d).2 = 0 then metV (boot (mstart d).1) (hotOf (mstart d).1) (dirtyOf (mstart d).1) else metV 0 0 0), .int .i64 ((mstart d).2 : Int)]) ∧ Dk w' p g mb c (mstart d).1 ∧ Fr (fun k => k = p ∨ k = g ∨ k = mb) w w' := by
  have hlt := h.lts
  have hB := ((Below.refl w.heap.size w).alloc (Nat.le_refl _) (.cells #[.int .u32 0, .int .u64 0, .int .u64 0] 75))
  have HB := Lib.hid hB
  have HX := Lib.hid (heap_alloc_new w (.cells #[.int .u32 0, .int .u64 0, .int .u64 0] 75))
  have HK := Lib.hid (h.bel hB)
  have hn := fun w (h : Dk w p g mb c d) => Super.c_NextE h ho
  unfold mstart
  obtain ⟨⟨d1, m, e1⟩, hs⟩ : ∃ r, snext d = r := ⟨_, rfl⟩
  rw [hs] at hn ⊢
  simp only at hn ⊢
  clear h hB
  by_cases he : e1 = 0
  · subst he
    obtain ⟨hb, hm0, hml⟩ := snext_now hs
    have hlook := fun w (h : Dk w p g mb c d1) => c_LookE h
    simp only [if_pos]
    rw [hb] at hlook ⊢
    have hz : ((m : Int) == 0) = false := by simp; omega
    generalize hotOf d1 = H at *
    generalize dirtyOf d1 = D at *
    unfold metV at *
    clear hs hb
    go_enter Tryz.func69, Tryz.ntmps69
    go_upto_region 1 with (fail)
    generalize w.alloc (.cells #[.int .u32 0, .int .u64 0, .int .u64 0] 75) = W1 at *
    go_wp2_with (first
      | (go_at_call 125
         (with_reducible refine (hn _ HK.out).mono ?_)
         rintro e w1 ⟨rfl, hk1, f1⟩
         have HF1 := Lib.hid ((Fr.of_bel (S := fun k => k = p ∨ k = g ∨ k = mb) HB.out).trans f1 (fun _ _ e => e))
         have HK1 := Lib.hid hk1
         have HX1 := Lib.hid (heap_fr HX.out f1 (by omega))
         clear hk1 f1 hn)
      | (go_at_call 35
         (with_reducible refine (hlook _ HK1.out).mono ?_)
         rintro e w2 ⟨rfl, hb2⟩
         have HF2 := Lib.hid (HF1.out.trans (Fr.of_bel (S := fun _ => False) hb2) (fun _ _ e => e.elim))
         have HK2 := Lib.hid (HK1.out.bel hb2)
         have HX2 := Lib.hid ((Below.heap_alloc w2 (.cells #[.int .u32 (m : Int), .int .u64 (H : Int), .int .u64 (D : Int)] 75) _ (heap_lt ((hb2.block _ (heap_lt HX1.out)).trans HX1.out))).trans ((hb2.block _ (heap_lt HX1.out)).trans HX1.out))
         clear hb2 hlook)
      | (refine wpL_store_all rfl rfl 75 (.tmp 2) (.tmp 24) rfl _ rfl _ rfl _ _ HX2.out (by kernel_rfl) rfl (by simp [Value.oneCell']) ?_
         intro w9 x9 g9
         have HR := Lib.hid x9
         have F9 := Lib.hid (((Fr.alloc (S := fun k => k = w.heap.size) (w := w2) (.cells #[.int .u32 (m : Int), .int .u64 (H : Int), .int .u64 (D : Int)] 75)).trans (Fr.grown (S := fun k => k = w.heap.size) g9 (by simp)) (fun b hb e => e)))
         clear x9 g9))
    refine bodyPost_ret (results_cell2 rfl _ _ w.heap.size _ _ (0, 0) _ rfl HR.out Tryz.underlying75 rfl (by kernel_rfl) _ rfl) rfl ?_
    exact ⟨rfl, HK2.out.fr F9.out (by omega) (by omega) (by omega), HF2.out.trans F9.out (fun b hb e => by omega)⟩
  · rw [if_neg he]
    simp only [if_neg he]
    have hne : ((e1 : Int) != 0) = true := by simp; omega
    unfold metV at *
    clear hs
    go_enter Tryz.func69, Tryz.ntmps69
    go_upto_region 1 with (fail)
    generalize w.alloc (.cells #[.int .u32 0, .int .u64 0, .int .u64 0] 75) = W1 at *
    go_wp2_with (first
      | (go_at_call 125
         (with_reducible refine (hn _ HK.out).mono ?_)
         rintro e w1 ⟨rfl, hk1, f1⟩
         have HF1 := Lib.hid ((Fr.of_bel (S := fun k => k = p ∨ k = g ∨ k = mb) HB.out).trans f1 (fun _ _ e => e))
         have HK1 := Lib.hid hk1
         have HX1 := Lib.hid (heap_fr HX.out f1 (by omega))
         clear hk1 f1 hn)
      | (refine wpL_store_all rfl rfl 75 (.tmp 2) (.tmp 14) rfl _ rfl _ rfl _ _ HX1.out (by kernel_rfl) rfl (by simp [Value.oneCell']) ?_
         intro w9 x9 g9
         have HR := Lib.hid x9
         have F9 := Lib.hid (Fr.grown (S := fun k => k = w.heap.size) g9 (by simp))
         clear x9 g9))
    refine bodyPost_ret (results_cell2 rfl _ _ w.heap.size _ _ (0, 0) _ rfl HR.out Tryz.underlying75 rfl (by kernel_rfl) _ rfl) rfl ?_
    exact ⟨rfl, HK1.out.fr F9.out (by omega) (by omega) (by omega), HF1.out.trans F9.out (fun b hb e => by omega)⟩
end
theorem fn_cells {w : World} {g : Nat} {t : TypeId} {a b : Value} (h : w.heap[g]? = some (.cells #[a, b] t (0, 0))) : w.cell? ⟨g, 0, none⟩ = some a ∧ w.cell? ⟨g, 1, none⟩ = some b := by
  simp [World.cell?, h]
/-- both steps -/
theorem c_stepsE (g : Nat) (b1 b2 : Value) (e2 : Nat) (w : World) (P1 P2 : World → Prop) (h0 : w.heap[g]? = some (.cells #[.func (.func 106) #[] #[b1, b2], .func (.func 107) #[] #[b1]] 145 (0, 0)))
    (hf1 : Calls Tryz.prog 106 #[b1, b2] w fun e w' => e = .returned (.int .i64 0) ∧ P1 w' ∧ w'.heap[g]? = some (.cells #[.func (.func 106) #[] #[b1, b2], .func (.func 107) #[] #[b1]] 145 (0, 0)))
    (hf2 : ∀ w1, P1 w1 → Calls Tryz.prog 107 #[b1] w1 fun e w' => e = .returned (.int .i64 (e2 : Int)) ∧ P2 w') :
    Calls Tryz.prog 105 #[.slice (some ⟨g, 0, none⟩) 2 2] w fun e w' => e = .returned (.int .i64 (e2 : Int)) ∧ P2 w' := by
  have H0 := Lib.hid h0
  clear h0
  go_enter Tryz.func105, Tryz.ntmps105
  go_wp2_with fail
  go_loopw [8] (fun i wr => ∃ k : Nat, i = .int .i64 (k : Int) ∧ Hid ((k = 0 ∧ wr = w) ∨ (k = 1 ∧ P1 wr ∧ wr.heap[g]? = some (.cells #[.func (.func 106) #[] #[b1, b2], .func (.func 107) #[] #[b1]] 145 (0, 0))) ∨ (k = 2 ∧ e2 = 0 ∧ P2 wr))) (fun i _ => 2 - (intOf i).toNat)
  case atStart => exact ⟨0, rfl, Lib.hid (.inl ⟨rfl, rfl⟩)⟩
  case round =>
    obtain ⟨k, rfl, HR⟩ := hrel
    rcases HR.out with ⟨rfl, rfl⟩ | ⟨rfl, hp1, hg1⟩ | ⟨rfl, he2, hp2⟩
    · obtain ⟨d1, d2⟩ := fn_cells H0.out
      go_wp2_with (first
        | (go_at_call 106
           (with_reducible refine hf1.mono ?_)
           rintro e w1 ⟨rfl, hp1, hg1⟩
           have HP := Lib.hid hp1
           have HG := Lib.hid hg1
           clear hp1 hg1 hf1 d1 d2))
      go_roundw
      case rel => exact ⟨1, by go_num, Lib.hid (.inr (.inl ⟨rfl, HP.out, HG.out⟩))⟩
      case measure => simp [intOf] <;> omega
    · obtain ⟨d1, d2⟩ := fn_cells hg1
      have HP := Lib.hid hp1
      clear hp1 hg1
      by_cases he : e2 = 0
      · subst he
        go_wp2_with (first
          | (go_at_call 107
             (with_reducible refine (hf2 _ HP.out).mono ?_)
             rintro e w1 ⟨rfl, hp2⟩
             have HP2 := Lib.hid hp2
             clear hp2 hf2 d1 d2))
        go_roundw
        case rel => exact ⟨2, by go_num, Lib.hid (.inr (.inr ⟨by trivial, by trivial, HP2.out⟩))⟩
        case measure => simp [intOf] <;> omega
      · have hne : ((e2 : Int) != 0) = true := by simp; omega
        go_wp2_with (first
          | (go_at_call 107
             (with_reducible refine (hf2 _ HP.out).mono ?_)
             rintro e w1 ⟨rfl, hp2⟩
             have HP2 := Lib.hid hp2
             clear hp2 hf2 d1 d2))
        go_ret
        exact ⟨rfl, HP2.out⟩
    · have HP2 := Lib.hid hp2
      clear hp2
      subst he2
      go_wp2_with fail
      go_ret
      exact ⟨rfl, HP2.out⟩
/-- the first one fails -/
theorem c_stepsF (g : Nat) (b1 b2 : Value) (e1 : Nat) (he : e1 ≠ 0) (w : World) (P1 : World → Prop) (h0 : w.heap[g]? = some (.cells #[.func (.func 106) #[] #[b1, b2], .func (.func 107) #[] #[b1]] 145 (0, 0)))
    (hf1 : Calls Tryz.prog 106 #[b1, b2] w fun e w' => e = .returned (.int .i64 (e1 : Int)) ∧ P1 w') :
    Calls Tryz.prog 105 #[.slice (some ⟨g, 0, none⟩) 2 2] w fun e w' => e = .returned (.int .i64 (e1 : Int)) ∧ P1 w' := by
  have H0 := Lib.hid h0
  have hne : ((e1 : Int) != 0) = true := by simp; omega
  clear h0
  go_enter Tryz.func105, Tryz.ntmps105
  go_wp2_with fail
  go_loopw [8] (fun i wr => i = .int .i64 0 ∧ wr = w) (fun i _ => 0)
  case atStart => exact ⟨rfl, rfl⟩
  case round =>
    obtain ⟨rfl, rfl⟩ := hrel
    obtain ⟨d1, d2⟩ := fn_cells H0.out
    go_wp2_with (first
      | (go_at_call 106
         (with_reducible refine hf1.mono ?_)
         rintro e w1 ⟨rfl, hp1⟩
         have HP := Lib.hid hp1
         clear hp1 hf1 d1 d2))
    go_ret
    exact ⟨rfl, HP.out⟩
section
variable {w : World} {p g mb c q r : Nat} {d d' : Dsk}
theorem c_Retire1E {g1 g2 : Nat} {t1 t2 : TypeId} (h : Dk w p g mb c d) (ho : d.ops + 1 < 1000000000) (x : Nat) (hx : x < 18446744073709551616)
    (h1 : w.heap[g1]? = some (.cells #[.pointer (some ⟨p, 0, none⟩)] t1 (0, 0))) (h2 : w.heap[g2]? = some (.cells #[.int .u64 (x : Int)] t2 (0, 0))) :
    Calls Tryz.prog 106 #[.pointer (some ⟨g1, 0, none⟩), .pointer (some ⟨g2, 0, none⟩)] w fun e' w' => e' = .returned (.int .i64 ((dput d x).2 : Int)) ∧ Dk w' p g mb c (dput d x).1 ∧ Fr (fun k => k = p ∨ k = g ∨ k = mb) w w' := by
  have d1 := Actlog.cell1 h1
  have d2 := Actlog.cell1 h2
  have hp := Dirty.c_PutE h ho (x : Int) x rfl hx
  generalize dput d x = rr at *
  clear h1 h2 h
  go_enter Tryz.func106, Tryz.ntmps106
  go_wp2_with (first
    | (go_at_call 19
       (with_reducible refine hp.mono ?_)
       rintro e w1 ⟨rfl, hk1, f1⟩
       have HK1 := Lib.hid hk1
       have HF1 := Lib.hid f1
       clear hk1 f1 hp d1 d2))
  go_ret
  exact ⟨rfl, HK1.out, HF1.out⟩
theorem c_Retire2E {g1 : Nat} {t1 : TypeId} (h : Dk w p g mb c d) (ho : d.ops + 1 < 1000000000) (h1 : w.heap[g1]? = some (.cells #[.pointer (some ⟨p, 0, none⟩)] t1 (0, 0))) :
    Calls Tryz.prog 107 #[.pointer (some ⟨g1, 0, none⟩)] w fun e' w' => e' = .returned (.int .i64 ((aput d 0).2 : Int)) ∧ Dk w' p g mb c (aput d 0).1 ∧ Fr (fun k => k = p ∨ k = g ∨ k = mb) w w' := by
  have d1 := Actlog.cell1 h1
  have hp := Actlog.c_PutE h ho 0 0 rfl (by omega)
  generalize aput d 0 = rr at *
  clear h1 h
  go_enter Tryz.func107, Tryz.ntmps107
  go_wp2_with (first
    | (go_at_call 80
       (with_reducible refine hp.mono ?_)
       rintro e w1 ⟨rfl, hk1, f1⟩
       have HK1 := Lib.hid hk1
       have HF1 := Lib.hid f1
       clear hk1 f1 hp d1))
  go_ret
  exact ⟨rfl, HK1.out, HF1.out⟩
theorem rput_opsM (b s : Int) (d : Dsk) (x : Nat) (h : ∀ d b s x, (sput d b s x).1.ops ≤ d.ops + 2) : (rput b s d x).1.ops ≤ d.ops + 2 := by
  have h := h d b s x
  unfold rput
  (repeat' split) <;> first | exact h | exact Nat.le_add_right _ _
theorem c_RetireE (h : Dk w p g mb c d) (ho : d.ops + 3 < 1000000000) (hso : ∀ d b s x, (sput d b s x).1.ops ≤ d.ops + 2) (x : Nat) (hx : x < 18446744073709551616) :
    Calls Tryz.prog 56 #[.pointer (some ⟨p, 0, none⟩), .int .u64 (x : Int)] w fun e w' => e = .returned (.int .i64 ((mretire d x).2 : Int)) ∧ Dk w' p g mb c (mretire d x).1 ∧ Fr (fun k => k = p ∨ k = g ∨ k = mb) w w' := by
  have hlt := h.lts
  obtain ⟨W3, hW3, x1, x2, x3, hB, hsz⟩ := three w (.cells #[.pointer (some ⟨p, 0, none⟩)] 29) (.cells #[.int .u64 (x : Int)] 22) (.cells #[.func (.func 106) #[] #[.pointer (some ⟨w.heap.size, 0, none⟩), .pointer (some ⟨w.heap.size + 1, 0, none⟩)], .func (.func 107) #[] #[.pointer (some ⟨w.heap.size, 0, none⟩)]] 145)
  have hop := rput_opsM 6 2 d x hso
  have key : Calls Tryz.prog 105 #[.slice (some ⟨w.heap.size + 1 + 1, 0, none⟩) 2 2] W3 fun e w' => e = .returned (.int .i64 ((mretire d x).2 : Int)) ∧ Dk w' p g mb c (mretire d x).1 ∧ Fr (fun k => k = p ∨ k = g ∨ k = mb) W3 w' := by
    have h1 := c_Retire1E (h.bel hB) (by omega) x hx x1 x2
    unfold mretire
    obtain ⟨⟨d1, e1⟩, hd1⟩ : ∃ r, dput d x = r := ⟨_, rfl⟩
    rw [show rput 6 2 d x = (d1, e1) from hd1] at hop
    rw [hd1] at h1 ⊢
    simp only at h1 hop ⊢
    by_cases he : e1 = 0
    · subst he
      rw [if_pos rfl]
      exact c_stepsE (w.heap.size + 1 + 1) (.pointer (some ⟨w.heap.size, 0, none⟩)) (.pointer (some ⟨w.heap.size + 1, 0, none⟩)) _ W3 (fun w' => Dk w' p g mb c d1 ∧ Fr (fun k => k = p ∨ k = g ∨ k = mb) W3 w') (fun w' => Dk w' p g mb c (aput d1 0).1 ∧ Fr (fun k => k = p ∨ k = g ∨ k = mb) W3 w') x3
        (h1.mono (by
          rintro e w1 ⟨rfl, hk1, f1⟩
          exact ⟨rfl, ⟨hk1, f1⟩, heap_fr x3 f1 (by omega)⟩))
        (fun w1 hp => (c_Retire2E hp.1 (by omega) (heap_fr x1 hp.2 (by omega))).mono (by
          rintro e w2 ⟨rfl, hk2, f2⟩
          exact ⟨rfl, hk2, hp.2.trans f2 (fun _ _ e => e)⟩))
    · rw [if_neg he]
      exact c_stepsF (w.heap.size + 1 + 1) (.pointer (some ⟨w.heap.size, 0, none⟩)) (.pointer (some ⟨w.heap.size + 1, 0, none⟩)) e1 he W3 (fun w' => Dk w' p g mb c d1 ∧ Fr (fun k => k = p ∨ k = g ∨ k = mb) W3 w') x3 h1
  generalize mretire d x = rr at *
  have HB := Lib.hid hB
  clear x1 x2 x3 hB hsz h hop
  go_enter Tryz.func56, Tryz.ntmps56
  go_wp2_with (first
    | (go_at_call 105
       rw [← hW3]
       refine key.mono ?_
       rintro e w1 ⟨rfl, hk1, f1⟩
       have HK1 := Lib.hid hk1
       have HF1 := Lib.hid ((Fr.of_bel (S := fun k => k = p ∨ k = g ∨ k = mb) HB.out).trans f1 (fun _ _ e => e))
       clear hk1 f1 key hW3))
  go_ret
  exact ⟨rfl, HK1.out, HF1.out⟩
end
end Go.Proofs.YtaldlapnhhhclaaGreat.Meta
