/- Texts joined: what the disks, the rings and their reference do. Conditions: none. -/
import Derived.Test.YtaldlapnhhhclaaGreatB11
import Derived.Test.YtaldlapnhhhclaaGreatB10
import Derived.Test.YtaldlapnhhhclaaGreatB16
/- Exact contracts of the package meta, and of its reference (twainref13). Conditions: at most 10^9 operations. -/
set_option linter.unusedVariables false
set_option linter.unusedSimpArgs false
namespace Go.Proofs.YtaldlapnhhhclaaGreat.Meta
open Go.RowKit Tw Disk Slots
set_option maxHeartbeats 4000000
set_option maxRecDepth 100000
def metV (B H D : Nat) : Array Value := #[.int .u32 (B : Int), .int .u64 (H : Int), .int .u64 (D : Int)]
abbrev hotOf (d : Dsk) : Nat := (latest d 2 4).2
abbrev dirtyOf (d : Dsk) : Nat := (latest d 6 2).2
def mstart (d : Dsk) : Dsk × Nat := if (snext d).2.2 = 0 then ((snext d).1, 0) else ((snext d).1, (snext d).2.2)
theorem snext_now {d d' : Dsk} {m : Nat} (h : snext d = (d', m, 0)) : boot d' = m ∧ 0 < m ∧ m < 4294967296 := by
  have hbl := boot_lt d
  unfold snext at h
  by_cases hm : boot d = 4294967295
  · rw [if_pos hm] at h
    simp at h
  · rw [if_neg hm] at h
    obtain ⟨⟨d1, e1⟩, hs⟩ : ∃ r, sput d 0 2 (boot d + 1) = r := ⟨_, rfl⟩
    rw [hs] at h
    by_cases he : e1 = 0
    · subst he
      simp only [if_pos] at h
      obtain ⟨rfl, h2⟩ := Prod.mk.inj h
      obtain ⟨rfl, _⟩ := Prod.mk.inj h2
      have hn := (sput_now (by omega) hs).2.2.2.1
      refine ⟨?_, by omega, by omega⟩
      show (latest d1 0 2).2 % 4294967296 = boot d + 1
      rw [hn]
      show (boot d + 1) % 4294967296 = boot d + 1
      omega
    · simp only at h
      rw [if_neg he] at h
      obtain ⟨rfl, h2⟩ := Prod.mk.inj h
      obtain ⟨_, h3⟩ := Prod.mk.inj h2
      exact absurd h3 he
theorem cells_3 {w : World} {g : Nat} {t : TypeId} {a b c : Value} (h : w.heap[g]? = some (.cells #[a, b, c] t (0, 0))) : w.cell? ⟨g, 0, none⟩ = some a ∧ w.cell? ⟨g, 1, none⟩ = some b ∧ w.cell? ⟨g, 2, none⟩ = some c := by
  simp [World.cell?, h]
section
variable {w : World} {p g mb c q r : Nat} {d d' : Dsk}
theorem c_LookE (h : Dk w p g mb c d) : Calls Tryz.prog 35 #[.pointer (some ⟨p, 0, none⟩)] w fun e w' => e = .returned (.agg (metV (boot d) (hotOf d) (dirtyOf d))) ∧ Below w.heap.size w w' := by
  have HB := Lib.hid ((Below.refl w.heap.size w).alloc (Nat.le_refl _) (.cells #[.int .u32 0, .int .u64 0, .int .u64 0] 75))
  have HX := Lib.hid (heap_alloc_new w (.cells #[.int .u32 0, .int .u64 0, .int .u64 0] 75))
  have HK := Lib.hid (h.bel HB.out)
  clear h
  unfold metV
  go_enter Tryz.func35, Tryz.ntmps35
  go_upto_region 1 with (fail)
  generalize w.alloc (.cells #[.int .u32 0, .int .u64 0, .int .u64 0] 75) = W1 at *
  go_wp2_with (first
    | (go_at_call 76
       (with_reducible refine (Super.c_BootE HK.out).mono ?_)
       rintro e w1 ⟨rfl, hb1⟩
       have HB := Lib.hid (HB.out.trans (hb1.mono HB.out.size))
       have HX := Lib.hid ((hb1.block _ (heap_lt HX.out)).trans HX.out)
       have HK := Lib.hid (HK.out.bel hb1)
       clear hb1)
    | (go_at_call 77
       (with_reducible refine (Actlog.c_GetE HK.out).mono ?_)
       rintro e w2 ⟨rfl, hb1⟩
       have HB := Lib.hid (HB.out.trans (hb1.mono HB.out.size))
       have HX := Lib.hid ((hb1.block _ (heap_lt HX.out)).trans HX.out)
       have HK := Lib.hid (HK.out.bel hb1)
       clear hb1)
    | (go_at_call 27
       (with_reducible refine (Dirty.c_GetE HK.out).mono ?_)
       rintro e w3 ⟨rfl, hb1⟩
       have HB := Lib.hid (HB.out.trans (hb1.mono HB.out.size))
       have HX3 := Lib.hid ((hb1.block _ (heap_lt HX.out)).trans HX.out)
       clear hb1)
    | (refine wpL_store_all rfl rfl 75 (.tmp 2) (.tmp 9) rfl _ rfl _ rfl _ _ HX3.out (by kernel_rfl) rfl (by simp [Value.oneCell']) ?_
       intro w9 x9 g9
       have HR := Lib.hid x9
       have HBR := Lib.hid (HB.out.grown g9 HB.out.size (by rintro k ⟨⟩; exact Nat.le_refl _))
       clear x9 g9))
  refine bodyPost_ret (results_cell_row rfl _ _ w.heap.size _ _ (0, 0) _ rfl HR.out Tryz.underlying75 rfl (by kernel_rfl)) rfl ?_
  exact ⟨rfl, HBR.out⟩
theorem c_MineE (B H D : Nat) (w : World) (hH : H < 18446744073709551616) (hD : D < 18446744073709551616) : Calls Tryz.prog 34 #[.agg (metV B H D)] w fun e w' => e = .returned (.int .u64 ((H ||| D : Nat) : Int)) ∧ Below w.heap.size w w' := by
  have HB := Lib.hid ((Below.refl w.heap.size w).alloc (Nat.le_refl _) (.cells #[.int .u32 (B : Int), .int .u64 (H : Int), .int .u64 (D : Int)] 75))
  have hor : bits .or .u64 (H : Int) (D : Int) = ((H ||| D : Nat) : Int) := u64_or_nat H D hH hD
  unfold metV
  go_enter Tryz.func34, Tryz.ntmps34
  go_wp2_with fail
  go_ret
  exact ⟨rfl, HB.out⟩
theorem c_StartE (h : Dk w p g mb c d) (ho : d.ops + 1 < 1000000000) :
    Calls Tryz.prog 69 #[.pointer (some ⟨p, 0, none⟩)] w fun e w' => e = .returned (.tuple #[.agg (if (mstart d).2 = 0 then metV (boot (mstart d).1) (hotOf (mstart d).1) (dirtyOf (mstart d).1) else metV 0 0 0), .int .i64 ((mstart d).2 : Int)]) ∧ Dk w' p g mb c (mstart d).1 ∧ Fr (fun k => k = p ∨ k = g ∨ k = mb) w w' := by
  have hlt := h.lts
  have hB := ((Below.refl w.heap.size w).alloc (Nat.le_refl _) (.cells #[.int .u32 0, .int .u64 0, .int .u64 0] 75))
  have HB := Lib.hid hB
  have HX := Lib.hid (heap_alloc_new w (.cells #[.int .u32 0, .int .u64 0, .int .u64 0] 75))
  have HK := Lib.hid (h.bel hB)
  have hn := fun w (h : Dk w p g mb c d) => Super.c_NextE h ho
  unfold mstart
  obtain ⟨⟨d1, m, e1⟩, hs⟩ : ∃ r, snext d = r := ⟨_, rfl⟩
  rw [hs] at hn ⊢
  simp only at hn ⊢
  clear h hB
  by_cases he : e1 = 0
  · subst he
    obtain ⟨hb, hm0, hml⟩ := snext_now hs
    have hlook := fun w (h : Dk w p g mb c d1) => c_LookE h
    simp only [if_pos]
    rw [hb] at hlook ⊢
    have hz : ((m : Int) == 0) = false := by simp; omega
    generalize hotOf d1 = H at *
    generalize dirtyOf d1 = D at *
    unfold metV at *
    clear hs hb
    go_enter Tryz.func69, Tryz.ntmps69
    go_upto_region 1 with (fail)
    generalize w.alloc (.cells #[.int .u32 0, .int .u64 0, .int .u64 0] 75) = W1 at *
    go_wp2_with (first
      | (go_at_call 125
         (with_reducible refine (hn _ HK.out).mono ?_)
         rintro e w1 ⟨rfl, hk1, f1⟩
         have HF1 := Lib.hid ((Fr.of_bel (S := fun k => k = p ∨ k = g ∨ k = mb) HB.out).trans f1 (fun _ _ e => e))
         have HK1 := Lib.hid hk1
         have HX1 := Lib.hid (heap_fr HX.out f1 (by omega))
         clear hk1 f1 hn)
      | (go_at_call 35
         (with_reducible refine (hlook _ HK1.out).mono ?_)
         rintro e w2 ⟨rfl, hb2⟩
         have HF2 := Lib.hid (HF1.out.trans (Fr.of_bel (S := fun _ => False) hb2) (fun _ _ e => e.elim))
         have HK2 := Lib.hid (HK1.out.bel hb2)
         have HX2 := Lib.hid ((Below.heap_alloc w2 (.cells #[.int .u32 (m : Int), .int .u64 (H : Int), .int .u64 (D : Int)] 75) _ (heap_lt ((hb2.block _ (heap_lt HX1.out)).trans HX1.out))).trans ((hb2.block _ (heap_lt HX1.out)).trans HX1.out))
         clear hb2 hlook)
      | (refine wpL_store_all rfl rfl 75 (.tmp 2) (.tmp 24) rfl _ rfl _ rfl _ _ HX2.out (by kernel_rfl) rfl (by simp [Value.oneCell']) ?_
         intro w9 x9 g9
         have HR := Lib.hid x9
         have F9 := Lib.hid (((Fr.alloc (S := fun k => k = w.heap.size) (w := w2) (.cells #[.int .u32 (m : Int), .int .u64 (H : Int), .int .u64 (D : Int)] 75)).trans (Fr.grown (S := fun k => k = w.heap.size) g9 (by simp)) (fun b hb e => e)))
         clear x9 g9))
    refine bodyPost_ret (results_cell2 rfl _ _ w.heap.size _ _ (0, 0) _ rfl HR.out Tryz.underlying75 rfl (by kernel_rfl) _ rfl) rfl ?_
    exact ⟨rfl, HK2.out.fr F9.out (by omega) (by omega) (by omega), HF2.out.trans F9.out (fun b hb e => by omega)⟩
  · rw [if_neg he]
    simp only [if_neg he]
    have hne : ((e1 : Int) != 0) = true := by simp; omega
    unfold metV at *
    clear hs
    go_enter Tryz.func69, Tryz.ntmps69
    go_upto_region 1 with (fail)
    generalize w.alloc (.cells #[.int .u32 0, .int .u64 0, .int .u64 0] 75) = W1 at *
    go_wp2_with (first
      | (go_at_call 125
         (with_reducible refine (hn _ HK.out).mono ?_)
         rintro e w1 ⟨rfl, hk1, f1⟩
         have HF1 := Lib.hid ((Fr.of_bel (S := fun k => k = p ∨ k = g ∨ k = mb) HB.out).trans f1 (fun _ _ e => e))
         have HK1 := Lib.hid hk1
         have HX1 := Lib.hid (heap_fr HX.out f1 (by omega))
         clear hk1 f1 hn)
      | (refine wpL_store_all rfl rfl 75 (.tmp 2) (.tmp 14) rfl _ rfl _ rfl _ _ HX1.out (by kernel_rfl) rfl (by simp [Value.oneCell']) ?_
         intro w9 x9 g9
         have HR := Lib.hid x9
         have F9 := Lib.hid (Fr.grown (S := fun k => k = w.heap.size) g9 (by simp))
         clear x9 g9))
    refine bodyPost_ret (results_cell2 rfl _ _ w.heap.size _ _ (0, 0) _ rfl HR.out Tryz.underlying75 rfl (by kernel_rfl) _ rfl) rfl ?_
    exact ⟨rfl, HK1.out.fr F9.out (by omega) (by omega) (by omega), HF1.out.trans F9.out (fun b hb e => by omega)⟩
end
theorem fn_cells {w : World} {g : Nat} {t : TypeId} {a b : Value} (h : w.heap[g]? = some (.cells #[a, b] t (0, 0))) : w.cell? ⟨g, 0, none⟩ = some a ∧ w.cell? ⟨g, 1, none⟩ = some b := by
  simp [World.cell?, h]
/-- both steps -/
theorem c_stepsE (g : Nat) (b1 b2 : Value) (e2 : Nat) (w : World) (P1 P2 : World → Prop) (h0 : w.heap[g]? = some (.cells #[.func (.func 106) #[] #[b1, b2], .func (.func 107) #[] #[b1]] 145 (0, 0)))
    (hf1 : Calls Tryz.prog 106 #[b1, b2] w fun e w' => e = .returned (.int .i64 0) ∧ P1 w' ∧ w'.heap[g]? = some (.cells #[.func (.func 106) #[] #[b1, b2], .func (.func 107) #[] #[b1]] 145 (0, 0)))
    (hf2 : ∀ w1, P1 w1 → Calls Tryz.prog 107 #[b1] w1 fun e w' => e = .returned (.int .i64 (e2 : Int)) ∧ P2 w') :
    Calls Tryz.prog 105 #[.slice (some ⟨g, 0, none⟩) 2 2] w fun e w' => e = .returned (.int .i64 (e2 : Int)) ∧ P2 w' := by
  have H0 := Lib.hid h0
  clear h0
  go_enter Tryz.func105, Tryz.ntmps105
  go_wp2_with fail
  go_loopw [8] (fun i wr => ∃ k : Nat, i = .int .i64 (k : Int) ∧ Hid ((k = 0 ∧ wr = w) ∨ (k = 1 ∧ P1 wr ∧ wr.heap[g]? = some (.cells #[.func (.func 106) #[] #[b1, b2], .func (.func 107) #[] #[b1]] 145 (0, 0))) ∨ (k = 2 ∧ e2 = 0 ∧ P2 wr))) (fun i _ => 2 - (intOf i).toNat)
  case atStart => exact ⟨0, rfl, Lib.hid (.inl ⟨rfl, rfl⟩)⟩
  case round =>
    obtain ⟨k, rfl, HR⟩ := hrel
    rcases HR.out with ⟨rfl, rfl⟩ | ⟨rfl, hp1, hg1⟩ | ⟨rfl, he2, hp2⟩
    · obtain ⟨d1, d2⟩ := fn_cells H0.out
      go_wp2_with (first
        | (go_at_call 106
           (with_reducible refine hf1.mono ?_)
           rintro e w1 ⟨rfl, hp1, hg1⟩
           have HP := Lib.hid hp1
           have HG := Lib.hid hg1
           clear hp1 hg1 hf1 d1 d2))
      go_roundw
      case rel => exact ⟨1, by go_num, Lib.hid (.inr (.inl ⟨rfl, HP.out, HG.out⟩))⟩
      case measure => simp [intOf] <;> omega
    · obtain ⟨d1, d2⟩ := fn_cells hg1
      have HP := Lib.hid hp1
      clear hp1 hg1
      by_cases he : e2 = 0
      · subst he
        go_wp2_with (first
          | (go_at_call 107
             (with_reducible refine (hf2 _ HP.out).mono ?_)
             rintro e w1 ⟨rfl, hp2⟩
             have HP2 := Lib.hid hp2
             clear hp2 hf2 d1 d2))
        go_roundw
        case rel => exact ⟨2, by go_num, Lib.hid (.inr (.inr ⟨by trivial, by trivial, HP2.out⟩))⟩
        case measure => simp [intOf] <;> omega
      · have hne : ((e2 : Int) != 0) = true := by simp; omega
        go_wp2_with (first
          | (go_at_call 107
             (with_reducible refine (hf2 _ HP.out).mono ?_)
             rintro e w1 ⟨rfl, hp2⟩
             have HP2 := Lib.hid hp2
             clear hp2 hf2 d1 d2))
        go_ret
        exact ⟨rfl, HP2.out⟩
    · have HP2 := Lib.hid hp2
      clear hp2
      subst he2
      go_wp2_with fail
      go_ret
      exact ⟨rfl, HP2.out⟩
/-- the first one fails -/
theorem c_stepsF (g : Nat) (b1 b2 : Value) (e1 : Nat) (he : e1 ≠ 0) (w : World) (P1 : World → Prop) (h0 : w.heap[g]? = some (.cells #[.func (.func 106) #[] #[b1, b2], .func (.func 107) #[] #[b1]] 145 (0, 0)))
    (hf1 : Calls Tryz.prog 106 #[b1, b2] w fun e w' => e = .returned (.int .i64 (e1 : Int)) ∧ P1 w') :
    Calls Tryz.prog 105 #[.slice (some ⟨g, 0, none⟩) 2 2] w fun e w' => e = .returned (.int .i64 (e1 : Int)) ∧ P1 w' := by
  have H0 := Lib.hid h0
  have hne : ((e1 : Int) != 0) = true := by simp; omega
  clear h0
  go_enter Tryz.func105, Tryz.ntmps105
  go_wp2_with fail
  go_loopw [8] (fun i wr => i = .int .i64 0 ∧ wr = w) (fun i _ => 0)
  case atStart => exact ⟨rfl, rfl⟩
  case round =>
    obtain ⟨rfl, rfl⟩ := hrel
    obtain ⟨d1, d2⟩ := fn_cells H0.out
    go_wp2_with (first
      | (go_at_call 106
         (with_reducible refine hf1.mono ?_)
         rintro e w1 ⟨rfl, hp1⟩
         have HP := Lib.hid hp1
         clear hp1 hf1 d1 d2))
    go_ret
    exact ⟨rfl, HP.out⟩
section
variable {w : World} {p g mb c q r : Nat} {d d' : Dsk}
theorem c_Retire1E {g1 g2 : Nat} {t1 t2 : TypeId} (h : Dk w p g mb c d) (ho : d.ops + 1 < 1000000000) (x : Nat) (hx : x < 18446744073709551616)
    (h1 : w.heap[g1]? = some (.cells #[.pointer (some ⟨p, 0, none⟩)] t1 (0, 0))) (h2 : w.heap[g2]? = some (.cells #[.int .u64 (x : Int)] t2 (0, 0))) :
    Calls Tryz.prog 106 #[.pointer (some ⟨g1, 0, none⟩), .pointer (some ⟨g2, 0, none⟩)] w fun e' w' => e' = .returned (.int .i64 ((dput d x).2 : Int)) ∧ Dk w' p g mb c (dput d x).1 ∧ Fr (fun k => k = p ∨ k = g ∨ k = mb) w w' := by
  have d1 := Actlog.cell1 h1
  have d2 := Actlog.cell1 h2
  have hp := Dirty.c_PutE h ho (x : Int) x rfl hx
  generalize dput d x = rr at *
  clear h1 h2 h
  go_enter Tryz.func106, Tryz.ntmps106
  go_wp2_with (first
    | (go_at_call 19
       (with_reducible refine hp.mono ?_)
       rintro e w1 ⟨rfl, hk1, f1⟩
       have HK1 := Lib.hid hk1
       have HF1 := Lib.hid f1
       clear hk1 f1 hp d1 d2))
  go_ret
  exact ⟨rfl, HK1.out, HF1.out⟩
theorem c_Retire2E {g1 : Nat} {t1 : TypeId} (h : Dk w p g mb c d) (ho : d.ops + 1 < 1000000000) (h1 : w.heap[g1]? = some (.cells #[.pointer (some ⟨p, 0, none⟩)] t1 (0, 0))) :
    Calls Tryz.prog 107 #[.pointer (some ⟨g1, 0, none⟩)] w fun e' w' => e' = .returned (.int .i64 ((aput d 0).2 : Int)) ∧ Dk w' p g mb c (aput d 0).1 ∧ Fr (fun k => k = p ∨ k = g ∨ k = mb) w w' := by
  have d1 := Actlog.cell1 h1
  have hp := Actlog.c_PutE h ho 0 0 rfl (by omega)
  generalize aput d 0 = rr at *
  clear h1 h
  go_enter Tryz.func107, Tryz.ntmps107
  go_wp2_with (first
    | (go_at_call 80
       (with_reducible refine hp.mono ?_)
       rintro e w1 ⟨rfl, hk1, f1⟩
       have HK1 := Lib.hid hk1
       have HF1 := Lib.hid f1
       clear hk1 f1 hp d1))
  go_ret
  exact ⟨rfl, HK1.out, HF1.out⟩
theorem rput_opsM (b s : Int) (d : Dsk) (x : Nat) (h : ∀ d b s x, (sput d b s x).1.ops ≤ d.ops + 2) : (rput b s d x).1.ops ≤ d.ops + 2 := by
  have h := h d b s x
  unfold rput
  (repeat' split) <;> first | exact h | exact Nat.le_add_right _ _
theorem c_RetireE (h : Dk w p g mb c d) (ho : d.ops + 3 < 1000000000) (hso : ∀ d b s x, (sput d b s x).1.ops ≤ d.ops + 2) (x : Nat) (hx : x < 18446744073709551616) :
    Calls Tryz.prog 56 #[.pointer (some ⟨p, 0, none⟩), .int .u64 (x : Int)] w fun e w' => e = .returned (.int .i64 ((mretire d x).2 : Int)) ∧ Dk w' p g mb c (mretire d x).1 ∧ Fr (fun k => k = p ∨ k = g ∨ k = mb) w w' := by
  have hlt := h.lts
  obtain ⟨W3, hW3, x1, x2, x3, hB, hsz⟩ := three w (.cells #[.pointer (some ⟨p, 0, none⟩)] 29) (.cells #[.int .u64 (x : Int)] 22) (.cells #[.func (.func 106) #[] #[.pointer (some ⟨w.heap.size, 0, none⟩), .pointer (some ⟨w.heap.size + 1, 0, none⟩)], .func (.func 107) #[] #[.pointer (some ⟨w.heap.size, 0, none⟩)]] 145)
  have hop := rput_opsM 6 2 d x hso
  have key : Calls Tryz.prog 105 #[.slice (some ⟨w.heap.size + 1 + 1, 0, none⟩) 2 2] W3 fun e w' => e = .returned (.int .i64 ((mretire d x).2 : Int)) ∧ Dk w' p g mb c (mretire d x).1 ∧ Fr (fun k => k = p ∨ k = g ∨ k = mb) W3 w' := by
    have h1 := c_Retire1E (h.bel hB) (by omega) x hx x1 x2
    unfold mretire
    obtain ⟨⟨d1, e1⟩, hd1⟩ : ∃ r, dput d x = r := ⟨_, rfl⟩
    rw [show rput 6 2 d x = (d1, e1) from hd1] at hop
    rw [hd1] at h1 ⊢
    simp only at h1 hop ⊢
    by_cases he : e1 = 0
    · subst he
      rw [if_pos rfl]
      exact c_stepsE (w.heap.size + 1 + 1) (.pointer (some ⟨w.heap.size, 0, none⟩)) (.pointer (some ⟨w.heap.size + 1, 0, none⟩)) _ W3 (fun w' => Dk w' p g mb c d1 ∧ Fr (fun k => k = p ∨ k = g ∨ k = mb) W3 w') (fun w' => Dk w' p g mb c (aput d1 0).1 ∧ Fr (fun k => k = p ∨ k = g ∨ k = mb) W3 w') x3
        (h1.mono (by
          rintro e w1 ⟨rfl, hk1, f1⟩
          exact ⟨rfl, ⟨hk1, f1⟩, heap_fr x3 f1 (by omega)⟩))
        (fun w1 hp => (c_Retire2E hp.1 (by omega) (heap_fr x1 hp.2 (by omega))).mono (by
          rintro e w2 ⟨rfl, hk2, f2⟩
          exact ⟨rfl, hk2, hp.2.trans f2 (fun _ _ e => e)⟩))
    · rw [if_neg he]
      exact c_stepsF (w.heap.size + 1 + 1) (.pointer (some ⟨w.heap.size, 0, none⟩)) (.pointer (some ⟨w.heap.size + 1, 0, none⟩)) e1 he W3 (fun w' => Dk w' p g mb c d1 ∧ Fr (fun k => k = p ∨ k = g ∨ k = mb) W3 w') x3 h1
  generalize mretire d x = rr at *
  have HB := Lib.hid hB
  clear x1 x2 x3 hB hsz h hop
  go_enter Tryz.func56, Tryz.ntmps56
  go_wp2_with (first
    | (go_at_call 105
       rw [← hW3]
       refine key.mono ?_
       rintro e w1 ⟨rfl, hk1, f1⟩
       have HK1 := Lib.hid hk1
       have HF1 := Lib.hid ((Fr.of_bel (S := fun k => k = p ∨ k = g ∨ k = mb) HB.out).trans f1 (fun _ _ e => e))
       clear hk1 f1 key hW3))
  go_ret
  exact ⟨rfl, HK1.out, HF1.out⟩
end
end Go.Proofs.YtaldlapnhhhclaaGreat.Meta
/- Contracts of the package resync: Begin, Take. Conditions: at most 10^9 operations. -/
namespace Go.Proofs.YtaldlapnhhhclaaGreat.Rsy
open Go.RowKit Tw Bt Disk Slots Copying Go.Proofs.YtaldlapnhhhclaaGreat.Data
set_option maxHeartbeats 8000000
set_option maxRecDepth 100000
/-- the set of both, as far as the area goes -/
def uni (m1 m2 : Nat) (s : Int) : Nat := (m1 ||| m2) &&& row (s.tdiv 4)
theorem uni_lt {m1 m2 : Nat} {s : Int} (h1 : m1 < 18446744073709551616) (h2 : m2 < 18446744073709551616) : uni m1 m2 s < 18446744073709551616 := by
  have : m1 ||| m2 < 18446744073709551616 := by
    have := Nat.or_lt_two_pow (n := 64) (x := m1) (y := m2) (by simpa using h1) (by simpa using h2)
    simpa using this
  exact Nat.lt_of_le_of_lt Nat.and_le_left this
/-- two nodes met -/
def rbegin (D : Dsk) (who : Int) (U : Nat) (a b G : Bool) : Dsk × Option Rs × List OM × Nat :=
  if G = true then
    if (Slots.mretire D U).2 = 0 then
      if Pln.src who a b = true then
        if (rgives (Slots.mretire D U).1 ⟨true, U, U, false⟩).2.2 = 0 then ((Slots.mretire D U).1, some (rgives (Slots.mretire D U).1 ⟨true, U, U, false⟩).1, (rgives (Slots.mretire D U).1 ⟨true, U, U, false⟩).2.1, 0)
        else ((Slots.mretire D U).1, none, [], (rgives (Slots.mretire D U).1 ⟨true, U, U, false⟩).2.2)
      else ((Slots.mretire D U).1, some ⟨false, U, U, false⟩, [], 0)
    else ((Slots.mretire D U).1, none, [], (Slots.mretire D U).2)
  else (D, none, [], 2)
/-- what Begin hands back -/
theorem rb_err {D D1 : Dsk} {who : Int} {U : Nat} {a b : Bool} {E : Nat} (h : Slots.mretire D U = (D1, E)) (hE : E ≠ 0) : rbegin D who U a b true = (D1, none, [], E) := by
  unfold rbegin
  rw [h]
  exact (if_pos rfl).trans (if_neg hE)
theorem rb_target {D D1 : Dsk} {who : Int} {U : Nat} {a b : Bool} (h : Slots.mretire D U = (D1, 0)) (hs : Pln.src who a b = false) : rbegin D who U a b true = (D1, some ⟨false, U, U, false⟩, [], 0) := by
  unfold rbegin
  rw [h, hs]
  exact ((if_pos rfl).trans (if_pos rfl)).trans (if_neg (by simp))
theorem rb_source {D D1 : Dsk} {who : Int} {U : Nat} {a b : Bool} {R : Rs} {out : List OM} (h : Slots.mretire D U = (D1, 0)) (hs : Pln.src who a b = true) (hg : rgives D1 ⟨true, U, U, false⟩ = (R, out, 0)) : rbegin D who U a b true = (D1, some R, out, 0) := by
  unfold rbegin
  rw [h, hs]
  simp only [hg, if_pos]
theorem rb_fails {D D1 : Dsk} {who : Int} {U : Nat} {a b : Bool} {R : Rs} {out : List OM} {E : Nat} (h : Slots.mretire D U = (D1, 0)) (hs : Pln.src who a b = true) (hg : rgives D1 ⟨true, U, U, false⟩ = (R, out, E)) (hE : E ≠ 0) : rbegin D who U a b true = (D1, none, [], E) := by
  unfold rbegin
  rw [h, hs]
  simp only [hg, if_pos, if_neg hE]
def Begun (w' : World) (B p g mb c : Nat) (v : Value) (R : Option Rs) (D : Dsk) : Prop :=
  match R with
  | none => v = .pointer none ∧ Dk w' p g mb c D
  | some R => ∃ br bp, v = .pointer (some ⟨br, 0, none⟩) ∧ RAt w' br bp p g mb c R D ∧ B ≤ br ∧ B ≤ bp
section
variable {w w' : World} {br bp p g mb c : Nat} {R : Rs} {D : Dsk}
theorem c_Begin (h : Dk w p g mb c D) (ho : D.ops + 3 < 1000000000) (who s : Int) (hs : -9223372036854775808 ≤ s ∧ s ≤ 9223372036854775807) (k1 i1 x1 : Int) (m1 : Nat) (b1 : Bool) (A1 : Option Addr) (n1 c1 : Nat) (k2 i2 x2 : Int) (m2 : Nat) (b2 : Bool) (A2 : Option Addr) (n2 c2 : Nat) (hm1 : m1 < 18446744073709551616) (hm2 : m2 < 18446744073709551616) (G : Bool)
    (hG : decide ((k1 = 1 ∧ Pack.Good k1 i1 x1 m1 b1 n1) ∧ (k2 = 1 ∧ Pack.Good k2 i2 x2 m2 b2 n2) ∧ 0 ≤ who ∧ who ≤ 1) = G) :
    Calls Tryz.prog 15 #[.pointer (some ⟨p, 0, none⟩), .int .i64 who, .int .i64 s, .agg (msV k1 i1 x1 m1 b1 A1 n1 c1).toArray, .agg (msV k2 i2 x2 m2 b2 A2 n2 c2).toArray] w fun e w' =>
      ∃ v A' n' c', e = .returned (.tuple #[v, .slice A' n' c', .int .i64 ((rbegin D who (uni m1 m2 s) b1 b2 G).2.2.2 : Int)]) ∧ Outs.Out w' w.heap.size A' n' c' (rbegin D who (uni m1 m2 s) b1 b2 G).2.2.1 ∧ Begun w' w.heap.size p g mb c v (rbegin D who (uni m1 m2 s) b1 b2 G).2.1 (rbegin D who (uni m1 m2 s) b1 b2 G).1 ∧ Fr (fun k => k = p ∨ k = g ∨ k = mb) w w' := by
  have hlt := h.lts
  obtain ⟨W2, hW2, y1, y2, hB⟩ := Actlog.two_boxes w (.cells (msV k1 i1 x1 m1 b1 A1 n1 c1).toArray 25) (.cells (msV k2 i2 x2 m2 b2 A2 n2 c2).toArray 25)
  have hsz : w.heap.size + 2 ≤ W2.heap.size := by rw [hW2]; simp [World.size_alloc]
  have X1 := Lib.hid y1
  have X2 := Lib.hid y2
  have HB := Lib.hid hB
  have HW := Lib.hid hW2
  have H := Lib.hid (h.bel (HB.out.mono (by omega)))
  have hg1 := fun w => c_greet k1 i1 x1 m1 b1 A1 n1 c1 w
  have hg2 := fun w => c_greet k2 i2 x2 m2 b2 A2 n2 c2 w
  have hul := uni_lt (s := s) hm1 hm2
  have hun := fun w => Pln.c_Union m1 m2 s w hm1 hm2 hs
  rw [show (m1 ||| m2) &&& row (s.tdiv 4) = uni m1 m2 s from rfl] at hun
  generalize uni m1 m2 s = U at *
  clear y1 y2 hB hW2 h
  obtain ⟨P1, hP1⟩ : ∃ P, decide (k1 = 1 ∧ Pack.Good k1 i1 x1 m1 b1 n1) = P := ⟨_, rfl⟩
  obtain ⟨P2, hP2⟩ : ∃ P, decide (k2 = 1 ∧ Pack.Good k2 i2 x2 m2 b2 n2) = P := ⟨_, rfl⟩
  rw [hP1] at hg1
  rw [hP2] at hg2
  by_cases hbad : ¬ (P1 = true ∧ P2 = true ∧ 0 ≤ who ∧ who ≤ 1)
  · have hGf : G = false := by
      rw [← hG]
      refine decide_eq_false fun e => hbad ⟨?_, ?_, e.2.2.1, e.2.2.2⟩
      · rw [← hP1]; exact decide_eq_true e.1
      · rw [← hP2]; exact decide_eq_true e.2.1
    have HR : Hid (rbegin D who U b1 b2 G = (D, none, [], 2)) := Lib.hid (by unfold rbegin; rw [hGf]; rfl)
    generalize rbegin D who U b1 b2 G = RES at *
    cases P1 with
    | false =>
      clear hbad hGf
      clear hP1 hP2 hG
      go_enter Tryz.func15, Tryz.ntmps15
      go_upto_region 1 with (fail)
      rw [← HW.out]
      go_wp2_with (first
      | (refine wpL_load_rd rfl 25 (.tmp 8) rfl ⟨w.heap.size, 0, none⟩ rfl (msV k1 i1 x1 m1 b1 A1 n1 c1) _ ((rd_of_heap (n := 6) X1.out rfl (by simp [maxLen])).cell _ rfl) Tryz.underlying25 rfl (by kernel_rfl) ?_)
      | (refine wpL_load_rdG rfl 25 (.tmp 9) rfl ⟨w.heap.size + 1, 0, none⟩ rfl (msV k2 i2 x2 m2 b2 A2 n2 c2) _ ((rd_of_heap (n := 6) X2.out rfl (by simp [maxLen])).cell _ rfl) Tryz.underlying25 rfl (by kernel_rfl) ?_)
      | (go_at_call_of 54 (Value.agg (msV k1 i1 x1 m1 b1 A1 n1 c1).toArray)
         (with_reducible refine (hg1 _).mono ?_)
         rintro e w3 ⟨rfl, hb3⟩
         have X1 := Lib.hid ((hb3.block _ (heap_lt X1.out)).trans X1.out)
         have X2 := Lib.hid ((hb3.block _ (heap_lt X2.out)).trans X2.out)
         have HB := Lib.hid (HB.out.trans (hb3.mono HB.out.size))
         have H := Lib.hid (H.out.bel hb3)
         have hsz := Nat.le_trans hsz hb3.size
         clear hb3)
      | (go_at_call_of 54 (Value.agg (msV k2 i2 x2 m2 b2 A2 n2 c2).toArray)
         (with_reducible refine (hg2 _).mono ?_)
         rintro e w4 ⟨rfl, hb4⟩
         have X1 := Lib.hid ((hb4.block _ (heap_lt X1.out)).trans X1.out)
         have X2 := Lib.hid ((hb4.block _ (heap_lt X2.out)).trans X2.out)
         have HB := Lib.hid (HB.out.trans (hb4.mono HB.out.size))
         have H := Lib.hid (H.out.bel hb4)
         have hsz := Nat.le_trans hsz hb4.size
         clear hb4)
      )
      go_ret3
      rw [HR.out]
      exact ⟨_, none, 0, 0, rfl, Outs.Out.nil _ _, ⟨rfl, H.out⟩, Fr.of_bel HB.out⟩
    | true =>
      cases P2 with
      | false =>
        clear hbad hGf
        clear hP1 hP2 hG
        go_enter Tryz.func15, Tryz.ntmps15
        go_upto_region 1 with (fail)
        rw [← HW.out]
        go_wp2_with (first
        | (refine wpL_load_rd rfl 25 (.tmp 8) rfl ⟨w.heap.size, 0, none⟩ rfl (msV k1 i1 x1 m1 b1 A1 n1 c1) _ ((rd_of_heap (n := 6) X1.out rfl (by simp [maxLen])).cell _ rfl) Tryz.underlying25 rfl (by kernel_rfl) ?_)
        | (refine wpL_load_rdG rfl 25 (.tmp 9) rfl ⟨w.heap.size + 1, 0, none⟩ rfl (msV k2 i2 x2 m2 b2 A2 n2 c2) _ ((rd_of_heap (n := 6) X2.out rfl (by simp [maxLen])).cell _ rfl) Tryz.underlying25 rfl (by kernel_rfl) ?_)
        | (go_at_call_of 54 (Value.agg (msV k1 i1 x1 m1 b1 A1 n1 c1).toArray)
           (with_reducible refine (hg1 _).mono ?_)
           rintro e w3 ⟨rfl, hb3⟩
           have X1 := Lib.hid ((hb3.block _ (heap_lt X1.out)).trans X1.out)
           have X2 := Lib.hid ((hb3.block _ (heap_lt X2.out)).trans X2.out)
           have HB := Lib.hid (HB.out.trans (hb3.mono HB.out.size))
           have H := Lib.hid (H.out.bel hb3)
           have hsz := Nat.le_trans hsz hb3.size
           clear hb3)
        | (go_at_call_of 54 (Value.agg (msV k2 i2 x2 m2 b2 A2 n2 c2).toArray)
           (with_reducible refine (hg2 _).mono ?_)
           rintro e w4 ⟨rfl, hb4⟩
           have X1 := Lib.hid ((hb4.block _ (heap_lt X1.out)).trans X1.out)
           have X2 := Lib.hid ((hb4.block _ (heap_lt X2.out)).trans X2.out)
           have HB := Lib.hid (HB.out.trans (hb4.mono HB.out.size))
           have H := Lib.hid (H.out.bel hb4)
           have hsz := Nat.le_trans hsz hb4.size
           clear hb4)
        )
        go_ret3
        rw [HR.out]
        exact ⟨_, none, 0, 0, rfl, Outs.Out.nil _ _, ⟨rfl, H.out⟩, Fr.of_bel HB.out⟩
      | true =>
        by_cases hw1 : who < 0
        · clear hbad hGf
          clear hP1 hP2 hG
          go_enter Tryz.func15, Tryz.ntmps15
          go_upto_region 1 with (fail)
          rw [← HW.out]
          go_wp2_with (first
          | (refine wpL_load_rd rfl 25 (.tmp 8) rfl ⟨w.heap.size, 0, none⟩ rfl (msV k1 i1 x1 m1 b1 A1 n1 c1) _ ((rd_of_heap (n := 6) X1.out rfl (by simp [maxLen])).cell _ rfl) Tryz.underlying25 rfl (by kernel_rfl) ?_)
          | (refine wpL_load_rdG rfl 25 (.tmp 9) rfl ⟨w.heap.size + 1, 0, none⟩ rfl (msV k2 i2 x2 m2 b2 A2 n2 c2) _ ((rd_of_heap (n := 6) X2.out rfl (by simp [maxLen])).cell _ rfl) Tryz.underlying25 rfl (by kernel_rfl) ?_)
          | (go_at_call_of 54 (Value.agg (msV k1 i1 x1 m1 b1 A1 n1 c1).toArray)
             (with_reducible refine (hg1 _).mono ?_)
             rintro e w3 ⟨rfl, hb3⟩
             have X1 := Lib.hid ((hb3.block _ (heap_lt X1.out)).trans X1.out)
             have X2 := Lib.hid ((hb3.block _ (heap_lt X2.out)).trans X2.out)
             have HB := Lib.hid (HB.out.trans (hb3.mono HB.out.size))
             have H := Lib.hid (H.out.bel hb3)
             have hsz := Nat.le_trans hsz hb3.size
             clear hb3)
          | (go_at_call_of 54 (Value.agg (msV k2 i2 x2 m2 b2 A2 n2 c2).toArray)
             (with_reducible refine (hg2 _).mono ?_)
             rintro e w4 ⟨rfl, hb4⟩
             have X1 := Lib.hid ((hb4.block _ (heap_lt X1.out)).trans X1.out)
             have X2 := Lib.hid ((hb4.block _ (heap_lt X2.out)).trans X2.out)
             have HB := Lib.hid (HB.out.trans (hb4.mono HB.out.size))
             have H := Lib.hid (H.out.bel hb4)
             have hsz := Nat.le_trans hsz hb4.size
             clear hb4)
          )
          go_ret3
          rw [HR.out]
          exact ⟨_, none, 0, 0, rfl, Outs.Out.nil _ _, ⟨rfl, H.out⟩, Fr.of_bel HB.out⟩
        · have hw2 : 1 < who := by
            have : ¬ (0 ≤ who ∧ who ≤ 1) := fun e => hbad ⟨rfl, rfl, e.1, e.2⟩
            omega
          clear hbad hGf
          clear hP1 hP2 hG
          go_enter Tryz.func15, Tryz.ntmps15
          go_upto_region 1 with (fail)
          rw [← HW.out]
          go_wp2_with (first
          | (refine wpL_load_rd rfl 25 (.tmp 8) rfl ⟨w.heap.size, 0, none⟩ rfl (msV k1 i1 x1 m1 b1 A1 n1 c1) _ ((rd_of_heap (n := 6) X1.out rfl (by simp [maxLen])).cell _ rfl) Tryz.underlying25 rfl (by kernel_rfl) ?_)
          | (refine wpL_load_rdG rfl 25 (.tmp 9) rfl ⟨w.heap.size + 1, 0, none⟩ rfl (msV k2 i2 x2 m2 b2 A2 n2 c2) _ ((rd_of_heap (n := 6) X2.out rfl (by simp [maxLen])).cell _ rfl) Tryz.underlying25 rfl (by kernel_rfl) ?_)
          | (go_at_call_of 54 (Value.agg (msV k1 i1 x1 m1 b1 A1 n1 c1).toArray)
             (with_reducible refine (hg1 _).mono ?_)
             rintro e w3 ⟨rfl, hb3⟩
             have X1 := Lib.hid ((hb3.block _ (heap_lt X1.out)).trans X1.out)
             have X2 := Lib.hid ((hb3.block _ (heap_lt X2.out)).trans X2.out)
             have HB := Lib.hid (HB.out.trans (hb3.mono HB.out.size))
             have H := Lib.hid (H.out.bel hb3)
             have hsz := Nat.le_trans hsz hb3.size
             clear hb3)
          | (go_at_call_of 54 (Value.agg (msV k2 i2 x2 m2 b2 A2 n2 c2).toArray)
             (with_reducible refine (hg2 _).mono ?_)
             rintro e w4 ⟨rfl, hb4⟩
             have X1 := Lib.hid ((hb4.block _ (heap_lt X1.out)).trans X1.out)
             have X2 := Lib.hid ((hb4.block _ (heap_lt X2.out)).trans X2.out)
             have HB := Lib.hid (HB.out.trans (hb4.mono HB.out.size))
             have H := Lib.hid (H.out.bel hb4)
             have hsz := Nat.le_trans hsz hb4.size
             clear hb4)
          )
          go_ret3
          rw [HR.out]
          exact ⟨_, none, 0, 0, rfl, Outs.Out.nil _ _, ⟨rfl, H.out⟩, Fr.of_bel HB.out⟩
  · obtain ⟨rfl, rfl, hw1, hw2⟩ : P1 = true ∧ P2 = true ∧ 0 ≤ who ∧ who ≤ 1 := Classical.not_not.1 hbad
    obtain rfl : G = true := by
      rw [← hG]
      exact decide_eq_true ⟨of_decide_eq_true hP1, of_decide_eq_true hP2, hw1, hw2⟩
    have hret := fun W (hd : Dk W p g mb c D) => Meta.c_RetireE hd ho sput_ops U hul
    obtain ⟨⟨D1, E⟩, hD⟩ : ∃ r, Slots.mretire D U = r := ⟨_, rfl⟩
    rw [hD] at hret
    simp only at hret
    have HD := Lib.hid hD
    clear hbad hP1 hP2 hG hD
    by_cases hE : E = 0
    · subst hE
      go_enter Tryz.func15, Tryz.ntmps15
      go_upto_region 1 with (fail)
      rw [← HW.out]
      go_upto_region 7 with (first
      | (refine wpL_load_rd rfl 25 (.tmp 8) rfl ⟨w.heap.size, 0, none⟩ rfl (msV k1 i1 x1 m1 b1 A1 n1 c1) _ ((rd_of_heap (n := 6) X1.out rfl (by simp [maxLen])).cell _ rfl) Tryz.underlying25 rfl (by kernel_rfl) ?_)
      | (refine wpL_load_rdG rfl 25 (.tmp 9) rfl ⟨w.heap.size + 1, 0, none⟩ rfl (msV k2 i2 x2 m2 b2 A2 n2 c2) _ ((rd_of_heap (n := 6) X2.out rfl (by simp [maxLen])).cell _ rfl) Tryz.underlying25 rfl (by kernel_rfl) ?_)
      | (go_at_call_of 54 (Value.agg (msV k1 i1 x1 m1 b1 A1 n1 c1).toArray)
         (with_reducible refine (hg1 _).mono ?_)
         rintro e w3 ⟨rfl, hb3⟩
         have X1 := Lib.hid ((hb3.block _ (heap_lt X1.out)).trans X1.out)
         have X2 := Lib.hid ((hb3.block _ (heap_lt X2.out)).trans X2.out)
         have HB := Lib.hid (HB.out.trans (hb3.mono HB.out.size))
         have H := Lib.hid (H.out.bel hb3)
         have hsz := Nat.le_trans hsz hb3.size
         clear hb3)
      | (go_at_call_of 54 (Value.agg (msV k2 i2 x2 m2 b2 A2 n2 c2).toArray)
         (with_reducible refine (hg2 _).mono ?_)
         rintro e w4 ⟨rfl, hb4⟩
         have X1 := Lib.hid ((hb4.block _ (heap_lt X1.out)).trans X1.out)
         have X2 := Lib.hid ((hb4.block _ (heap_lt X2.out)).trans X2.out)
         have HB := Lib.hid (HB.out.trans (hb4.mono HB.out.size))
         have H := Lib.hid (H.out.bel hb4)
         have hsz := Nat.le_trans hsz hb4.size
         obtain ⟨_, _, e3, e4⟩ := msc X1.out
         obtain ⟨_, _, e5, e6⟩ := msc X2.out
         clear hb4)
      | (go_at_call 55
         (with_reducible refine (hun _).mono ?_)
         rintro e w5 ⟨rfl, rfl⟩)
      | (go_at_call 56
         (with_reducible refine (hret _ H.out).mono ?_)
         rintro e w6 ⟨rfl, hd6, f6⟩
         have X1 := Lib.hid (heap_fr X1.out f6 (by omega))
         have X2 := Lib.hid (heap_fr X2.out f6 (by omega))
         have HF := Lib.hid ((Fr.of_bel (S := fun k => k = p ∨ k = g ∨ k = mb) HB.out).trans f6 (fun _ _ e => e))
         have H := Lib.hid hd6
         have hsz := Nat.le_trans hsz f6.size
         clear hd6 f6 hret e3 e4 e5 e6)
      )
      refine wp_region_phi (by kernel_rfl) 9 none (fun _ => false) (fun i_ v wz => match i_ with
        | 0 => v = .int .u64 (U : Int)
        | 1 => ∃ bp, v = .pointer (some ⟨bp, 0, none⟩) ∧ w.heap.size + 2 ≤ bp ∧ Pln.At wz bp U U
        | 2 => v = .pointer (some ⟨p, 0, none⟩)
        | 3 => v = .int .i64 who
        | 4 => v = .pointer (some ⟨w.heap.size, 4, none⟩)
        | 5 => v = .bool b1
        | 6 => v = .pointer (some ⟨w.heap.size + 1, 4, none⟩)
        | 7 => v = .bool b2
        | 8 => v = .bool (Pln.src who b1 b2)
        | _ => True) (by kernel_rfl) ?_ ?_ ?_
      · (repeat' (first | exact allLt_zero | refine allLt_succ ?_ ?_))
        · exact fun _ _ _ h _ => h
        · intro v w1 w2 h hg
          rw [show kindRow _ _ = none from by kernel_rfl] at hg
          obtain ⟨bp, h1, h2, h3⟩ := h
          exact ⟨bp, h1, h2, h3.bel (bel_grown hg)⟩
        · exact fun _ _ _ h _ => h
        · exact fun _ _ _ h _ => h
        · exact fun _ _ _ h _ => h
        · exact fun _ _ _ h _ => h
        · exact fun _ _ _ h _ => h
        · exact fun _ _ _ h _ => h
        · exact fun _ _ _ h _ => h
      · (repeat' (first | exact allLt_zero | refine allLt_succ ?_ ?_))
        · intro a w' hf he
          have k13 : a.tmps.getD 13 undef = .int .u64 (U : Int) := hf.var (by kernel_rfl) rfl
          refine wpOp_step rfl (fun K hK => ?_)
          go_simp
          exact hK _ _ ⟨_, rfl, rfl, World.grownBy.refl _ _⟩
        · intro a w' hf he
          have f0 : a.tmps.getD 46 undef = .int .u64 (U : Int) := he 0 (by kernel_rfl)
          rw [show kindRow _ _ = none from by kernel_rfl] at hf
          have hs7 := hf.bel.size
          refine wpOp_step rfl (fun K hK => ?_)
          go_simp
          refine (Pln.c_New U _).mono ?_
          rintro e w2 ⟨rfl, ha2, hb2⟩
          exact hK _ _ ⟨_, rfl, ⟨_, rfl, by omega, ha2⟩, grown_bel hb2⟩
        · intro a w' hf he
          have k0 : a.tmps.getD 0 undef = .pointer (some ⟨p, 0, none⟩) := hf.var (by kernel_rfl) rfl
          refine wpOp_step rfl (fun K hK => ?_)
          go_simp
          exact hK _ _ ⟨_, rfl, rfl, World.grownBy.refl _ _⟩
        · intro a w' hf he
          have k1 : a.tmps.getD 1 undef = .int .i64 who := hf.var (by kernel_rfl) rfl
          refine wpOp_step rfl (fun K hK => ?_)
          go_simp
          exact hK _ _ ⟨_, rfl, rfl, World.grownBy.refl _ _⟩
        · intro a w' hf he
          have k8 : a.tmps.getD 8 undef = .pointer (some ⟨w.heap.size, 0, none⟩) := hf.var (by kernel_rfl) rfl
          refine wpOp_step rfl (fun K hK => ?_)
          go_simp
          exact hK _ _ ⟨_, rfl, rfl, World.grownBy.refl _ _⟩
        · intro a w' hf he
          have f4 : a.tmps.getD 50 undef = .pointer (some ⟨w.heap.size, 4, none⟩) := he 4 (by kernel_rfl)
          rw [show kindRow _ _ = none from by kernel_rfl] at hf
          have dd := (msc ((hf.bel.block _ (heap_lt X1.out)).trans X1.out)).2.2.2
          refine wpOp_step rfl (fun K hK => ?_)
          go_simp
          exact hK _ _ ⟨_, rfl, rfl, World.grownBy.refl _ _⟩
        · intro a w' hf he
          have k9 : a.tmps.getD 9 undef = .pointer (some ⟨w.heap.size + 1, 0, none⟩) := hf.var (by kernel_rfl) rfl
          refine wpOp_step rfl (fun K hK => ?_)
          go_simp
          exact hK _ _ ⟨_, rfl, rfl, World.grownBy.refl _ _⟩
        · intro a w' hf he
          have f6 : a.tmps.getD 52 undef = .pointer (some ⟨w.heap.size + 1, 4, none⟩) := he 6 (by kernel_rfl)
          rw [show kindRow _ _ = none from by kernel_rfl] at hf
          have dd := (msc ((hf.bel.block _ (heap_lt X2.out)).trans X2.out)).2.2.2
          refine wpOp_step rfl (fun K hK => ?_)
          go_simp
          exact hK _ _ ⟨_, rfl, rfl, World.grownBy.refl _ _⟩
        · intro a w' hf he
          have f3 : a.tmps.getD 49 undef = .int .i64 who := he 3 (by kernel_rfl)
          have f5 : a.tmps.getD 51 undef = .bool b1 := he 5 (by kernel_rfl)
          have f7 : a.tmps.getD 53 undef = .bool b2 := he 7 (by kernel_rfl)
          rw [show kindRow _ _ = none from by kernel_rfl] at hf
          refine wpOp_step rfl (fun K hK => ?_)
          go_simp
          refine (Pln.c_Source who b1 b2 _).mono ?_
          rintro e w2 ⟨rfl, hb2⟩
          exact hK _ _ ⟨_, rfl, rfl, grown_bel hb2⟩
      · intro a w' hf he
        obtain ⟨u46, f0⟩ : ∃ u, a.tmps.getD 46 undef = u := ⟨_, rfl⟩
        obtain ⟨bp1, hv1, hb1, ha1⟩ := he 1 (by decide)
        have f1 : a.tmps.getD 47 undef = _ := hv1
        have f2 : a.tmps.getD 48 undef = .pointer (some ⟨p, 0, none⟩) := he 2 (by decide)
        obtain ⟨u49, f3⟩ : ∃ u, a.tmps.getD 49 undef = u := ⟨_, rfl⟩
        obtain ⟨u50, f4⟩ : ∃ u, a.tmps.getD 50 undef = u := ⟨_, rfl⟩
        obtain ⟨u51, f5⟩ : ∃ u, a.tmps.getD 51 undef = u := ⟨_, rfl⟩
        obtain ⟨u52, f6⟩ : ∃ u, a.tmps.getD 52 undef = u := ⟨_, rfl⟩
        obtain ⟨u53, f7⟩ : ∃ u, a.tmps.getD 53 undef = u := ⟨_, rfl⟩
        have f8 : a.tmps.getD 54 undef = .bool (Pln.src who b1 b2) := he 8 (by decide)
        have hlit := hf.lit ((46, u46) :: (47, _) :: (48, .pointer (some ⟨p, 0, none⟩)) :: (49, u49) :: (50, u50) :: (51, u51) :: (52, u52) :: (53, u53) :: (54, .bool (Pln.src who b1 b2)) :: []) (by kernel_rfl) ⟨f0, f1, f2, f3, f4, f5, f6, f7, f8, trivial⟩
        have hB := hf.bel
        clear he hf f0 f1 f2 f3 f4 f5 f6 f7 f8 hv1
        subst hlit
        simp only [putAll_nil, putAll_cons, Act.put, List.setIfInBounds_toArray, List.set_cons_zero, List.set_cons_succ]
        simp only [List.drop_succ_cons, List.drop_zero]
        have hab := (Below.refl w'.heap.size w').alloc (Nat.le_refl _) (.cells #[.pointer (some ⟨bp1, 0, none⟩), .pointer (some ⟨p, 0, none⟩), .bool (Pln.src who b1 b2), .bool false] 31)
        have hsz := Nat.le_trans hsz hB.size
        have hbl := heap_lt ha1
        have HRA : Hid (RAt (w'.alloc (.cells #[.pointer (some ⟨bp1, 0, none⟩), .pointer (some ⟨p, 0, none⟩), .bool (Pln.src who b1 b2), .bool false] 31)) w'.heap.size bp1 p g mb c ⟨Pln.src who b1 b2, U, U, false⟩ D1) := Lib.hid ⟨(H.out.bel hB).bel hab, heap_alloc_new _ _, ha1.bel hab, by omega, hul, hul⟩
        have HF := Lib.hid ((HF.out.trans (Fr.of_bel (S := fun k => k = p ∨ k = g ∨ k = mb) hB) (fun _ _ e => e)).trans (Fr.of_bel (S := fun k => k = p ∨ k = g ∨ k = mb) hab) (fun _ _ e => e))
        clear hab hB ha1 X1 X2 H
        obtain ⟨sv, hsv⟩ : ∃ sv, Pln.src who b1 b2 = sv := ⟨_, rfl⟩
        rw [hsv] at HRA HF ⊢
        have Hsv := Lib.hid hsv
        clear hsv
        go_upto_region 8 with (fail)
        generalize (w'.alloc (.cells #[.pointer (some ⟨bp1, 0, none⟩), .pointer (some ⟨p, 0, none⟩), .bool sv, .bool false] 31)) = W8 at *
        obtain ⟨kk0, kk1, kk2, kk3⟩ := HRA.out.cells
        have hw8 := HF.out.size
        cases sv with
        | false =>
          go_wp2_with fail
          go_ret3
          rw [rb_target HD.out Hsv.out]
          exact ⟨_, none, 0, 0, rfl, Outs.Out.nil _ _, ⟨_, bp1, rfl, HRA.out, by omega, by omega⟩, HF.out⟩
        | true =>
          have hgv := c_gives HRA.out
          obtain ⟨⟨R9, out, E2⟩, hg9⟩ : ∃ r, rgives D1 ⟨true, U, U, false⟩ = r := ⟨_, rfl⟩
          rw [hg9] at hgv
          simp only at hgv
          have HG9 := Lib.hid hg9
          clear hg9
          by_cases hE2 : E2 = 0
          · subst hE2
            go_wp2_with (first
              |
              (go_at_call 59
               (with_reducible refine hgv.mono ?_)
               rintro e w9 ⟨A9, n9, c9, rfl, ho9, hr9, f9⟩
               have HO9 := Lib.hid (ho9.mono hw8)
               have HR9 := Lib.hid hr9
               have HF9 := Lib.hid (HF.out.trans f9 (fun z hz e => by have e2 : z = w'.heap.size := e; omega))
               clear ho9 hr9 f9 hgv kk0 kk1 kk2 kk3)
              )
            go_ret3
            rw [rb_source HD.out Hsv.out HG9.out]
            exact ⟨_, A9, n9, c9, rfl, HO9.out, ⟨_, bp1, rfl, HR9.out, by omega, by omega⟩, HF9.out⟩
          · have hne : ((E2 : Int) != 0) = true := by simp; omega
            go_wp2_with (first
              |
              (go_at_call 59
               (with_reducible refine hgv.mono ?_)
               rintro e w9 ⟨A9, n9, c9, rfl, ho9, hr9, f9⟩
               have HO9 := Lib.hid (ho9.mono hw8)
               have HR9 := Lib.hid hr9
               have HF9 := Lib.hid (HF.out.trans f9 (fun z hz e => by have e2 : z = w'.heap.size := e; omega))
               clear ho9 hr9 f9 hgv kk0 kk1 kk2 kk3)
              )
            go_ret3
            rw [rb_fails HD.out Hsv.out HG9.out hE2]
            exact ⟨_, none, 0, 0, rfl, Outs.Out.nil _ _, ⟨rfl, HR9.out.dk⟩, HF9.out⟩
    · have hne : ((E : Int) != 0) = true := by simp; omega
      go_enter Tryz.func15, Tryz.ntmps15
      go_upto_region 1 with (fail)
      rw [← HW.out]
      go_wp2_with (first
      | (refine wpL_load_rd rfl 25 (.tmp 8) rfl ⟨w.heap.size, 0, none⟩ rfl (msV k1 i1 x1 m1 b1 A1 n1 c1) _ ((rd_of_heap (n := 6) X1.out rfl (by simp [maxLen])).cell _ rfl) Tryz.underlying25 rfl (by kernel_rfl) ?_)
      | (refine wpL_load_rdG rfl 25 (.tmp 9) rfl ⟨w.heap.size + 1, 0, none⟩ rfl (msV k2 i2 x2 m2 b2 A2 n2 c2) _ ((rd_of_heap (n := 6) X2.out rfl (by simp [maxLen])).cell _ rfl) Tryz.underlying25 rfl (by kernel_rfl) ?_)
      | (go_at_call_of 54 (Value.agg (msV k1 i1 x1 m1 b1 A1 n1 c1).toArray)
         (with_reducible refine (hg1 _).mono ?_)
         rintro e w3 ⟨rfl, hb3⟩
         have X1 := Lib.hid ((hb3.block _ (heap_lt X1.out)).trans X1.out)
         have X2 := Lib.hid ((hb3.block _ (heap_lt X2.out)).trans X2.out)
         have HB := Lib.hid (HB.out.trans (hb3.mono HB.out.size))
         have H := Lib.hid (H.out.bel hb3)
         have hsz := Nat.le_trans hsz hb3.size
         clear hb3)
      | (go_at_call_of 54 (Value.agg (msV k2 i2 x2 m2 b2 A2 n2 c2).toArray)
         (with_reducible refine (hg2 _).mono ?_)
         rintro e w4 ⟨rfl, hb4⟩
         have X1 := Lib.hid ((hb4.block _ (heap_lt X1.out)).trans X1.out)
         have X2 := Lib.hid ((hb4.block _ (heap_lt X2.out)).trans X2.out)
         have HB := Lib.hid (HB.out.trans (hb4.mono HB.out.size))
         have H := Lib.hid (H.out.bel hb4)
         have hsz := Nat.le_trans hsz hb4.size
         obtain ⟨_, _, e3, e4⟩ := msc X1.out
         obtain ⟨_, _, e5, e6⟩ := msc X2.out
         clear hb4)
      | (go_at_call 55
         (with_reducible refine (hun _).mono ?_)
         rintro e w5 ⟨rfl, rfl⟩)
      | (go_at_call 56
         (with_reducible refine (hret _ H.out).mono ?_)
         rintro e w6 ⟨rfl, hd6, f6⟩
         have X1 := Lib.hid (heap_fr X1.out f6 (by omega))
         have X2 := Lib.hid (heap_fr X2.out f6 (by omega))
         have HF := Lib.hid ((Fr.of_bel (S := fun k => k = p ∨ k = g ∨ k = mb) HB.out).trans f6 (fun _ _ e => e))
         have H := Lib.hid hd6
         have hsz := Nat.le_trans hsz f6.size
         clear hd6 f6 hret e3 e4 e5 e6)
      )
      go_ret3
      rw [rb_err HD.out hE]
      exact ⟨_, none, 0, 0, rfl, Outs.Out.nil _ _, ⟨rfl, H.out⟩, HF.out⟩
end
end Go.Proofs.YtaldlapnhhhclaaGreat.Rsy
/- Contracts of the package resync: Take. Conditions: at most 10^9 operations. -/
namespace Go.Proofs.YtaldlapnhhhclaaGreat.Rsy
open Go.RowKit Tw Bt Disk Slots Copying Go.Proofs.YtaldlapnhhhclaaGreat.Data
set_option maxHeartbeats 8000000
set_option maxRecDepth 100000
/-- a message comes -/
def rtake (D : Dsk) (R : Rs) (k i x : Int) (m : Nat) (wb : Bool) (n : Nat) (b : List UInt8) : Dsk × Rs × List OM × Nat :=
  if R.over = true then (D, R, [], 0) else if R.src = true then (if k = 7 then rhave D R x else (D, R, [], 0))
  else if k = 6 then rgets D R k i x m wb n b else if k = 8 then (D, { R with over := true }, [], 0) else (D, R, [], 0)
theorem rtake_nil {D : Dsk} {R : Rs} {k i x : Int} {m : Nat} {wb : Bool} {n : Nat} {b : List UInt8} (h : stepOf R k = .nilFunc) : rtake D R k i x m wb n b = (D, R, [], 0) := by
  unfold stepOf at h
  unfold rtake
  by_cases h1 : R.over = true
  · rw [if_pos h1]
  · rw [if_neg h1] at h ⊢
    by_cases h2 : R.src = true
    · rw [if_pos h2] at h ⊢
      by_cases h3 : k = 7
      · rw [if_pos h3] at h; cases h
      · rw [if_neg h3]
    · rw [if_neg h2] at h ⊢
      by_cases h3 : k = 6
      · rw [if_pos h3] at h; cases h
      · rw [if_neg h3] at h ⊢
        by_cases h4 : k = 8
        · rw [if_pos h4] at h; cases h
        · rw [if_neg h4]
section
variable {w w' : World} {br bp p g mb c : Nat} {R : Rs} {D : Dsk}
theorem c_Take (h : RAt w br bp p g mb c R D) (ho : D.ops + 1030 < 1000000000) (k i x : Int) (m : Nat) (wb : Bool) (A : Option Addr) (n cb : Nat) (b : List UInt8) (hx : -9223372036854775808 ≤ x ∧ x ≤ 9223372036854775807) (hb : Byt w A n cb b) (hA : ∀ ad, A = some ad → 0 < n → ad.block ≠ p ∧ ad.block ≠ mb) (hw1 : (dWrite D (whole x).1 (whole x).2 b).1.ops ≤ D.ops + 1024) (hw2 : (dWrite D (whole x).1 (whole x).2 b).1.flush.1.ops ≤ D.ops + 1025) :
    Calls Tryz.prog 11 #[.pointer (some ⟨br, 0, none⟩), .agg (msV k i x m wb A n cb).toArray] w fun e w' => ∃ A' n' c', e = .returned (.tuple #[.slice A' n' c', .int .i64 ((rtake D R k i x m wb n b).2.2.2 : Int)]) ∧ Outs.Out w' w.heap.size A' n' c' (rtake D R k i x m wb n b).2.2.1 ∧ RAt w' br bp p g mb c (rtake D R k i x m wb n b).2.1 (rtake D R k i x m wb n b).1 ∧ Fr (RS br bp p g mb) w w' := by
  have hB0 := (Below.refl w.heap.size w).alloc (Nat.le_refl _) (.cells (msV k i x m wb A n cb).toArray 25)
  have HX := Lib.hid (heap_alloc_new w (.cells (msV k i x m wb A n cb).toArray 25))
  have HF := Lib.hid (Fr.of_bel (S := RS br bp p g mb) hB0)
  have H := Lib.hid (h.bel hB0)
  have Hb := Lib.hid (hb.bel hB0)
  have hlt := h.lts
  have hs1 : (w.alloc (.cells (msV k i x m wb A n cb).toArray 25)).heap.size = w.heap.size + 1 := by simp
  have hst := fun W (hr : RAt W br bp p g mb c R D) => c_step hr k
  have hhv := fun W (hr : RAt W br bp p g mb c R D) => c_have hr (by omega) k i x m wb A n cb
  have hgt := fun W (hr : RAt W br bp p g mb c R D) (hb : Byt W A n cb b) => c_gets hr ho k i x m wb A n cb b hx hb hA hw1 hw2
  have hen := fun W (hr : RAt W br bp p g mb c R D) => c_ends hr k i x m wb A n cb
  have e0 := (msc HX.out).1
  have q0 : ∀ W, (binOp .eql 116 .nilFunc .nilFunc).run Tryz.prog W = .ok (.bool true) W := fun W => by kernel_rfl
  have q1 : ∀ W, (binOp .eql 116 (.func (.func 100) #[] #[]) .nilFunc).run Tryz.prog W = .ok (.bool false) W := fun W => by kernel_rfl
  have q2 : ∀ W, (binOp .eql 116 (.func (.func 101) #[] #[]) .nilFunc).run Tryz.prog W = .ok (.bool false) W := fun W => by kernel_rfl
  have q3 : ∀ W, (binOp .eql 116 (.func (.func 102) #[] #[]) .nilFunc).run Tryz.prog W = .ok (.bool false) W := fun W => by kernel_rfl
  clear h hB0 hb hA
  by_cases h1 : R.over = true
  · have HS : Hid (stepOf R k = .nilFunc) := Lib.hid (by unfold stepOf; rw [if_pos h1])
    have HT := Lib.hid (rtake_nil (D := D) (i := i) (x := x) (m := m) (wb := wb) (n := n) (b := b) HS.out)
    generalize rtake D R k i x m wb n b = RES at *
    go_enter Tryz.func11, Tryz.ntmps11
    go_upto_region 1 with (fail)
    generalize w.alloc (.cells (msV k i x m wb A n cb).toArray 25) = W1 at *
    go_wp2_with (first
      | (go_at_call 51
         (with_reducible refine (c_is H.out).mono ?_)
         rintro e w2 ⟨rfl, rfl⟩)
      | (go_at_call 52
         (with_reducible refine (hst _ H.out).mono ?_)
         rintro e w3 ⟨rfl, rfl⟩
         rw [HS.out])
      | (refine wpL_load_rd rfl 25 (.tmp 3) rfl ⟨w.heap.size, 0, none⟩ rfl (msV k i x m wb A n cb) _ ((rd_of_heap (n := 6) HX.out rfl (by simp [maxLen])).cell _ rfl) Tryz.underlying25 rfl (by kernel_rfl) ?_)
      )
    go_ret2
    rw [HT.out]
    exact ⟨none, 0, 0, rfl, Outs.Out.nil _ _, H.out, HF.out⟩
  · by_cases h2 : R.src = true
    · by_cases h3 : k = 7
      · have HS : Hid (stepOf R k = .func (.func 100) #[] #[]) := Lib.hid (by unfold stepOf; rw [if_neg h1, if_pos h2, if_pos h3])
        have HT : Hid (rtake D R k i x m wb n b = rhave D R x) := Lib.hid (by unfold rtake; rw [if_neg h1, if_pos h2, if_pos h3])
        rw [HT.out]
        generalize rhave D R x = RES at *
        clear h1 h2 h3
        go_enter Tryz.func11, Tryz.ntmps11
        go_upto_region 1 with (fail)
        generalize w.alloc (.cells (msV k i x m wb A n cb).toArray 25) = W1 at *
        go_wp2_with (first
          | (go_at_call 51
             (with_reducible refine (c_is H.out).mono ?_)
             rintro e w2 ⟨rfl, rfl⟩)
          | (go_at_call 52
             (with_reducible refine (hst _ H.out).mono ?_)
             rintro e w3 ⟨rfl, rfl⟩
             rw [HS.out])
          | (refine wpL_load_rd rfl 25 (.tmp 3) rfl ⟨w.heap.size, 0, none⟩ rfl (msV k i x m wb A n cb) _ ((rd_of_heap (n := 6) HX.out rfl (by simp [maxLen])).cell _ rfl) Tryz.underlying25 rfl (by kernel_rfl) ?_)
          | (go_at_call 100
             (with_reducible refine (hhv _ H.out).mono ?_)
             rintro e w4 ⟨A4, n4, c4, rfl, ho4, hr4, f4⟩
             have HO := Lib.hid (Outs.Out.mono (B' := w.heap.size) ho4 (by omega))
             have HR := Lib.hid hr4
             have HF := Lib.hid (HF.out.trans f4 (fun _ _ e => e))
             clear ho4 hr4 f4))
        go_ret2
        exact ⟨A4, n4, c4, rfl, HO.out, HR.out, HF.out⟩
      · have HS : Hid (stepOf R k = .nilFunc) := Lib.hid (by unfold stepOf; rw [if_neg h1, if_pos h2, if_neg h3])
        have HT := Lib.hid (rtake_nil (D := D) (i := i) (x := x) (m := m) (wb := wb) (n := n) (b := b) HS.out)
        generalize rtake D R k i x m wb n b = RES at *
        go_enter Tryz.func11, Tryz.ntmps11
        go_upto_region 1 with (fail)
        generalize w.alloc (.cells (msV k i x m wb A n cb).toArray 25) = W1 at *
        go_wp2_with (first
          | (go_at_call 51
             (with_reducible refine (c_is H.out).mono ?_)
             rintro e w2 ⟨rfl, rfl⟩)
          | (go_at_call 52
             (with_reducible refine (hst _ H.out).mono ?_)
             rintro e w3 ⟨rfl, rfl⟩
             rw [HS.out])
          | (refine wpL_load_rd rfl 25 (.tmp 3) rfl ⟨w.heap.size, 0, none⟩ rfl (msV k i x m wb A n cb) _ ((rd_of_heap (n := 6) HX.out rfl (by simp [maxLen])).cell _ rfl) Tryz.underlying25 rfl (by kernel_rfl) ?_)
          )
        go_ret2
        rw [HT.out]
        exact ⟨none, 0, 0, rfl, Outs.Out.nil _ _, H.out, HF.out⟩
    · by_cases h3 : k = 6
      · have HS : Hid (stepOf R k = .func (.func 101) #[] #[]) := Lib.hid (by unfold stepOf; rw [if_neg h1, if_neg h2, if_pos h3])
        have HT : Hid (rtake D R k i x m wb n b = rgets D R k i x m wb n b) := Lib.hid (by unfold rtake; rw [if_neg h1, if_neg h2, if_pos h3])
        rw [HT.out]
        generalize rgets D R k i x m wb n b = RES at *
        clear h1 h2 h3
        go_enter Tryz.func11, Tryz.ntmps11
        go_upto_region 1 with (fail)
        generalize w.alloc (.cells (msV k i x m wb A n cb).toArray 25) = W1 at *
        go_wp2_with (first
          | (go_at_call 51
             (with_reducible refine (c_is H.out).mono ?_)
             rintro e w2 ⟨rfl, rfl⟩)
          | (go_at_call 52
             (with_reducible refine (hst _ H.out).mono ?_)
             rintro e w3 ⟨rfl, rfl⟩
             rw [HS.out])
          | (refine wpL_load_rd rfl 25 (.tmp 3) rfl ⟨w.heap.size, 0, none⟩ rfl (msV k i x m wb A n cb) _ ((rd_of_heap (n := 6) HX.out rfl (by simp [maxLen])).cell _ rfl) Tryz.underlying25 rfl (by kernel_rfl) ?_)
          | (go_at_call 101
             (with_reducible refine (hgt _ H.out Hb.out).mono ?_)
             rintro e w4 ⟨A4, n4, c4, rfl, ho4, hr4, f4⟩
             have HO := Lib.hid (Outs.Out.mono (B' := w.heap.size) ho4 (by omega))
             have HR := Lib.hid hr4
             have HF := Lib.hid (HF.out.trans f4 (fun _ _ e => e))
             clear ho4 hr4 f4))
        go_ret2
        exact ⟨A4, n4, c4, rfl, HO.out, HR.out, HF.out⟩
      · by_cases h4 : k = 8
        · have HS : Hid (stepOf R k = .func (.func 102) #[] #[]) := Lib.hid (by unfold stepOf; rw [if_neg h1, if_neg h2, if_neg h3, if_pos h4])
          have HT : Hid (rtake D R k i x m wb n b = (D, { R with over := true }, [], 0)) := Lib.hid (by unfold rtake; rw [if_neg h1, if_neg h2, if_neg h3, if_pos h4])
          rw [HT.out]
          clear h1 h2 h3 h4
          go_enter Tryz.func11, Tryz.ntmps11
          go_upto_region 1 with (fail)
          generalize w.alloc (.cells (msV k i x m wb A n cb).toArray 25) = W1 at *
          go_wp2_with (first
            | (go_at_call 51
               (with_reducible refine (c_is H.out).mono ?_)
               rintro e w2 ⟨rfl, rfl⟩)
            | (go_at_call 52
               (with_reducible refine (hst _ H.out).mono ?_)
               rintro e w3 ⟨rfl, rfl⟩
               rw [HS.out])
            | (refine wpL_load_rd rfl 25 (.tmp 3) rfl ⟨w.heap.size, 0, none⟩ rfl (msV k i x m wb A n cb) _ ((rd_of_heap (n := 6) HX.out rfl (by simp [maxLen])).cell _ rfl) Tryz.underlying25 rfl (by kernel_rfl) ?_)
            | (go_at_call 102
               (with_reducible refine (hen _ H.out).mono ?_)
               rintro e w4 ⟨rfl, hr4, f4⟩
               have HR := Lib.hid hr4
               have HF := Lib.hid (HF.out.trans f4 (fun _ _ e => e))
               clear hr4 f4))
          go_ret2
          exact ⟨none, 0, 0, rfl, Outs.Out.nil _ _, HR.out, HF.out⟩
        · have HS : Hid (stepOf R k = .nilFunc) := Lib.hid (by unfold stepOf; rw [if_neg h1, if_neg h2, if_neg h3, if_neg h4])
          have HT := Lib.hid (rtake_nil (D := D) (i := i) (x := x) (m := m) (wb := wb) (n := n) (b := b) HS.out)
          generalize rtake D R k i x m wb n b = RES at *
          go_enter Tryz.func11, Tryz.ntmps11
          go_upto_region 1 with (fail)
          generalize w.alloc (.cells (msV k i x m wb A n cb).toArray 25) = W1 at *
          go_wp2_with (first
            | (go_at_call 51
               (with_reducible refine (c_is H.out).mono ?_)
               rintro e w2 ⟨rfl, rfl⟩)
            | (go_at_call 52
               (with_reducible refine (hst _ H.out).mono ?_)
               rintro e w3 ⟨rfl, rfl⟩
               rw [HS.out])
            | (refine wpL_load_rd rfl 25 (.tmp 3) rfl ⟨w.heap.size, 0, none⟩ rfl (msV k i x m wb A n cb) _ ((rd_of_heap (n := 6) HX.out rfl (by simp [maxLen])).cell _ rfl) Tryz.underlying25 rfl (by kernel_rfl) ?_)
            )
          go_ret2
          rw [HT.out]
          exact ⟨none, 0, 0, rfl, Outs.Out.nil _ _, H.out, HF.out⟩
end
end Go.Proofs.YtaldlapnhhhclaaGreat.Rsy
