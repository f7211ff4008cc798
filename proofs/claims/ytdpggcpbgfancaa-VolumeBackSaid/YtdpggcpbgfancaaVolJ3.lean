/- Contracts of check (volume) and fits (its reference). Conditions: none. -/
import Derived.Test.YtdpggcpbgfancaaVolJ2
set_option linter.unusedVariables false
set_option linter.unusedSimpArgs false
namespace Go.Proofs.Ytdpggcpbgfancaa.Vol
open Go.RowKit Tw
set_option maxHeartbeats 4000000
set_option maxRecDepth 100000

def Fits (l : List Pi) (tl : List (List UInt8)) : Prop := l.length = tl.length ∧ ∀ (i : Nat) (p : Pi) (t : List UInt8), l[i]? = some p → tl[i]? = some t → Good p ∧ (t.length : Int) = 16 * p.2.1
def FitR (l : List Pi) (tl : List (List UInt8)) (e : Ending) : Prop := e = .returned (.bool true) ∧ Fits l tl ∨ e = .returned (.bool false) ∧ ¬ Fits l tl
theorem fits_not {l : List Pi} {tl : List (List UInt8)} {k : Nat} {p : Pi} {t : List UInt8} (hp : l[k]? = some p) (ht : tl[k]? = some t) (h : ¬ (Good p ∧ (t.length : Int) = 16 * p.2.1)) : ¬ Fits l tl := fun hf => h (hf.2 k p t hp ht)
theorem fits_up {l : List Pi} {tl : List (List UInt8)} {k : Nat} {p : Pi} {t : List UInt8} (hp : l[k]? = some p) (ht : tl[k]? = some t) (h : Good p ∧ (t.length : Int) = 16 * p.2.1)
    (hall : ∀ (i : Nat) (p : Pi) (t : List UInt8), i < k → l[i]? = some p → tl[i]? = some t → Good p ∧ (t.length : Int) = 16 * p.2.1) : ∀ (i : Nat) (p : Pi) (t : List UInt8), i < k + 1 → l[i]? = some p → tl[i]? = some t → Good p ∧ (t.length : Int) = 16 * p.2.1 := by
  intro i p' t' hi hp' ht'
  rcases Nat.lt_or_ge i k with h1 | h1
  · exact hall i p' t' h1 hp' ht'
  · obtain rfl : i = k := by omega
    rw [hp] at hp'
    rw [ht] at ht'
    injection hp' with hp'
    injection ht' with ht'
    subst hp' ht'
    exact h
theorem c_check (A A' : Option Addr) (n m c c' : Nat) (l : List Pi) (tl : List (List UInt8)) (w : World) (h : Rd w 4 A n c (pisV l)) (h2 : SlIn w A' m c' tl) (hn : n ≤ 64) (hm : m ≤ 64) :
    Calls Try.prog 121 #[.slice A n c, .slice A' m c'] w fun e w' => FitR l tl e ∧ Below w.heap.size w w' := by
  have hl : l.length = n := by have := h.len; rw [pisV_length] at this; omega
  have hl2 := h2.len
  have Hh := Lib.hid h
  have Hh2 := Lib.hid h2
  clear h h2
  by_cases hnm : n = m
  · subst hnm
    go_enter Try.func121, Try.ntmps121
    go_wp2_with fail
    go_loopw [14] (fun i wr => ∃ k : Nat, k ≤ n ∧ i = .int .i64 (k : Int) ∧ Hid (∀ (i : Nat) (p : Pi) (t : List UInt8), i < k → l[i]? = some p → tl[i]? = some t → Good p ∧ (t.length : Int) = 16 * p.2.1) ∧ Below w.heap.size w wr) (fun i _ => n - (intOf i).toNat)
    case atStart => exact ⟨0, Nat.zero_le _, rfl, Lib.hid (fun i p t hi => by omega), Below.refl _ _⟩
    case round =>
      obtain ⟨k, hk, rfl, hall, hB⟩ := hrel
      by_cases hkn : k < n
      · obtain ⟨⟨x1, x2, x3, x4⟩, hp⟩ : ∃ p, l[k]? = some p := ⟨_, List.getElem?_eq_getElem (by omega)⟩
        obtain ⟨t, ht⟩ : ∃ p, tl[k]? = some p := ⟨_, List.getElem?_eq_getElem (by omega)⟩
        obtain ⟨ad, rfl, hcs⟩ := pi_at (Hh.out.below hB (Nat.le_refl _)) hp
        obtain ⟨ad2, B2, n2, d2, rfl, d1, hby⟩ := (Hh2.out.below hB (Nat.le_refl _)).at_ k _ ht
        have hbl := hby.blen
        have hle := Hh.out.le
        have hle2 := Hh2.out.le
        have Hcs := Lib.hid hcs
        have Hp := Lib.hid hp
        have Ht := Lib.hid ht
        have HX := Lib.hid (heap_alloc_new wr (.cells #[.int .i64 x1, .int .i64 x2, .int .i64 x3, .int .i64 x4] 158))
        have HB := Lib.hid (hB.alloc hB.size (.cells #[.int .i64 x1, .int .i64 x2, .int .i64 x3, .int .i64 x4] 158))
        have HD := Lib.hid ((((Below.refl _ _).alloc (Nat.le_refl wr.heap.size) (.cells #[.int .i64 x1, .int .i64 x2, .int .i64 x3, .int .i64 x4] 158)).cell (block_lt_of_cell d1)).trans d1)
        clear hcs hp ht d1 hby
        go_wp2_with (first
          | (refine wpL_load_rd rfl 158 (.tmp 17) rfl (ad.add (k * 4)) rfl (piV (x1, x2, x3, x4)) _ Hcs.out Try.underlying158 rfl (by kernel_rfl) ?_
             simp only [piV]))
        generalize (wr.alloc (.cells #[.int .i64 x1, .int .i64 x2, .int .i64 x3, .int .i64 x4] 158)) = W1 at *
        by_cases hg : Good (x1, x2, x3, x4)
        · have HG := Lib.hid (decide_eq_true hg)
          have hg5 := hg
          simp only [Good] at hg5
          by_cases he0 : (n2 : Int) = 16 * x2
          · have HE := Lib.hid (show ((n2 : Int) != 16 * x2) = false by simp [he0])
            have HE0 := Lib.hid he0
            clear he0
            refine wp_region_phi (by kernel_rfl) 15 none (fun _ => false) (fun i_ v wz => match i_ with
              | 0 => v = .agg #[.int .i64 x1, .int .i64 x2, .int .i64 x3, .int .i64 x4]
              | 1 => v = .bool true
              | 2 => v = .bool false
              | 3 => v = .bool false
              | 4 => v = .slice (some ad2) n c'
              | 5 => v = .int .i64 (k : Int)
              | 6 => v = .pointer (some (ad2.add k))
              | 7 => v = .slice B2 n2 d2
              | 8 => v = .int .i64 (n2 : Int)
              | 9 => v = .pointer (some ⟨wr.heap.size, 0, none⟩)
              | 10 => v = .pointer (some ⟨wr.heap.size, 1, none⟩)
              | 11 => v = .int .i64 x2
              | 12 => v = .int .i64 (16 * x2)
              | 13 => v = .bool false
              | 14 => v = .bool false
              | _ => True) (by kernel_rfl) ?_ ?_ ?_
            · (repeat' (first | exact allLt_zero | refine allLt_succ ?_ ?_))
              · exact fun _ _ _ h _ => h
              · exact fun _ _ _ h _ => h
              · exact fun _ _ _ h _ => h
              · exact fun _ _ _ h _ => h
              · exact fun _ _ _ h _ => h
              · exact fun _ _ _ h _ => h
              · exact fun _ _ _ h _ => h
              · exact fun _ _ _ h _ => h
              · exact fun _ _ _ h _ => h
              · exact fun _ _ _ h _ => h
              · exact fun _ _ _ h _ => h
              · exact fun _ _ _ h _ => h
              · exact fun _ _ _ h _ => h
              · exact fun _ _ _ h _ => h
              · exact fun _ _ _ h _ => h
            · (repeat' (first | exact allLt_zero | refine allLt_succ ?_ ?_))
              · intro a w' hf he
                have k6 : a.tmps.getD 6 undef = .pointer (some ⟨wr.heap.size, 0, none⟩) := hf.var (by kernel_rfl) rfl
                rw [show kindRow _ _ = none from by kernel_rfl] at hf
                refine wpOp_step rfl (fun K hK => ?_)
                refine wp_load_rd 158 (.tmp 6) rfl ⟨wr.heap.size, 0, none⟩ k6 [.int .i64 x1, .int .i64 x2, .int .i64 x3, .int .i64 x4] _ ((rd_of_heap (n := 4) ((hf.bel.block _ (heap_lt HX.out)).trans HX.out) rfl (by simp [maxLen])).cell _ rfl) Try.underlying158 rfl (by kernel_rfl) ?_
                exact hK _ _ ⟨_, rfl, rfl, World.grownBy.refl _ _⟩
              · intro a w' hf he
                have f0 : a.tmps.getD 19 undef = .agg #[.int .i64 x1, .int .i64 x2, .int .i64 x3, .int .i64 x4] := he 0 (by kernel_rfl)
                rw [show kindRow _ _ = none from by kernel_rfl] at hf
                have hr := c_right x1 x2 x3 x4 w'
                rw [HG.out] at hr
                refine wpOp_step rfl (fun K hK => ?_)
                go_simp
                refine hr.mono ?_
                rintro e w2 ⟨rfl, hb2⟩
                exact hK _ _ ⟨_, rfl, rfl, grown_bel hb2⟩
              · intro a w' hf he
                have f1 : a.tmps.getD 20 undef = .bool true := he 1 (by kernel_rfl)
                refine wpOp_step rfl (fun K hK => ?_)
                go_simp
                exact hK _ _ ⟨_, rfl, rfl, World.grownBy.refl _ _⟩
              · intro a w' hf he
                have f2 : a.tmps.getD 21 undef = .bool false := he 2 (by kernel_rfl)
                refine wpOp_step rfl (fun K hK => ?_)
                go_simp
                exact hK _ _ ⟨_, rfl, rfl, World.grownBy.refl _ _⟩
              · intro a w' hf he
                have k1 : a.tmps.getD 1 undef = .slice (some ad2) n c' := hf.var (by kernel_rfl) rfl
                have f3 : a.tmps.getD 22 undef = .bool false := he 3 (by kernel_rfl)
                refine wpOp_run rfl rfl rfl f3 (fun K hK => ?_)
                go_simp
                exact hK _ _ ⟨_, rfl, rfl, World.grownBy.refl _ _⟩
              · intro a w' hf he
                have k5 : a.tmps.getD 5 undef = .int .i64 (k : Int) := hf.var (by kernel_rfl) rfl
                have f3 : a.tmps.getD 22 undef = .bool false := he 3 (by kernel_rfl)
                refine wpOp_run rfl rfl rfl f3 (fun K hK => ?_)
                go_simp
                exact hK _ _ ⟨_, rfl, rfl, World.grownBy.refl _ _⟩
              · intro a w' hf he
                have f4 : a.tmps.getD 23 undef = .slice (some ad2) n c' := he 4 (by kernel_rfl)
                have f5 : a.tmps.getD 24 undef = .int .i64 (k : Int) := he 5 (by kernel_rfl)
                have f3 : a.tmps.getD 22 undef = .bool false := he 3 (by kernel_rfl)
                refine wpOp_run rfl rfl rfl f3 (fun K hK => ?_)
                go_simp
                exact hK _ _ ⟨_, rfl, rfl, World.grownBy.refl _ _⟩
              · intro a w' hf he
                have f6 : a.tmps.getD 25 undef = .pointer (some (ad2.add k)) := he 6 (by kernel_rfl)
                have f3 : a.tmps.getD 22 undef = .bool false := he 3 (by kernel_rfl)
                rw [show kindRow _ _ = none from by kernel_rfl] at hf
                have dd := (hf.bel.cell (block_lt_of_cell HD.out)).trans HD.out
                refine wpOp_run rfl rfl rfl f3 (fun K hK => ?_)
                go_simp
                exact hK _ _ ⟨_, rfl, rfl, World.grownBy.refl _ _⟩
              · intro a w' hf he
                have f7 : a.tmps.getD 26 undef = .slice B2 n2 d2 := he 7 (by kernel_rfl)
                have f3 : a.tmps.getD 22 undef = .bool false := he 3 (by kernel_rfl)
                refine wpOp_run rfl rfl rfl f3 (fun K hK => ?_)
                go_simp
                exact hK _ _ ⟨_, rfl, rfl, World.grownBy.refl _ _⟩
              · intro a w' hf he
                have k6 : a.tmps.getD 6 undef = .pointer (some ⟨wr.heap.size, 0, none⟩) := hf.var (by kernel_rfl) rfl
                have f3 : a.tmps.getD 22 undef = .bool false := he 3 (by kernel_rfl)
                refine wpOp_run rfl rfl rfl f3 (fun K hK => ?_)
                go_simp
                exact hK _ _ ⟨_, rfl, rfl, World.grownBy.refl _ _⟩
              · intro a w' hf he
                have f9 : a.tmps.getD 28 undef = .pointer (some ⟨wr.heap.size, 0, none⟩) := he 9 (by kernel_rfl)
                have f3 : a.tmps.getD 22 undef = .bool false := he 3 (by kernel_rfl)
                refine wpOp_run rfl rfl rfl f3 (fun K hK => ?_)
                go_simp
                exact hK _ _ ⟨_, rfl, rfl, World.grownBy.refl _ _⟩
              · intro a w' hf he
                have f10 : a.tmps.getD 29 undef = .pointer (some ⟨wr.heap.size, 1, none⟩) := he 10 (by kernel_rfl)
                have f3 : a.tmps.getD 22 undef = .bool false := he 3 (by kernel_rfl)
                rw [show kindRow _ _ = none from by kernel_rfl] at hf
                have d0 := (hf.bel.block _ (heap_lt HX.out)).trans HX.out
                have dd : w'.cell? ⟨wr.heap.size, 1, none⟩ = some (.int .i64 x2) := by simp [World.cell?, d0]
                clear d0
                refine wpOp_run rfl rfl rfl f3 (fun K hK => ?_)
                go_simp
                exact hK _ _ ⟨_, rfl, rfl, World.grownBy.refl _ _⟩
              · intro a w' hf he
                have f11 : a.tmps.getD 30 undef = .int .i64 x2 := he 11 (by kernel_rfl)
                have f3 : a.tmps.getD 22 undef = .bool false := he 3 (by kernel_rfl)
                rw [show kindRow _ _ = none from by kernel_rfl] at hf
                refine wpOp_run rfl rfl rfl f3 (fun K hK => ?_)
                go_simp
                rw [show IntKind.i64.wrap (x2 * 16) = 16 * x2 from by rw [IntKind.wrap_i64]; omega]
                exact hK _ _ ⟨_, rfl, rfl, World.grownBy.refl _ _⟩
              · intro a w' hf he
                have f8 : a.tmps.getD 27 undef = .int .i64 (n2 : Int) := he 8 (by kernel_rfl)
                have f12 : a.tmps.getD 31 undef = .int .i64 (16 * x2) := he 12 (by kernel_rfl)
                have f3 : a.tmps.getD 22 undef = .bool false := he 3 (by kernel_rfl)
                rw [show kindRow _ _ = none from by kernel_rfl] at hf
                refine wpOp_run rfl rfl rfl f3 (fun K hK => ?_)
                go_simp
                rw [HE.out]
                exact hK _ _ ⟨_, rfl, rfl, World.grownBy.refl _ _⟩
              · intro a w' hf he
                have f3 : a.tmps.getD 22 undef = .bool false := he 3 (by kernel_rfl)
                have f13 : a.tmps.getD 32 undef = .bool false := he 13 (by kernel_rfl)
                refine wpOp_step rfl (fun K hK => ?_)
                go_simp
                exact hK _ _ ⟨_, rfl, rfl, World.grownBy.refl _ _⟩
            · intro a w' hf he
              obtain ⟨u19, f0⟩ : ∃ u, a.tmps.getD 19 undef = u := ⟨_, rfl⟩
              obtain ⟨u20, f1⟩ : ∃ u, a.tmps.getD 20 undef = u := ⟨_, rfl⟩
              obtain ⟨u21, f2⟩ : ∃ u, a.tmps.getD 21 undef = u := ⟨_, rfl⟩
              obtain ⟨u22, f3⟩ : ∃ u, a.tmps.getD 22 undef = u := ⟨_, rfl⟩
              obtain ⟨u23, f4⟩ : ∃ u, a.tmps.getD 23 undef = u := ⟨_, rfl⟩
              obtain ⟨u24, f5⟩ : ∃ u, a.tmps.getD 24 undef = u := ⟨_, rfl⟩
              obtain ⟨u25, f6⟩ : ∃ u, a.tmps.getD 25 undef = u := ⟨_, rfl⟩
              obtain ⟨u26, f7⟩ : ∃ u, a.tmps.getD 26 undef = u := ⟨_, rfl⟩
              obtain ⟨u27, f8⟩ : ∃ u, a.tmps.getD 27 undef = u := ⟨_, rfl⟩
              obtain ⟨u28, f9⟩ : ∃ u, a.tmps.getD 28 undef = u := ⟨_, rfl⟩
              obtain ⟨u29, f10⟩ : ∃ u, a.tmps.getD 29 undef = u := ⟨_, rfl⟩
              obtain ⟨u30, f11⟩ : ∃ u, a.tmps.getD 30 undef = u := ⟨_, rfl⟩
              obtain ⟨u31, f12⟩ : ∃ u, a.tmps.getD 31 undef = u := ⟨_, rfl⟩
              obtain ⟨u32, f13⟩ : ∃ u, a.tmps.getD 32 undef = u := ⟨_, rfl⟩
              have f14 : a.tmps.getD 33 undef = .bool false := he 14 (by decide)
              have hlit := hf.lit ((19, u19) :: (20, u20) :: (21, u21) :: (22, u22) :: (23, u23) :: (24, u24) :: (25, u25) :: (26, u26) :: (27, u27) :: (28, u28) :: (29, u29) :: (30, u30) :: (31, u31) :: (32, u32) :: (33, .bool false) :: []) (by kernel_rfl) ⟨f0, f1, f2, f3, f4, f5, f6, f7, f8, f9, f10, f11, f12, f13, f14, trivial⟩
              have hB := hf.bel
              clear he hf f0 f1 f2 f3 f4 f5 f6 f7 f8 f9 f10 f11 f12 f13 f14 
              subst hlit
              simp only [putAll_nil, putAll_cons, Act.put, List.setIfInBounds_toArray, List.set_cons_zero, List.set_cons_succ]
              simp only [List.drop_succ_cons, List.drop_zero]
              have hB2 : Below w.heap.size w w' := HB.out.trans (hB.mono HB.out.size)
              clear hB
              go_wp2_with fail
              go_roundw
              case rel => exact ⟨k + 1, by omega, by go_num, Lib.hid (fits_up Hp.out Ht.out ⟨hg, by rw [hbl]; exact HE0.out⟩ hall.out), hB2⟩
              case measure => simp [intOf] <;> omega
          · have HE := Lib.hid (show ((n2 : Int) != 16 * x2) = true by simp [he0])
            have HE0 := Lib.hid he0
            clear he0
            refine wp_region_phi (by kernel_rfl) 15 none (fun _ => false) (fun i_ v wz => match i_ with
              | 0 => v = .agg #[.int .i64 x1, .int .i64 x2, .int .i64 x3, .int .i64 x4]
              | 1 => v = .bool true
              | 2 => v = .bool false
              | 3 => v = .bool false
              | 4 => v = .slice (some ad2) n c'
              | 5 => v = .int .i64 (k : Int)
              | 6 => v = .pointer (some (ad2.add k))
              | 7 => v = .slice B2 n2 d2
              | 8 => v = .int .i64 (n2 : Int)
              | 9 => v = .pointer (some ⟨wr.heap.size, 0, none⟩)
              | 10 => v = .pointer (some ⟨wr.heap.size, 1, none⟩)
              | 11 => v = .int .i64 x2
              | 12 => v = .int .i64 (16 * x2)
              | 13 => v = .bool true
              | 14 => v = .bool true
              | _ => True) (by kernel_rfl) ?_ ?_ ?_
            · (repeat' (first | exact allLt_zero | refine allLt_succ ?_ ?_))
              · exact fun _ _ _ h _ => h
              · exact fun _ _ _ h _ => h
              · exact fun _ _ _ h _ => h
              · exact fun _ _ _ h _ => h
              · exact fun _ _ _ h _ => h
              · exact fun _ _ _ h _ => h
              · exact fun _ _ _ h _ => h
              · exact fun _ _ _ h _ => h
              · exact fun _ _ _ h _ => h
              · exact fun _ _ _ h _ => h
              · exact fun _ _ _ h _ => h
              · exact fun _ _ _ h _ => h
              · exact fun _ _ _ h _ => h
              · exact fun _ _ _ h _ => h
              · exact fun _ _ _ h _ => h
            · (repeat' (first | exact allLt_zero | refine allLt_succ ?_ ?_))
              · intro a w' hf he
                have k6 : a.tmps.getD 6 undef = .pointer (some ⟨wr.heap.size, 0, none⟩) := hf.var (by kernel_rfl) rfl
                rw [show kindRow _ _ = none from by kernel_rfl] at hf
                refine wpOp_step rfl (fun K hK => ?_)
                refine wp_load_rd 158 (.tmp 6) rfl ⟨wr.heap.size, 0, none⟩ k6 [.int .i64 x1, .int .i64 x2, .int .i64 x3, .int .i64 x4] _ ((rd_of_heap (n := 4) ((hf.bel.block _ (heap_lt HX.out)).trans HX.out) rfl (by simp [maxLen])).cell _ rfl) Try.underlying158 rfl (by kernel_rfl) ?_
                exact hK _ _ ⟨_, rfl, rfl, World.grownBy.refl _ _⟩
              · intro a w' hf he
                have f0 : a.tmps.getD 19 undef = .agg #[.int .i64 x1, .int .i64 x2, .int .i64 x3, .int .i64 x4] := he 0 (by kernel_rfl)
                rw [show kindRow _ _ = none from by kernel_rfl] at hf
                have hr := c_right x1 x2 x3 x4 w'
                rw [HG.out] at hr
                refine wpOp_step rfl (fun K hK => ?_)
                go_simp
                refine hr.mono ?_
                rintro e w2 ⟨rfl, hb2⟩
                exact hK _ _ ⟨_, rfl, rfl, grown_bel hb2⟩
              · intro a w' hf he
                have f1 : a.tmps.getD 20 undef = .bool true := he 1 (by kernel_rfl)
                refine wpOp_step rfl (fun K hK => ?_)
                go_simp
                exact hK _ _ ⟨_, rfl, rfl, World.grownBy.refl _ _⟩
              · intro a w' hf he
                have f2 : a.tmps.getD 21 undef = .bool false := he 2 (by kernel_rfl)
                refine wpOp_step rfl (fun K hK => ?_)
                go_simp
                exact hK _ _ ⟨_, rfl, rfl, World.grownBy.refl _ _⟩
              · intro a w' hf he
                have k1 : a.tmps.getD 1 undef = .slice (some ad2) n c' := hf.var (by kernel_rfl) rfl
                have f3 : a.tmps.getD 22 undef = .bool false := he 3 (by kernel_rfl)
                refine wpOp_run rfl rfl rfl f3 (fun K hK => ?_)
                go_simp
                exact hK _ _ ⟨_, rfl, rfl, World.grownBy.refl _ _⟩
              · intro a w' hf he
                have k5 : a.tmps.getD 5 undef = .int .i64 (k : Int) := hf.var (by kernel_rfl) rfl
                have f3 : a.tmps.getD 22 undef = .bool false := he 3 (by kernel_rfl)
                refine wpOp_run rfl rfl rfl f3 (fun K hK => ?_)
                go_simp
                exact hK _ _ ⟨_, rfl, rfl, World.grownBy.refl _ _⟩
              · intro a w' hf he
                have f4 : a.tmps.getD 23 undef = .slice (some ad2) n c' := he 4 (by kernel_rfl)
                have f5 : a.tmps.getD 24 undef = .int .i64 (k : Int) := he 5 (by kernel_rfl)
                have f3 : a.tmps.getD 22 undef = .bool false := he 3 (by kernel_rfl)
                refine wpOp_run rfl rfl rfl f3 (fun K hK => ?_)
                go_simp
                exact hK _ _ ⟨_, rfl, rfl, World.grownBy.refl _ _⟩
              · intro a w' hf he
                have f6 : a.tmps.getD 25 undef = .pointer (some (ad2.add k)) := he 6 (by kernel_rfl)
                have f3 : a.tmps.getD 22 undef = .bool false := he 3 (by kernel_rfl)
                rw [show kindRow _ _ = none from by kernel_rfl] at hf
                have dd := (hf.bel.cell (block_lt_of_cell HD.out)).trans HD.out
                refine wpOp_run rfl rfl rfl f3 (fun K hK => ?_)
                go_simp
                exact hK _ _ ⟨_, rfl, rfl, World.grownBy.refl _ _⟩
              · intro a w' hf he
                have f7 : a.tmps.getD 26 undef = .slice B2 n2 d2 := he 7 (by kernel_rfl)
                have f3 : a.tmps.getD 22 undef = .bool false := he 3 (by kernel_rfl)
                refine wpOp_run rfl rfl rfl f3 (fun K hK => ?_)
                go_simp
                exact hK _ _ ⟨_, rfl, rfl, World.grownBy.refl _ _⟩
              · intro a w' hf he
                have k6 : a.tmps.getD 6 undef = .pointer (some ⟨wr.heap.size, 0, none⟩) := hf.var (by kernel_rfl) rfl
                have f3 : a.tmps.getD 22 undef = .bool false := he 3 (by kernel_rfl)
                refine wpOp_run rfl rfl rfl f3 (fun K hK => ?_)
                go_simp
                exact hK _ _ ⟨_, rfl, rfl, World.grownBy.refl _ _⟩
              · intro a w' hf he
                have f9 : a.tmps.getD 28 undef = .pointer (some ⟨wr.heap.size, 0, none⟩) := he 9 (by kernel_rfl)
                have f3 : a.tmps.getD 22 undef = .bool false := he 3 (by kernel_rfl)
                refine wpOp_run rfl rfl rfl f3 (fun K hK => ?_)
                go_simp
                exact hK _ _ ⟨_, rfl, rfl, World.grownBy.refl _ _⟩
              · intro a w' hf he
                have f10 : a.tmps.getD 29 undef = .pointer (some ⟨wr.heap.size, 1, none⟩) := he 10 (by kernel_rfl)
                have f3 : a.tmps.getD 22 undef = .bool false := he 3 (by kernel_rfl)
                rw [show kindRow _ _ = none from by kernel_rfl] at hf
                have d0 := (hf.bel.block _ (heap_lt HX.out)).trans HX.out
                have dd : w'.cell? ⟨wr.heap.size, 1, none⟩ = some (.int .i64 x2) := by simp [World.cell?, d0]
                clear d0
                refine wpOp_run rfl rfl rfl f3 (fun K hK => ?_)
                go_simp
                exact hK _ _ ⟨_, rfl, rfl, World.grownBy.refl _ _⟩
              · intro a w' hf he
                have f11 : a.tmps.getD 30 undef = .int .i64 x2 := he 11 (by kernel_rfl)
                have f3 : a.tmps.getD 22 undef = .bool false := he 3 (by kernel_rfl)
                rw [show kindRow _ _ = none from by kernel_rfl] at hf
                refine wpOp_run rfl rfl rfl f3 (fun K hK => ?_)
                go_simp
                rw [show IntKind.i64.wrap (x2 * 16) = 16 * x2 from by rw [IntKind.wrap_i64]; omega]
                exact hK _ _ ⟨_, rfl, rfl, World.grownBy.refl _ _⟩
              · intro a w' hf he
                have f8 : a.tmps.getD 27 undef = .int .i64 (n2 : Int) := he 8 (by kernel_rfl)
                have f12 : a.tmps.getD 31 undef = .int .i64 (16 * x2) := he 12 (by kernel_rfl)
                have f3 : a.tmps.getD 22 undef = .bool false := he 3 (by kernel_rfl)
                rw [show kindRow _ _ = none from by kernel_rfl] at hf
                refine wpOp_run rfl rfl rfl f3 (fun K hK => ?_)
                go_simp
                rw [HE.out]
                exact hK _ _ ⟨_, rfl, rfl, World.grownBy.refl _ _⟩
              · intro a w' hf he
                have f3 : a.tmps.getD 22 undef = .bool false := he 3 (by kernel_rfl)
                have f13 : a.tmps.getD 32 undef = .bool true := he 13 (by kernel_rfl)
                refine wpOp_step rfl (fun K hK => ?_)
                go_simp
                exact hK _ _ ⟨_, rfl, rfl, World.grownBy.refl _ _⟩
            · intro a w' hf he
              obtain ⟨u19, f0⟩ : ∃ u, a.tmps.getD 19 undef = u := ⟨_, rfl⟩
              obtain ⟨u20, f1⟩ : ∃ u, a.tmps.getD 20 undef = u := ⟨_, rfl⟩
              obtain ⟨u21, f2⟩ : ∃ u, a.tmps.getD 21 undef = u := ⟨_, rfl⟩
              obtain ⟨u22, f3⟩ : ∃ u, a.tmps.getD 22 undef = u := ⟨_, rfl⟩
              obtain ⟨u23, f4⟩ : ∃ u, a.tmps.getD 23 undef = u := ⟨_, rfl⟩
              obtain ⟨u24, f5⟩ : ∃ u, a.tmps.getD 24 undef = u := ⟨_, rfl⟩
              obtain ⟨u25, f6⟩ : ∃ u, a.tmps.getD 25 undef = u := ⟨_, rfl⟩
              obtain ⟨u26, f7⟩ : ∃ u, a.tmps.getD 26 undef = u := ⟨_, rfl⟩
              obtain ⟨u27, f8⟩ : ∃ u, a.tmps.getD 27 undef = u := ⟨_, rfl⟩
              obtain ⟨u28, f9⟩ : ∃ u, a.tmps.getD 28 undef = u := ⟨_, rfl⟩
              obtain ⟨u29, f10⟩ : ∃ u, a.tmps.getD 29 undef = u := ⟨_, rfl⟩
              obtain ⟨u30, f11⟩ : ∃ u, a.tmps.getD 30 undef = u := ⟨_, rfl⟩
              obtain ⟨u31, f12⟩ : ∃ u, a.tmps.getD 31 undef = u := ⟨_, rfl⟩
              obtain ⟨u32, f13⟩ : ∃ u, a.tmps.getD 32 undef = u := ⟨_, rfl⟩
              have f14 : a.tmps.getD 33 undef = .bool true := he 14 (by decide)
              have hlit := hf.lit ((19, u19) :: (20, u20) :: (21, u21) :: (22, u22) :: (23, u23) :: (24, u24) :: (25, u25) :: (26, u26) :: (27, u27) :: (28, u28) :: (29, u29) :: (30, u30) :: (31, u31) :: (32, u32) :: (33, .bool true) :: []) (by kernel_rfl) ⟨f0, f1, f2, f3, f4, f5, f6, f7, f8, f9, f10, f11, f12, f13, f14, trivial⟩
              have hB := hf.bel
              clear he hf f0 f1 f2 f3 f4 f5 f6 f7 f8 f9 f10 f11 f12 f13 f14 
              subst hlit
              simp only [putAll_nil, putAll_cons, Act.put, List.setIfInBounds_toArray, List.set_cons_zero, List.set_cons_succ]
              simp only [List.drop_succ_cons, List.drop_zero]
              have hB2 : Below w.heap.size w w' := HB.out.trans (hB.mono HB.out.size)
              clear hB
              go_wp2_with fail
              go_ret
              exact ⟨.inr ⟨rfl, fits_not Hp.out Ht.out fun e => HE0.out (by rw [← hbl]; exact e.2)⟩, hB2⟩
        · have HG := Lib.hid (decide_eq_false hg)
          refine wp_region_phi (by kernel_rfl) 15 none (fun _ => false) (fun i_ v wz => match i_ with
            | 0 => v = .agg #[.int .i64 x1, .int .i64 x2, .int .i64 x3, .int .i64 x4]
            | 1 => v = .bool false
            | 2 => v = .bool true
            | 3 => v = .bool true
            | 4 => v = undef
            | 5 => v = undef
            | 6 => v = undef
            | 7 => v = undef
            | 8 => v = undef
            | 9 => v = undef
            | 10 => v = undef
            | 11 => v = undef
            | 12 => v = undef
            | 13 => v = undef
            | 14 => v = (.bool true)
            | _ => True) (by kernel_rfl) ?_ ?_ ?_
          · (repeat' (first | exact allLt_zero | refine allLt_succ ?_ ?_))
            · exact fun _ _ _ h _ => h
            · exact fun _ _ _ h _ => h
            · exact fun _ _ _ h _ => h
            · exact fun _ _ _ h _ => h
            · exact fun _ _ _ h _ => h
            · exact fun _ _ _ h _ => h
            · exact fun _ _ _ h _ => h
            · exact fun _ _ _ h _ => h
            · exact fun _ _ _ h _ => h
            · exact fun _ _ _ h _ => h
            · exact fun _ _ _ h _ => h
            · exact fun _ _ _ h _ => h
            · exact fun _ _ _ h _ => h
            · exact fun _ _ _ h _ => h
            · exact fun _ _ _ h _ => h
          · (repeat' (first | exact allLt_zero | refine allLt_succ ?_ ?_))
            · intro a w' hf he
              have k6 : a.tmps.getD 6 undef = .pointer (some ⟨wr.heap.size, 0, none⟩) := hf.var (by kernel_rfl) rfl
              rw [show kindRow _ _ = none from by kernel_rfl] at hf
              refine wpOp_step rfl (fun K hK => ?_)
              refine wp_load_rd 158 (.tmp 6) rfl ⟨wr.heap.size, 0, none⟩ k6 [.int .i64 x1, .int .i64 x2, .int .i64 x3, .int .i64 x4] _ ((rd_of_heap (n := 4) ((hf.bel.block _ (heap_lt HX.out)).trans HX.out) rfl (by simp [maxLen])).cell _ rfl) Try.underlying158 rfl (by kernel_rfl) ?_
              exact hK _ _ ⟨_, rfl, rfl, World.grownBy.refl _ _⟩
            · intro a w' hf he
              have f0 : a.tmps.getD 19 undef = .agg #[.int .i64 x1, .int .i64 x2, .int .i64 x3, .int .i64 x4] := he 0 (by kernel_rfl)
              rw [show kindRow _ _ = none from by kernel_rfl] at hf
              have hr := c_right x1 x2 x3 x4 w'
              rw [HG.out] at hr
              refine wpOp_step rfl (fun K hK => ?_)
              go_simp
              refine hr.mono ?_
              rintro e w2 ⟨rfl, hb2⟩
              exact hK _ _ ⟨_, rfl, rfl, grown_bel hb2⟩
            · intro a w' hf he
              have f1 : a.tmps.getD 20 undef = .bool false := he 1 (by kernel_rfl)
              refine wpOp_step rfl (fun K hK => ?_)
              go_simp
              exact hK _ _ ⟨_, rfl, rfl, World.grownBy.refl _ _⟩
            · intro a w' hf he
              have f2 : a.tmps.getD 21 undef = .bool true := he 2 (by kernel_rfl)
              refine wpOp_step rfl (fun K hK => ?_)
              go_simp
              exact hK _ _ ⟨_, rfl, rfl, World.grownBy.refl _ _⟩
            · intro a w' hf he
              have f3 : a.tmps.getD 22 undef = .bool true := he 3 (by kernel_rfl)
              exact wpOp_pass rfl rfl rfl f3 rfl ⟨_, rfl, rfl, World.grownBy.refl _ _⟩
            · intro a w' hf he
              have f3 : a.tmps.getD 22 undef = .bool true := he 3 (by kernel_rfl)
              exact wpOp_pass rfl rfl rfl f3 rfl ⟨_, rfl, rfl, World.grownBy.refl _ _⟩
            · intro a w' hf he
              have f3 : a.tmps.getD 22 undef = .bool true := he 3 (by kernel_rfl)
              exact wpOp_pass rfl rfl rfl f3 rfl ⟨_, rfl, rfl, World.grownBy.refl _ _⟩
            · intro a w' hf he
              have f3 : a.tmps.getD 22 undef = .bool true := he 3 (by kernel_rfl)
              exact wpOp_pass rfl rfl rfl f3 rfl ⟨_, rfl, rfl, World.grownBy.refl _ _⟩
            · intro a w' hf he
              have f3 : a.tmps.getD 22 undef = .bool true := he 3 (by kernel_rfl)
              exact wpOp_pass rfl rfl rfl f3 rfl ⟨_, rfl, rfl, World.grownBy.refl _ _⟩
            · intro a w' hf he
              have f3 : a.tmps.getD 22 undef = .bool true := he 3 (by kernel_rfl)
              exact wpOp_pass rfl rfl rfl f3 rfl ⟨_, rfl, rfl, World.grownBy.refl _ _⟩
            · intro a w' hf he
              have f3 : a.tmps.getD 22 undef = .bool true := he 3 (by kernel_rfl)
              exact wpOp_pass rfl rfl rfl f3 rfl ⟨_, rfl, rfl, World.grownBy.refl _ _⟩
            · intro a w' hf he
              have f3 : a.tmps.getD 22 undef = .bool true := he 3 (by kernel_rfl)
              exact wpOp_pass rfl rfl rfl f3 rfl ⟨_, rfl, rfl, World.grownBy.refl _ _⟩
            · intro a w' hf he
              have f3 : a.tmps.getD 22 undef = .bool true := he 3 (by kernel_rfl)
              exact wpOp_pass rfl rfl rfl f3 rfl ⟨_, rfl, rfl, World.grownBy.refl _ _⟩
            · intro a w' hf he
              have f3 : a.tmps.getD 22 undef = .bool true := he 3 (by kernel_rfl)
              exact wpOp_pass rfl rfl rfl f3 rfl ⟨_, rfl, rfl, World.grownBy.refl _ _⟩
            · intro a w' hf he
              have f3 : a.tmps.getD 22 undef = .bool true := he 3 (by kernel_rfl)
              have f13 : a.tmps.getD 32 undef = undef := he 13 (by kernel_rfl)
              refine wpOp_step rfl (fun K hK => ?_)
              go_simp
              exact hK _ _ ⟨_, rfl, rfl, World.grownBy.refl _ _⟩
          · intro a w' hf he
            obtain ⟨u19, f0⟩ : ∃ u, a.tmps.getD 19 undef = u := ⟨_, rfl⟩
            obtain ⟨u20, f1⟩ : ∃ u, a.tmps.getD 20 undef = u := ⟨_, rfl⟩
            obtain ⟨u21, f2⟩ : ∃ u, a.tmps.getD 21 undef = u := ⟨_, rfl⟩
            obtain ⟨u22, f3⟩ : ∃ u, a.tmps.getD 22 undef = u := ⟨_, rfl⟩
            obtain ⟨u23, f4⟩ : ∃ u, a.tmps.getD 23 undef = u := ⟨_, rfl⟩
            obtain ⟨u24, f5⟩ : ∃ u, a.tmps.getD 24 undef = u := ⟨_, rfl⟩
            obtain ⟨u25, f6⟩ : ∃ u, a.tmps.getD 25 undef = u := ⟨_, rfl⟩
            obtain ⟨u26, f7⟩ : ∃ u, a.tmps.getD 26 undef = u := ⟨_, rfl⟩
            obtain ⟨u27, f8⟩ : ∃ u, a.tmps.getD 27 undef = u := ⟨_, rfl⟩
            obtain ⟨u28, f9⟩ : ∃ u, a.tmps.getD 28 undef = u := ⟨_, rfl⟩
            obtain ⟨u29, f10⟩ : ∃ u, a.tmps.getD 29 undef = u := ⟨_, rfl⟩
            obtain ⟨u30, f11⟩ : ∃ u, a.tmps.getD 30 undef = u := ⟨_, rfl⟩
            obtain ⟨u31, f12⟩ : ∃ u, a.tmps.getD 31 undef = u := ⟨_, rfl⟩
            obtain ⟨u32, f13⟩ : ∃ u, a.tmps.getD 32 undef = u := ⟨_, rfl⟩
            have f14 : a.tmps.getD 33 undef = (.bool true) := he 14 (by decide)
            have hlit := hf.lit ((19, u19) :: (20, u20) :: (21, u21) :: (22, u22) :: (23, u23) :: (24, u24) :: (25, u25) :: (26, u26) :: (27, u27) :: (28, u28) :: (29, u29) :: (30, u30) :: (31, u31) :: (32, u32) :: (33, (.bool true)) :: []) (by kernel_rfl) ⟨f0, f1, f2, f3, f4, f5, f6, f7, f8, f9, f10, f11, f12, f13, f14, trivial⟩
            have hB := hf.bel
            clear he hf f0 f1 f2 f3 f4 f5 f6 f7 f8 f9 f10 f11 f12 f13 f14 
            subst hlit
            simp only [putAll_nil, putAll_cons, Act.put, List.setIfInBounds_toArray, List.set_cons_zero, List.set_cons_succ]
            simp only [List.drop_succ_cons, List.drop_zero]
            have hB2 : Below w.heap.size w w' := HB.out.trans (hB.mono HB.out.size)
            clear hB
            go_wp2_with fail
            go_ret
            exact ⟨.inr ⟨rfl, fits_not Hp.out Ht.out fun e => hg e.1⟩, hB2⟩
      · go_wp2_with fail
        go_ret
        exact ⟨.inl ⟨rfl, by omega, fun i p t hp ht => hall.out i p t (by have := (List.getElem?_eq_some_iff.1 hp).1; omega) hp ht⟩, hB⟩
  · go_enter Try.func121, Try.ntmps121
    go_wp2_with fail
    go_ret
    exact ⟨.inr ⟨rfl, fun hf => hnm (by have := hf.1; omega)⟩, Below.refl _ _⟩
end Go.Proofs.Ytdpggcpbgfancaa.Vol
