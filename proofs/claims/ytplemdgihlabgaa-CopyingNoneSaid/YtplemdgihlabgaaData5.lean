/- The laws DataNone and DataKeeps: the calls of a disk that no call made, the example. Conditions: none. -/
import Derived.Test.YtplemdgihlabgaaData4
import Derived.Test.YtplemdgihlabgaaFlat
set_option linter.unusedVariables false
set_option linter.unusedSimpArgs false
namespace Go.Proofs.Ytplemdgihlabgaa.Data
open Go.RowKit Tw Disk
set_option maxHeartbeats 4000000
set_option maxRecDepth 100000

def SpanR (e : Ending) : Prop := ∃ o l : Int, e = .returned (.agg #[.int .i64 o, .int .i64 l])
theorem c_Whole (x : Int) (w : World) (hx : -9223372036854775808 ≤ x ∧ x ≤ 9223372036854775807) : Calls Try.prog 138 #[.int .i64 x] w fun e w' => SpanR e ∧ Below w.heap.size w w' := by
  go_enter Try.func138, Try.ntmps138
  go_wp2_with fail
  all_goals
    refine bodyPost_ret (results_cell_row rfl _ _ w.heap.size _ _ (0, 0) _ rfl (heap_alloc_new w _) Try.underlying61 rfl (by kernel_rfl)) rfl ?_
    exact ⟨⟨_, _, rfl⟩, (Below.refl _ _).alloc (Nat.le_refl _) _⟩
theorem c_Extent_nil (x : Int) (w : World) (hx : -9223372036854775808 ≤ x ∧ x ≤ 9223372036854775807) : Calls Try.prog 72 #[.pointer none, .int .i64 x] w fun e w' => e = .returned (.tuple #[.slice none 0 0, .int .i64 1]) ∧ Below w.heap.size w w' := by
  go_enter Try.func72, Try.ntmps72
  go_wp2_with (first
    | (go_at_call 138
       (with_reducible refine (c_Whole x _ hx).mono ?_)
       rintro e w1 ⟨⟨o, l, rfl⟩, hb1⟩
       have B1 := Lib.hid hb1
       clear hb1)
    | (go_at_call 70
       refine (c_Read_nil _ _ _).mono ?_
       rintro e w2 ⟨rfl, hb2⟩
       have B2 := Lib.hid (B1.out.trans (hb2.mono B1.out.size))
       clear hb2))
  go_ret2
  exact ⟨rfl, B2.out⟩
theorem c_SetExtent_nil (x : Int) (A : Option Addr) (n cb : Nat) (w : World) (hx : -9223372036854775808 ≤ x ∧ x ≤ 9223372036854775807) : Calls Try.prog 74 #[.pointer none, .int .i64 x, .slice A n cb] w fun e w' => e = .returned (.int .i64 1) ∧ Below w.heap.size w w' := by
  go_enter Try.func74, Try.ntmps74
  go_wp2_with (first
    | (go_at_call 138
       (with_reducible refine (c_Whole x _ hx).mono ?_)
       rintro e w1 ⟨⟨o, l, rfl⟩, hb1⟩
       have B1 := Lib.hid hb1
       clear hb1)
    | (go_at_call 68
       refine (c_Write_nil _ _ _ _ _ _).mono ?_
       rintro e w2 ⟨rfl, hb2⟩
       have B2 := Lib.hid (B1.out.trans (hb2.mono B1.out.size))
       clear hb2))
  go_ret
  exact ⟨rfl, B2.out⟩

theorem c_dNewI (X : Int) (n : Nat) (hX : X = (n : Int)) (w : World) (h1 : 1 ≤ n) (h2 : n ≤ 1024) :
    Calls Try.prog 27 #[.int .i64 X] w fun e w' => ∃ p g mb, e = .returned (.tuple #[.pointer (some ⟨p, 0, none⟩), .int .i64 0]) ∧ Dk w' p g mb n (Dsk.new n) ∧ (w.heap.size ≤ p ∧ w.heap.size ≤ g ∧ w.heap.size ≤ mb) ∧ Below w.heap.size w w' := by
  subst hX
  exact c_dNew n w h1 h2
theorem lives_w1 : (dWrite (Dsk.new 12) 3 1 (List.replicate 16 0)).2 = 0 := by decide +kernel
theorem lives_w2 : (dWrite (dWrite (Dsk.new 12) 3 1 (List.replicate 16 0)).1 3 2 (List.replicate 32 0)) = ((dWrite (Dsk.new 12) 3 1 (List.replicate 16 0)).1, 13) := by
  rw [dWrite, if_neg (by decide +kernel)]
theorem lives_secs : secs (dWrite (Dsk.new 12) 3 1 (List.replicate 16 0)).1 = 4 := by decide +kernel
theorem lives_fine : Fine (dWrite (Dsk.new 12) 3 1 (List.replicate 16 0)).1 ∧ (dWrite (Dsk.new 12) 3 1 (List.replicate 16 0)).1.cells.length = 12 ∧ (dWrite (Dsk.new 12) 3 1 (List.replicate 16 0)).1.ops ≤ 1024 := by
  rcases fine_dWrite (fine_new (n := 12) (by omega) (by omega)) (by simp [Dsk.new]) 3 1 (List.replicate 16 0) with ⟨h, _⟩ | ⟨_, o, L, _, _, _, _, h1, h2, h3, _⟩
  · exact absurd lives_w1 h
  · exact ⟨h1, by rw [h2]; simp [Dsk.new], by simpa [Dsk.new] using h3⟩
theorem new_block {w : World} {p g mb c n : Nat} {d : Dsk} (h : Dk w p g mb c d) : ∀ ad, some (⟨w.heap.size, 0, none⟩ : Addr) = some ad → 0 < n → ad.block ≠ p ∧ ad.block ≠ mb := fun ad e _ => by
  have := h.lts
  injection e with e
  subst e
  simp only
  omega
theorem c_lives (w : World) : Calls Try.prog 67 #[] w fun e w' => e = .returned (.bool true) ∧ Below w.heap.size w w' := by
  obtain ⟨hf1, hc1, ho1⟩ := lives_fine
  have ho0 : (Dsk.new 12).ops + 1024 < 1000000000 := by simp [Dsk.new]
  have hs1 := lives_secs
  have hw1 := lives_w1
  have hw2 := lives_w2
  have hal := area_len hf1.ok
  rw [hc1] at hal
  obtain ⟨d1, hd1⟩ : ∃ d1, (dWrite (Dsk.new 12) 3 1 (List.replicate 16 0)).1 = d1 := ⟨_, rfl⟩
  rw [hd1] at hf1 hc1 hs1 hw2 hal ho1
  have ho2 : d1.ops + 1024 < 1000000000 := by omega
  have hc2 : 8 < d1.cells.length := by omega
  have Ho0 := Lib.hid ho0
  have Ho2 := Lib.hid ho2
  have Hc2 := Lib.hid hc2
  have Hd1 := Lib.hid hd1
  have Hf1 := Lib.hid hf1
  have Hc1 := Lib.hid hc1
  have Hs1 := Lib.hid hs1
  have Hw1 := Lib.hid hw1
  have Hw2 := Lib.hid hw2
  have Hal := Lib.hid hal
  clear hf1 hc1 hs1 hw1 hw2 hal hd1 ho0 ho1 ho2 hc2
  go_enter Try.func67, Try.ntmps67
  go_wp2_with (first
    | (go_at_call 27
       (with_reducible refine (c_dNewI 12 12 rfl _ (by omega) (by omega)).mono ?_)
       rintro e w1 ⟨p, g, mb, rfl, hk, hge, hb1⟩
       have HB := Lib.hid hb1
       have HK := Lib.hid hk
       clear hb1 hk)
    | (at_make
       refine wpL_make _ rfl _ _ _ rfl w1 w1.heap.size (Below.refl _ _) (Nat.le_refl _) 5 _ 1 1 Try.underlying62 Num.info_u8 _ _ _ _ 16 rfl rfl (by omega) (by omega) (by omega) (by unfold maxLen; omega) _ (made_u8 16) ?_
       intro w2 hown2 hb2 hg2
       have HN := Lib.hid (new_block (n := 16) HK.out)
       have HO := Lib.hid hown2.rd
       have HK := Lib.hid (HK.out.bel (bel_grown hg2))
       have HB := Lib.hid (HB.out.trans (hb2.mono HB.out.size))
       clear hown2 hb2 hg2)
    | (go_at_call 68
       (with_reducible refine (c_Write HK.out Ho0.out 3 1 _ 16 16 (List.replicate 16 0) HO.out HN.out).mono ?_)
       rintro e w3 ⟨rfl, h3, f3⟩
       rw [Hd1.out] at h3
       rw [Hw1.out]
       have HK := Lib.hid h3
       have HB := Lib.hid (HB.out.trans (f3.bel (fun k e => by omega) HB.out.size))
       clear h3 f3 HO HN)
    | (at_make
       refine wpL_make _ rfl _ _ _ rfl w3 w3.heap.size (Below.refl _ _) (Nat.le_refl _) 5 _ 1 1 Try.underlying62 Num.info_u8 _ _ _ _ 32 rfl rfl (by omega) (by omega) (by omega) (by unfold maxLen; omega) _ (made_u8 32) ?_
       intro w4 hown2 hb2 hg2
       have HN := Lib.hid (new_block (n := 32) HK.out)
       have HO := Lib.hid hown2.rd
       have HK := Lib.hid (HK.out.bel (bel_grown hg2))
       have HB := Lib.hid (HB.out.trans (hb2.mono HB.out.size))
       clear hown2 hb2 hg2)
    | (go_at_call 68
       (with_reducible refine (c_Write HK.out Ho2.out 3 2 _ 32 32 (List.replicate 32 0) HO.out HN.out).mono ?_)
       rintro e w5 ⟨rfl, h5, f5⟩
       rw [Hw2.out] at h5 ⊢
       have HK := Lib.hid h5
       have HB := Lib.hid (HB.out.trans (f5.bel (fun k e => by omega) HB.out.size))
       clear h5 f5 HO HN)
    | (go_at_call 79
       (with_reducible refine (c_Sectors HK.out).mono ?_)
       rintro e w6 ⟨rfl, rfl⟩
       rw [Hs1.out])
    | (go_at_call 81
       (with_reducible refine (c_Image HK.out Hf1.out Hc2.out).mono ?_)
       rintro e w7 ⟨A7, c7, rfl, h7, hb7⟩
       rw [Hal.out]
       have HB := Lib.hid (HB.out.trans (hb7.mono HB.out.size))
       clear h7 hb7))
  go_ret
  exact ⟨rfl, HB.out⟩
end Go.Proofs.Ytplemdgihlabgaa.Data
