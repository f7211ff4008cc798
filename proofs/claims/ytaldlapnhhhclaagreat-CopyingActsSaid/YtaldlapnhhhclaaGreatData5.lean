/- The laws DataNone and DataKeeps: the calls of a disk that no call made, the example. Conditions: none. -/
import Derived.Test.YtaldlapnhhhclaaGreatData4
import Derived.Test.YtaldlapnhhhclaaGreatB6
set_option linter.unusedVariables false
set_option linter.unusedSimpArgs false
namespace Go.Proofs.YtaldlapnhhhclaaGreat.Data
open Go.RowKit Tw Disk
set_option maxHeartbeats 4000000
set_option maxRecDepth 100000

def SpanR (e : Ending) : Prop := ∃ o l : Int, e = .returned (.agg #[.int .i64 o, .int .i64 l])
theorem c_Whole (x : Int) (w : World) (hx : -9223372036854775808 ≤ x ∧ x ≤ 9223372036854775807) : Calls Tryz.prog 132 #[.int .i64 x] w fun e w' => SpanR e ∧ Below w.heap.size w w' := by
  go_enter Tryz.func132, Tryz.ntmps132
  go_wp2_with fail
  all_goals
    refine bodyPost_ret (results_cell_row rfl _ _ w.heap.size _ _ (0, 0) _ rfl (heap_alloc_new w _) Tryz.underlying144 rfl (by kernel_rfl)) rfl ?_
    exact ⟨⟨_, _, rfl⟩, (Below.refl _ _).alloc (Nat.le_refl _) _⟩
theorem c_Extent_nil (x : Int) (w : World) (hx : -9223372036854775808 ≤ x ∧ x ≤ 9223372036854775807) : Calls Tryz.prog 75 #[.pointer none, .int .i64 x] w fun e w' => e = .returned (.tuple #[.slice none 0 0, .int .i64 1]) ∧ Below w.heap.size w w' := by
  go_enter Tryz.func75, Tryz.ntmps75
  go_wp2_with (first
    | (go_at_call 132
       (with_reducible refine (c_Whole x _ hx).mono ?_)
       rintro e w1 ⟨⟨o, l, rfl⟩, hb1⟩
       have B1 := Lib.hid hb1
       clear hb1)
    | (go_at_call 72
       refine (c_Read_nil _ _ _).mono ?_
       rintro e w2 ⟨rfl, hb2⟩
       have B2 := Lib.hid (B1.out.trans (hb2.mono B1.out.size))
       clear hb2))
  go_ret2
  exact ⟨rfl, B2.out⟩
theorem c_SetExtent_nil (x : Int) (A : Option Addr) (n cb : Nat) (w : World) (hx : -9223372036854775808 ≤ x ∧ x ≤ 9223372036854775807) : Calls Tryz.prog 87 #[.pointer none, .int .i64 x, .slice A n cb] w fun e w' => e = .returned (.int .i64 1) ∧ Below w.heap.size w w' := by
  go_enter Tryz.func87, Tryz.ntmps87
  go_wp2_with (first
    | (go_at_call 132
       (with_reducible refine (c_Whole x _ hx).mono ?_)
       rintro e w1 ⟨⟨o, l, rfl⟩, hb1⟩
       have B1 := Lib.hid hb1
       clear hb1)
    | (go_at_call 70
       refine (c_Write_nil _ _ _ _ _ _).mono ?_
       rintro e w2 ⟨rfl, hb2⟩
       have B2 := Lib.hid (B1.out.trans (hb2.mono B1.out.size))
       clear hb2))
  go_ret
  exact ⟨rfl, B2.out⟩

theorem c_dNewI (X : Int) (n : Nat) (hX : X = (n : Int)) (w : World) (h1 : 1 ≤ n) (h2 : n ≤ 1024) :
    Calls Tryz.prog 17 #[.int .i64 X] w fun e w' => ∃ p g mb, e = .returned (.tuple #[.pointer (some ⟨p, 0, none⟩), .int .i64 0]) ∧ Dk w' p g mb n (Dsk.new n) ∧ (w.heap.size ≤ p ∧ w.heap.size ≤ g ∧ w.heap.size ≤ mb) ∧ Below w.heap.size w w' := by
  subst hX
  exact c_dNew n w h1 h2
theorem lives_w1 : (dWrite (Dsk.new 12) 3 1 (List.replicate 16 0)).2 = 0 := by decide +kernel
theorem lives_w2 : (dWrite (dWrite (Dsk.new 12) 3 1 (List.replicate 16 0)).1 3 2 (List.replicate 32 0)) = ((dWrite (Dsk.new 12) 3 1 (List.replicate 16 0)).1, 13) := by
  rw [dWrite, if_neg (by decide +kernel)]
theorem lives_secs : secs (dWrite (Dsk.new 12) 3 1 (List.replicate 16 0)).1 = 4 := by decide +kernel
theorem lives_fine : Fine (dWrite (Dsk.new 12) 3 1 (List.replicate 16 0)).1 ∧ (dWrite (Dsk.new 12) 3 1 (List.replicate 16 0)).1.cells.length = 12 ∧ (dWrite (Dsk.new 12) 3 1 (List.replicate 16 0)).1.ops ≤ 1024 := by
  rcases fine_dWrite (fine_new (n := 12) (by omega) (by omega)) (by simp [Dsk.new]) 3 1 (List.replicate 16 0) with ⟨h, _⟩ | ⟨_, o, L, _, _, _, _, h1, h2, h3, _⟩
  · exact absurd lives_w1 h
  · exact ⟨h1, by rw [h2]; simp [Dsk.new], by simpa [Dsk.new] using h3⟩
theorem new_block {w : World} {p g mb c n : Nat} {d : Dsk} (h : Dk w p g mb c d) : ∀ ad, some (⟨w.heap.size, 0, none⟩ : Addr) = some ad → 0 < n → ad.block ≠ p ∧ ad.block ≠ mb := fun ad e _ => by
  have := h.lts
  injection e with e
  subst e
  simp only
  omega
end Go.Proofs.YtaldlapnhhhclaaGreat.Data
