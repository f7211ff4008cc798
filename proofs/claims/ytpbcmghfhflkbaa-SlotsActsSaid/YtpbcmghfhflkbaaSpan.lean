/- Contracts of the package span: Plain, End, Good. Conditions: none. -/
import Derived.Test.YtpbcmghfhflkbaaProg
import Derived.Test.YtpbcmghfhflkbaaFrame
import Derived.Test.YtpbcmghfhflkbaaRegion
set_option linter.unusedVariables false
set_option linter.unusedSimpArgs false
namespace Go.Proofs.Ytpbcmghfhflkbaa.Span
open Go.RowKit Tw
set_option maxHeartbeats 2000000
set_option maxRecDepth 100000

theorem ret_bool {v : Value} {a b : Bool} (hv : v = .bool a) (h : a = b) : Ending.returned v = .returned (.bool b) := by rw [hv, h]
def Plain (x y : Int) : Prop := 0 ≤ x ∧ x ≤ 1073741824 ∧ 0 ≤ y ∧ y ≤ 1073741824
instance (x y : Int) : Decidable (Plain x y) := by unfold Plain; infer_instance
/-- does the span lie within so many sectors, and has it one? -/
def Good (x y s : Int) : Prop := 0 ≤ x ∧ 0 < y ∧ x ≤ 1073741824 ∧ y ≤ 1073741824 ∧ x + y ≤ s
instance (x y s : Int) : Decidable (Good x y s) := by unfold Good; infer_instance
theorem c_within (x : Int) (w : World) :
    Calls Try.prog 263 #[.int .i64 x] w fun e w' => e = .returned (.bool (decide (0 ≤ x ∧ x ≤ 1073741824))) ∧ w = w' := by
  go_enter Try.func263, Try.ntmps263
  go_wp2
  all_goals
    go_ret
    refine ⟨ret_bool rfl ?_, rfl⟩
    rw [Bool.eq_iff_iff]
    simp only [decide_eq_true_eq, Bool.false_eq_true, Bool.true_eq_false, Bool.and_eq_true, true_iff, false_iff]
    omega
theorem c_Plain (x y : Int) (w : World) :
    Calls Try.prog 250 #[.agg #[.int .i64 x, .int .i64 y]] w fun e w' => e = .returned (.bool (decide (Plain x y))) ∧ Below w.heap.size w w' := by
  have HB := Lib.hid ((Below.refl _ _).alloc (Nat.le_refl w.heap.size) (.cells #[.int .i64 x, .int .i64 y] 118))
  have hx := c_within x
  have hy := c_within y
  go_enter Try.func250, Try.ntmps250
  go_wp2_with (first
    | (go_at_call 263
       (with_reducible refine (hx _).mono ?_)
       rintro e w1 ⟨rfl, rfl⟩
       clear hx)
    | (go_at_call 263
       (with_reducible refine (hy _).mono ?_)
       rintro e w1 ⟨rfl, rfl⟩
       clear hy))
  all_goals
    go_ret
    refine ⟨ret_bool rfl ?_, HB.out⟩
    rw [Bool.eq_iff_iff]
    simp only [decide_eq_true_eq, Bool.false_eq_true, Bool.true_eq_false, Bool.and_eq_true, true_iff, false_iff]
    simp only [Plain]
    omega
theorem c_End (x y : Int) (w : World) (h : Plain x y) :
    Calls Try.prog 251 #[.agg #[.int .i64 x, .int .i64 y]] w fun e w' => e = .returned (.int .i64 (x + y)) ∧ Below w.heap.size w w' := by
  have HB := Lib.hid ((Below.refl _ _).alloc (Nat.le_refl w.heap.size) (.cells #[.int .i64 x, .int .i64 y] 118))
  have HX := Lib.hid (heap_alloc_new w (.cells #[.int .i64 x, .int .i64 y] 118))
  have hd := Lib.hid (decide_eq_true h)
  unfold Plain at h
  go_enter Try.func251, Try.ntmps251
  go_wp2_with (first
    | (go_at_call 250
       (with_reducible refine (c_Plain x y _).mono ?_)
       rintro e w1 ⟨rfl, hb1⟩
       rw [hd.out]
       have B1 := Lib.hid (HB.out.trans (hb1.mono HB.out.size))
       have d0 := (hb1.block _ (heap_lt HX.out)).trans HX.out
       have d1 : w1.cell? ⟨w.heap.size, 0, none⟩ = some (.int .i64 x) := by simp [World.cell?, d0]
       have d2 : w1.cell? ⟨w.heap.size, 1, none⟩ = some (.int .i64 y) := by simp [World.cell?, d0]
       clear d0 hb1 HX))
  go_ret
  exact ⟨rfl, B1.out⟩
theorem c_Good (x y s : Int) (w : World) :
    Calls Try.prog 225 #[.agg #[.int .i64 x, .int .i64 y], .int .i64 s] w fun e w' => e = .returned (.bool (decide (Good x y s))) ∧ Below w.heap.size w w' := by
  have HB := Lib.hid ((Below.refl _ _).alloc (Nat.le_refl w.heap.size) (.cells #[.int .i64 x, .int .i64 y] 118))
  have HX := Lib.hid (heap_alloc_new w (.cells #[.int .i64 x, .int .i64 y] 118))
  by_cases hp : Plain x y
  · have hd := Lib.hid (decide_eq_true hp)
    have Hp := Lib.hid hp
    unfold Plain at hp
    go_enter Try.func225, Try.ntmps225
    go_wp2_with (first
      | (go_at_call 250
         (with_reducible refine (c_Plain x y _).mono ?_)
         rintro e w1 ⟨rfl, hb1⟩
         rw [hd.out]
         have B1 := Lib.hid (HB.out.trans (hb1.mono HB.out.size))
         have d0 := (hb1.block _ (heap_lt HX.out)).trans HX.out
         have d1 : w1.cell? ⟨w.heap.size, 0, none⟩ = some (.int .i64 x) := by simp [World.cell?, d0]
         have d2 : w1.cell? ⟨w.heap.size, 1, none⟩ = some (.int .i64 y) := by simp [World.cell?, d0]
         clear d0 hb1 HX)
      | (go_at_call 251
         (with_reducible refine (c_End x y _ Hp.out).mono ?_)
         rintro e w2 ⟨rfl, hb2⟩
         have B1 := Lib.hid (B1.out.trans (hb2.mono B1.out.size))
         clear hb2))
    all_goals
      go_ret
      refine ⟨ret_bool rfl ?_, B1.out⟩
      rw [Bool.eq_iff_iff]
      simp only [decide_eq_true_eq, Bool.false_eq_true, Bool.true_eq_false, Bool.and_eq_true, true_iff, false_iff]
      simp only [Good]
      omega
  · have hd := Lib.hid (decide_eq_false hp)
    unfold Plain at hp
    go_enter Try.func225, Try.ntmps225
    go_wp2_with (first
      | (go_at_call 250
         (with_reducible refine (c_Plain x y _).mono ?_)
         rintro e w1 ⟨rfl, hb1⟩
         rw [hd.out]
         have B1 := Lib.hid (HB.out.trans (hb1.mono HB.out.size))
         clear hb1 HX))
    go_ret
    refine ⟨ret_bool rfl ?_, B1.out⟩
    rw [Bool.eq_iff_iff]
    simp only [decide_eq_true_eq, Bool.false_eq_true, Bool.true_eq_false, Bool.and_eq_true, true_iff, false_iff]
    simp only [Good]
    omega
end Go.Proofs.Ytpbcmghfhflkbaa.Span
