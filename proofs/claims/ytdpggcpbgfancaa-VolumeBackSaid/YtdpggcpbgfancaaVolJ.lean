/- Whether a piece may be: contracts of right, in the program and in its reference. Conditions: none. -/
import Derived.Test.YtdpggcpbgfancaaVolCuts
set_option linter.unusedVariables false
set_option linter.unusedSimpArgs false
namespace Go.Proofs.Ytdpggcpbgfancaa.Vol
open Go.RowKit Tw
set_option maxHeartbeats 2000000
set_option maxRecDepth 100000

/-- a piece of any numbers -/
abbrev Pi := Int × Int × Int × Int
def piV (p : Pi) : List Value := [.int .i64 p.1, .int .i64 p.2.1, .int .i64 p.2.2.1, .int .i64 p.2.2.2]
def pisV (l : List Pi) : List Value := l.flatMap piV
def InR (x : Int) : Prop := -9223372036854775808 ≤ x ∧ x ≤ 9223372036854775807
def PiR (p : Pi) : Prop := InR p.1 ∧ InR p.2.1 ∧ InR p.2.2.1 ∧ InR p.2.2.2
/-- may the piece be? -/
def Good (p : Pi) : Prop := 0 ≤ p.1 ∧ p.1 ≤ 1073741824 ∧ 1 ≤ p.2.1 ∧ p.2.1 ≤ 8 ∧ 0 ≤ p.2.2.1 ∧ p.2.2.1 ≤ p.2.2.2 ∧ p.2.2.2 ≤ 16 * p.2.1
theorem ret_bool {v : Value} {a b : Bool} (hv : v = .bool a) (h : a = b) : Ending.returned v = .returned (.bool b) := by rw [hv, h]
theorem c_within (x : Int) (w : World) :
    Calls Try.prog 160 #[.int .i64 x] w fun e w' => e = .returned (.bool (decide (0 ≤ x ∧ x ≤ 1073741824))) ∧ w = w' := by
  go_enter Try.func160, Try.ntmps160
  go_wp2
  all_goals
    go_ret
    refine ⟨ret_bool rfl ?_, rfl⟩
    rw [Bool.eq_iff_iff]
    simp only [decide_eq_true_eq, Bool.false_eq_true, Bool.true_eq_false, Bool.and_eq_true, true_iff, false_iff]
    omega
def Plain (x y : Int) : Prop := 0 ≤ x ∧ x ≤ 1073741824 ∧ 0 ≤ y ∧ y ≤ 1073741824
instance (x y : Int) : Decidable (Plain x y) := by unfold Plain; infer_instance
instance (p : Pi) : Decidable (Good p) := by unfold Good; infer_instance
theorem c_Plain (x y : Int) (w : World) :
    Calls Try.prog 150 #[.agg #[.int .i64 x, .int .i64 y]] w fun e w' => e = .returned (.bool (decide (Plain x y))) ∧ Below w.heap.size w w' := by
  have HB := Lib.hid ((Below.refl _ _).alloc (Nat.le_refl w.heap.size) (.cells #[.int .i64 x, .int .i64 y] 74))
  have hx := c_within x
  have hy := c_within y
  go_enter Try.func150, Try.ntmps150
  go_wp2_with (first
    | (go_at_call 160
       (with_reducible refine (hx _).mono ?_)
       rintro e w1 ⟨rfl, rfl⟩
       clear hx)
    | (go_at_call 160
       (with_reducible refine (hy _).mono ?_)
       rintro e w1 ⟨rfl, rfl⟩
       clear hy))
  all_goals
    go_ret
    refine ⟨ret_bool rfl ?_, HB.out⟩
    rw [Bool.eq_iff_iff]
    simp only [decide_eq_true_eq, Bool.false_eq_true, Bool.true_eq_false, Bool.and_eq_true, true_iff, false_iff]
    simp only [Plain]
    omega
theorem c_right (x1 x2 x3 x4 : Int) (w : World) :
    Calls Try.prog 149 #[.agg #[.int .i64 x1, .int .i64 x2, .int .i64 x3, .int .i64 x4]] w fun e w' => e = .returned (.bool (decide (Good (x1, x2, x3, x4)))) ∧ Below w.heap.size w w' := by
  have HB := Lib.hid ((Below.refl _ _).alloc (Nat.le_refl w.heap.size) (.cells #[.int .i64 x1, .int .i64 x2, .int .i64 x3, .int .i64 x4] 158))
  have HX := Lib.hid (heap_alloc_new w (.cells #[.int .i64 x1, .int .i64 x2, .int .i64 x3, .int .i64 x4] 158))
  have hpl := c_Plain x1 x2
  obtain ⟨b, hb⟩ : ∃ b, b = decide (Plain x1 x2) := ⟨_, rfl⟩
  rw [← hb] at hpl
  have Hpl := Lib.hid hpl
  have Hb := Lib.hid hb
  clear hpl hb
  cases b
  all_goals
    go_enter Try.func149, Try.ntmps149
    go_wp2_with (first
      | (go_at_call 150
         (with_reducible refine (Hpl.out _).mono ?_)
         rintro e w1 ⟨rfl, hb1⟩
         have B1 := Lib.hid (HB.out.trans (hb1.mono HB.out.size))
         have d0 := (hb1.block _ (heap_lt HX.out)).trans HX.out
         have d1 : w1.cell? ⟨w.heap.size, 1, none⟩ = some (.int .i64 x2) := by simp [World.cell?, d0]
         have d2 : w1.cell? ⟨w.heap.size, 2, none⟩ = some (.int .i64 x3) := by simp [World.cell?, d0]
         have d3 : w1.cell? ⟨w.heap.size, 3, none⟩ = some (.int .i64 x4) := by simp [World.cell?, d0]
         clear d0 hb1 HX))
    all_goals
      go_ret
      refine ⟨ret_bool rfl ?_, B1.out⟩
      have hp := Hb.out
      rw [Bool.eq_iff_iff] at hp ⊢
      simp only [decide_eq_true_eq, Bool.false_eq_true, Bool.true_eq_false, true_iff, false_iff, Bool.and_eq_true] at hp ⊢
      simp only [Plain, Good] at hp ⊢
      omega
end Go.Proofs.Ytdpggcpbgfancaa.Vol
