/- Contracts of the package wire and of its reference: Good, Name. Conditions: none. -/
import Derived.Test.YtplemdgihlabgaaProg
import Derived.Test.YtplemdgihlabgaaSpan
import Derived.Test.YtplemdgihlabgaaFrame
import Derived.Test.YtplemdgihlabgaaRegion
import Derived.WalkSpells
import Derived.Deep.Cut
import Derived.Deep.CutBlock
import Derived.Carry
set_option linter.unusedVariables false
set_option linter.unusedSimpArgs false
namespace Go.Proofs.Ytplemdgihlabgaa.Wire
open Go.RowKit Tw
set_option maxHeartbeats 8000000
set_option maxRecDepth 100000
def Good (f t : Nat) (k s a : Int) (n : Nat) : Prop := f ≠ 0 ∧ 0 ≤ s ∧ s ≤ 2147483647 ∧ 0 ≤ a ∧ a ≤ 2147483647 ∧ (k = 1 ∧ t = 0 ∧ s = 0 ∧ a = 0 ∧ n = 0 ∨ k = 2 ∧ t ≠ 0 ∧ s = 0 ∧ n = 0 ∨ k = 3 ∧ t ≠ 0 ∧ s ≠ 0 ∧ 0 < n ∧ n ≤ 200)
instance (f t : Nat) (k s a : Int) (n : Nat) : Decidable (Good f t k s a n) := by unfold Good; infer_instance
theorem c_gw (x : Int) (w : World) : Calls Try.prog 205 #[.int .i64 x] w fun e w' => e = .returned (.bool (decide (0 ≤ x ∧ x ≤ 2147483647))) ∧ w = w' := by
  go_enter Try.func205, Try.ntmps205
  go_wp2
  all_goals
    go_ret
    refine ⟨Span.ret_bool rfl ?_, rfl⟩
    rw [Bool.eq_iff_iff]
    simp only [decide_eq_true_eq, Bool.false_eq_true, Bool.true_eq_false, Bool.and_eq_true, true_iff, false_iff]
    omega
theorem cells6 {w : World} {g : Nat} {t : TypeId} {v0 v1 v2 v3 v4 v5 : Value} (h : w.heap[g]? = some (.cells #[v0, v1, v2, v3, v4, v5] t (0, 0))) :
    w.cell? ⟨g, 0, none⟩ = some v0 ∧ w.cell? ⟨g, 1, none⟩ = some v1 ∧ w.cell? ⟨g, 2, none⟩ = some v2 ∧ w.cell? ⟨g, 3, none⟩ = some v3 ∧ w.cell? ⟨g, 4, none⟩ = some v4 ∧ w.cell? ⟨g, 5, none⟩ = some v5 := by
  simp [World.cell?, h]
theorem c_Good (f t : Nat) (k s a : Int) (A : Option Addr) (n c : Nat) (w : World) :
    Calls Try.prog 153 #[.agg #[.int .u32 (f : Int), .int .u32 (t : Int), .int .i64 k, .int .i64 s, .int .i64 a, .slice A n c]] w fun e w' => e = .returned (.bool (decide (Good f t k s a n))) ∧ Below w.heap.size w w' := by
  have HB := Lib.hid ((Below.refl _ _).alloc (Nat.le_refl w.heap.size) (.cells #[.int .u32 (f : Int), .int .u32 (t : Int), .int .i64 k, .int .i64 s, .int .i64 a, .slice A n c] 92))
  obtain ⟨k0, k1, k2, k3, k4, k5⟩ := cells6 (heap_alloc_new w (.cells #[.int .u32 (f : Int), .int .u32 (t : Int), .int .i64 k, .int .i64 s, .int .i64 a, .slice A n c] 92))
  have hs := c_gw s
  have ha := c_gw a
  go_enter Try.func153, Try.ntmps153
  go_upto_region 1 with (fail)
  generalize w.alloc (.cells #[.int .u32 (f : Int), .int .u32 (t : Int), .int .i64 k, .int .i64 s, .int .i64 a, .slice A n c] 92) = W1 at *
  obtain ⟨F, hF⟩ : ∃ F : Int, (f : Int) = F := ⟨_, rfl⟩
  obtain ⟨T, hT⟩ : ∃ T : Int, (t : Int) = T := ⟨_, rfl⟩
  rw [hF] at k0
  rw [hT] at k1
  have HF := Lib.hid hF
  have HT := Lib.hid hT
  clear hF hT
  by_cases h1 : 0 ≤ s ∧ s ≤ 2147483647
  · have hd1 := Lib.hid (decide_eq_true h1)
    by_cases h2 : 0 ≤ a ∧ a ≤ 2147483647
    · have hd2 := Lib.hid (decide_eq_true h2)
      go_wp2_with (first
        | (go_at_call 205
           (with_reducible refine (hs _).mono ?_)
           rintro e w1 ⟨rfl, rfl⟩
           rw [hd1.out]
           clear hs)
        | (go_at_call 205
           (with_reducible refine (ha _).mono ?_)
           rintro e w1 ⟨rfl, rfl⟩
           rw [hd2.out]
           clear ha))
      all_goals
        go_ret
        refine ⟨Span.ret_bool rfl ?_, HB.out⟩
        rw [Bool.eq_iff_iff]
        simp only [decide_eq_true_eq, Bool.false_eq_true, Bool.true_eq_false, Bool.and_eq_true, true_iff, false_iff]
        have hF := HF.out
        have hT := HT.out
        simp only [Good]
        (try simp only [beq_iff_eq, bne_iff_ne, beq_eq_false_iff_ne, bne_eq_false_iff_eq, Bool.not_eq_true, Bool.not_eq_false] at *)
        omega
    · have hd2 := Lib.hid (decide_eq_false h2)
      go_wp2_with (first
        | (go_at_call 205
           (with_reducible refine (hs _).mono ?_)
           rintro e w1 ⟨rfl, rfl⟩
           rw [hd1.out]
           clear hs)
        | (go_at_call 205
           (with_reducible refine (ha _).mono ?_)
           rintro e w1 ⟨rfl, rfl⟩
           rw [hd2.out]
           clear ha))
      all_goals
        go_ret
        refine ⟨Span.ret_bool rfl ?_, HB.out⟩
        rw [Bool.eq_iff_iff]
        simp only [decide_eq_true_eq, Bool.false_eq_true, Bool.true_eq_false, Bool.and_eq_true, true_iff, false_iff]
        have hF := HF.out
        have hT := HT.out
        simp only [Good]
        (try simp only [beq_iff_eq, bne_iff_ne, beq_eq_false_iff_ne, bne_eq_false_iff_eq, Bool.not_eq_true, Bool.not_eq_false] at *)
        omega
  · have hd1 := Lib.hid (decide_eq_false h1)
    go_wp2_with (first
      | (go_at_call 205
         (with_reducible refine (hs _).mono ?_)
         rintro e w1 ⟨rfl, rfl⟩
         rw [hd1.out]
         clear hs))
    all_goals
      go_ret
      refine ⟨Span.ret_bool rfl ?_, HB.out⟩
      rw [Bool.eq_iff_iff]
      simp only [decide_eq_true_eq, Bool.false_eq_true, Bool.true_eq_false, Bool.and_eq_true, true_iff, false_iff]
      have hF := HF.out
      have hT := HT.out
      simp only [Good]
      (try simp only [beq_iff_eq, bne_iff_ne, beq_eq_false_iff_ne, bne_eq_false_iff_eq, Bool.not_eq_true, Bool.not_eq_false] at *)
      omega
theorem c_rGood (f t : Nat) (k s a : Int) (A : Option Addr) (n c : Nat) (w : World) :
    Calls Try.prog 109 #[.agg #[.int .u32 (f : Int), .int .u32 (t : Int), .int .i64 k, .int .i64 s, .int .i64 a, .slice A n c]] w fun e w' => e = .returned (.bool (decide (Good f t k s a n))) ∧ Below w.heap.size w w' := by
  have HB := Lib.hid ((Below.refl _ _).alloc (Nat.le_refl w.heap.size) (.cells #[.int .u32 (f : Int), .int .u32 (t : Int), .int .i64 k, .int .i64 s, .int .i64 a, .slice A n c] 92))
  obtain ⟨k0, k1, k2, k3, k4, k5⟩ := cells6 (heap_alloc_new w (.cells #[.int .u32 (f : Int), .int .u32 (t : Int), .int .i64 k, .int .i64 s, .int .i64 a, .slice A n c] 92))
  go_enter Try.func109, Try.ntmps109
  go_upto_region 1 with (fail)
  generalize w.alloc (.cells #[.int .u32 (f : Int), .int .u32 (t : Int), .int .i64 k, .int .i64 s, .int .i64 a, .slice A n c] 92) = W1 at *
  obtain ⟨F, hF⟩ : ∃ F : Int, (f : Int) = F := ⟨_, rfl⟩
  obtain ⟨T, hT⟩ : ∃ T : Int, (t : Int) = T := ⟨_, rfl⟩
  rw [hF] at k0
  rw [hT] at k1
  have HF := Lib.hid hF
  have HT := Lib.hid hT
  clear hF hT
  go_wp2_with fail
  all_goals
    go_ret
    refine ⟨Span.ret_bool rfl ?_, HB.out⟩
    rw [Bool.eq_iff_iff]
    simp only [decide_eq_true_eq, Bool.false_eq_true, Bool.true_eq_false, Bool.and_eq_true, true_iff, false_iff]
    have hF := HF.out
    have hT := HT.out
    simp only [Good]
    (try simp only [beq_iff_eq, bne_iff_ne, beq_eq_false_iff_ne, bne_eq_false_iff_eq, Bool.not_eq_true, Bool.not_eq_false] at *)
    omega
def word (k : Int) : ByteArray := if k = 1 then ⟨#[104, 101, 108, 108, 111]⟩ else if k = 2 then ⟨#[112, 105, 110, 103]⟩ else if k = 3 then ⟨#[109, 115, 103]⟩ else ⟨#[117, 110, 107, 110, 111, 119, 110]⟩
end Go.Proofs.Ytplemdgihlabgaa.Wire
