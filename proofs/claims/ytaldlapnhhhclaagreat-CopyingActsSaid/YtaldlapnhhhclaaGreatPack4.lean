/- Contracts of the package pack's reference: Good, Name; Name of the package. Conditions: none. -/
import Derived.Test.YtaldlapnhhhclaaGreatPack3
set_option linter.unusedVariables false
set_option linter.unusedSimpArgs false
namespace Go.Proofs.YtaldlapnhhhclaaGreat.Pack
open Go.RowKit Tw
set_option maxHeartbeats 8000000
set_option maxRecDepth 100000
theorem c_hasWas (k : Int) (w : World) : Calls Tryz.prog 143 #[.int .i64 k] w fun e w' => e = .returned (.bool (kW k)) ∧ w = w' := by
  unfold kW
  go_enter Tryz.func143, Tryz.ntmps143
  go_wp2_with fail
  all_goals
    go_ret
    refine ⟨Span.ret_bool rfl ?_, rfl⟩
    rw [Bool.eq_iff_iff]
    simp only [decide_eq_true_eq, Bool.false_eq_true, Bool.true_eq_false, Bool.and_eq_true, Bool.or_eq_true, true_iff, false_iff]
    (try simp only [beq_iff_eq, bne_iff_ne, beq_eq_false_iff_ne, bne_eq_false_iff_eq, Bool.not_eq_true, Bool.not_eq_false] at *)
    (try omega)
theorem c_hasId (k : Int) (w : World) : Calls Tryz.prog 144 #[.int .i64 k] w fun e w' => e = .returned (.bool (kI k)) ∧ w = w' := by
  unfold kI
  go_enter Tryz.func144, Tryz.ntmps144
  go_wp2_with fail
  all_goals
    go_ret
    refine ⟨Span.ret_bool rfl ?_, rfl⟩
    rw [Bool.eq_iff_iff]
    simp only [decide_eq_true_eq, Bool.false_eq_true, Bool.true_eq_false, Bool.and_eq_true, Bool.or_eq_true, true_iff, false_iff]
    (try simp only [beq_iff_eq, bne_iff_ne, beq_eq_false_iff_ne, bne_eq_false_iff_eq, Bool.not_eq_true, Bool.not_eq_false] at *)
    (try omega)
theorem c_hasOff (k : Int) (w : World) : Calls Tryz.prog 145 #[.int .i64 k] w fun e w' => e = .returned (.bool (kO k)) ∧ w = w' := by
  unfold kO
  go_enter Tryz.func145, Tryz.ntmps145
  go_wp2_with fail
  all_goals
    go_ret
    refine ⟨Span.ret_bool rfl ?_, rfl⟩
    rw [Bool.eq_iff_iff]
    simp only [decide_eq_true_eq, Bool.false_eq_true, Bool.true_eq_false, Bool.and_eq_true, Bool.or_eq_true, true_iff, false_iff]
    (try simp only [beq_iff_eq, bne_iff_ne, beq_eq_false_iff_ne, bne_eq_false_iff_eq, Bool.not_eq_true, Bool.not_eq_false] at *)
    (try omega)
theorem c_hasData (k : Int) (w : World) : Calls Tryz.prog 146 #[.int .i64 k] w fun e w' => e = .returned (.bool (kD k)) ∧ w = w' := by
  unfold kD
  go_enter Tryz.func146, Tryz.ntmps146
  go_wp2_with fail
  all_goals
    go_ret
    refine ⟨Span.ret_bool rfl ?_, rfl⟩
    rw [Bool.eq_iff_iff]
    simp only [decide_eq_true_eq, Bool.false_eq_true, Bool.true_eq_false, Bool.and_eq_true, Bool.or_eq_true, true_iff, false_iff]
    (try simp only [beq_iff_eq, bne_iff_ne, beq_eq_false_iff_ne, bne_eq_false_iff_eq, Bool.not_eq_true, Bool.not_eq_false] at *)
    (try omega)
theorem c_rGood (k i o : Int) (m : Nat) (wb : Bool) (A : Option Addr) (n cp : Nat) (w : World) :
    Calls Tryz.prog 90 #[.agg #[.int .i64 k, .int .i64 i, .int .i64 o, .int .u64 (m : Int), .bool wb, .slice A n cp]] w fun e w' => e = .returned (.bool (decide (Good k i o m wb n))) ∧ Below w.heap.size w w' := by
  have HB := Lib.hid ((Below.refl _ _).alloc (Nat.le_refl w.heap.size) (.cells #[.int .i64 k, .int .i64 i, .int .i64 o, .int .u64 (m : Int), .bool wb, .slice A n cp] 25))
  have HX := Lib.hid (heap_alloc_new w (.cells #[.int .i64 k, .int .i64 i, .int .i64 o, .int .u64 (m : Int), .bool wb, .slice A n cp] 25))
  have hW := fun w => c_hasWas k w
  have hI := fun w => c_hasId k w
  have hO := fun w => c_hasOff k w
  have hD := fun w => c_hasData k w
  obtain ⟨a, ha⟩ : ∃ s, kW k = s := ⟨_, rfl⟩
  obtain ⟨b, hb⟩ : ∃ s, kI k = s := ⟨_, rfl⟩
  obtain ⟨c, hc⟩ : ∃ s, kO k = s := ⟨_, rfl⟩
  obtain ⟨d, hd⟩ : ∃ s, kD k = s := ⟨_, rfl⟩
  rw [ha] at hW
  rw [hb] at hI
  rw [hc] at hO
  rw [hd] at hD
  have Ha := Lib.hid ha
  have Hb := Lib.hid hb
  have Hc := Lib.hid hc
  have Hd := Lib.hid hd
  clear ha hb hc hd
  obtain ⟨M, hM⟩ : ∃ M : Int, (m : Int) = M := ⟨_, rfl⟩
  rw [hM] at HB HX
  have HM := Lib.hid hM
  obtain ⟨k0, k1, k2, k3, k4, k5⟩ := Bx.cells6 HX.out
  clear hM
  go_enter Tryz.func90, Tryz.ntmps90
  go_upto_region 1 with (fail)
  rw [HM.out]
  generalize w.alloc (.cells #[.int .i64 k, .int .i64 i, .int .i64 o, .int .u64 M, .bool wb, .slice A n cp] 25) = W1 at *
  go_wp2_with (first
    | (go_at_call 143
       (with_reducible refine (hW _).mono ?_)
       rintro e w5 ⟨rfl, rfl⟩)
    | (go_at_call 144
       (with_reducible refine (hI _).mono ?_)
       rintro e w5 ⟨rfl, rfl⟩)
    | (go_at_call 145
       (with_reducible refine (hO _).mono ?_)
       rintro e w5 ⟨rfl, rfl⟩)
    | (go_at_call 146
       (with_reducible refine (hD _).mono ?_)
       rintro e w5 ⟨rfl, rfl⟩))
  all_goals
    go_ret
    refine ⟨Span.ret_bool rfl ?_, HB.out⟩
    rw [Bool.eq_iff_iff]
    have h1 := Ha.out
    have h2 := Hb.out
    have h3 := Hc.out
    have h4 := Hd.out
    have h7 := HM.out
    clear Ha Hb Hc Hd HM
    subst h1 h2 h3 h4 h7
    clear HX HB k0 k1 k2 k3 k4 k5
    (try simp only [kW, kI, kO, kD, kk, decide_eq_true_eq, Bool.false_eq_true, Bool.true_eq_false, true_iff, false_iff, Bool.and_eq_true, Bool.or_eq_true, beq_iff_eq, bne_iff_ne, beq_eq_false_iff_ne, bne_eq_false_iff_eq, Bool.not_eq_true, Bool.not_eq_false, Bool.not_eq_true', Bool.not_eq_false', decide_eq_false_iff_not] at *)
    unfold Good
    cases wb
    all_goals
      (simp only [Bool.false_eq_true, Bool.true_eq_false, true_and, false_and, and_true, and_false, or_false, false_or, or_true, true_or, decide_eq_true_eq, decide_eq_false_iff_not] at *) <;> omega
end Go.Proofs.YtaldlapnhhhclaaGreat.Pack
