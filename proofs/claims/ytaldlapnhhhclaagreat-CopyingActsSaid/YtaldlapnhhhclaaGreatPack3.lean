/- Contracts of the package pack: Good of both. Conditions: none. -/
import Derived.Test.YtaldlapnhhhclaaGreatPack2
set_option linter.unusedVariables false
set_option linter.unusedSimpArgs false
namespace Go.Proofs.YtaldlapnhhhclaaGreat.Pack
open Go.RowKit Tw
set_option maxHeartbeats 8000000
set_option maxRecDepth 100000
theorem c_sectors (A : Option Addr) (n c : Nat) (w : World) : Calls Tryz.prog 142 #[.slice A n c] w fun e w' => e = .returned (.bool (decide (0 < n ∧ n % 16 = 0 ∧ n ≤ 128))) ∧ w = w' := by
  go_enter Tryz.func142, Tryz.ntmps142
  go_wp2_with fail
  all_goals
    go_ret
    refine ⟨Span.ret_bool rfl ?_, rfl⟩
    rw [Bool.eq_iff_iff]
    simp only [decide_eq_true_eq, Bool.false_eq_true, Bool.true_eq_false, Bool.and_eq_true, true_iff, false_iff]
    (try simp only [beq_iff_eq, bne_iff_ne, beq_eq_false_iff_ne, bne_eq_false_iff_eq, Bool.not_eq_true, Bool.not_eq_false] at *)
    omega
def Good (k i o : Int) (m : Nat) (wb : Bool) (n : Nat) : Prop :=
  (1 ≤ k ∧ k ≤ 8) ∧ (k = 1 ∨ wb = false ∧ m = 0) ∧ ((2 ≤ k ∧ k ≤ 5 ∧ 1 ≤ i ∧ i ≤ 72057594037927935) ∨ (¬(2 ≤ k ∧ k ≤ 5) ∧ i = 0)) ∧ (0 ≤ o ∧ (k = 2 ∧ o ≤ 255 ∨ (k = 6 ∨ k = 7) ∧ o ≤ 63 ∨ o = 0)) ∧
  (k = 2 ∧ n % 16 = 0 ∧ 16 ≤ n ∧ n ≤ 128 ∨ k = 6 ∧ n = 64 ∨ k ≠ 2 ∧ k ≠ 6 ∧ n = 0)
instance (k i o : Int) (m : Nat) (wb : Bool) (n : Nat) : Decidable (Good k i o m wb n) := by unfold Good; infer_instance
theorem c_ofV (k : Int) (w : World) :
    Calls Tryz.prog 140 #[.int .i64 k] w fun e w' => e = .returned (.tuple #[.agg #[.string (nm k), .bool (kW k), .bool (kI k), .bool (kO k), .bool (kD k)], .bool (kk k)]) ∧ Below w.heap.size w w' := c_of k w
theorem c_Good (k i o : Int) (m : Nat) (wb : Bool) (A : Option Addr) (n cp : Nat) (w : World) :
    Calls Tryz.prog 85 #[.agg #[.int .i64 k, .int .i64 i, .int .i64 o, .int .u64 (m : Int), .bool wb, .slice A n cp]] w fun e w' => e = .returned (.bool (decide (Good k i o m wb n))) ∧ Below w.heap.size w w' := by
  have HB := Lib.hid ((Below.refl _ _).alloc (Nat.le_refl w.heap.size) (.cells #[.int .i64 k, .int .i64 i, .int .i64 o, .int .u64 (m : Int), .bool wb, .slice A n cp] 25))
  have HX := Lib.hid (heap_alloc_new w (.cells #[.int .i64 k, .int .i64 i, .int .i64 o, .int .u64 (m : Int), .bool wb, .slice A n cp] 25))
  have hof := fun w => c_ofV k w
  have hba := fun s a b c d w => c_bare s a b c d k i o m wb A n cp w
  obtain ⟨s, hs⟩ : ∃ s, nm k = s := ⟨_, rfl⟩
  obtain ⟨a, ha⟩ : ∃ s, kW k = s := ⟨_, rfl⟩
  obtain ⟨b, hb⟩ : ∃ s, kI k = s := ⟨_, rfl⟩
  obtain ⟨c, hc⟩ : ∃ s, kO k = s := ⟨_, rfl⟩
  obtain ⟨d, hd⟩ : ∃ s, kD k = s := ⟨_, rfl⟩
  obtain ⟨q, hq⟩ : ∃ s, kk k = s := ⟨_, rfl⟩
  rw [hs, ha, hb, hc, hd, hq] at hof
  replace hba := fun w => hba s a b c d w
  obtain ⟨r, hr⟩ : ∃ r, decide (Bare a b c d i o m wb n) = r := ⟨_, rfl⟩
  rw [hr] at hba
  have Ha := Lib.hid ha
  have Hb := Lib.hid hb
  have Hc := Lib.hid hc
  have Hd := Lib.hid hd
  have Hq := Lib.hid hq
  have Hr := Lib.hid hr
  clear ha hb hc hd hq hr hs
  obtain ⟨M, hM⟩ : ∃ M : Int, (m : Int) = M := ⟨_, rfl⟩
  rw [hM] at HB HX hba
  have HM := Lib.hid hM
  obtain ⟨k0, k1, k2, k3, k4, k5⟩ := Bx.cells6 HX.out
  clear hM
  go_enter Tryz.func85, Tryz.ntmps85
  go_upto_region 1 with (fail)
  rw [HM.out]
  generalize w.alloc (.cells #[.int .i64 k, .int .i64 i, .int .i64 o, .int .u64 M, .bool wb, .slice A n cp] 25) = W1 at *
  go_upto_region 2 with (first
    | (go_at_call 140
       (with_reducible refine (hof _).mono ?_)
       rintro e w1 ⟨rfl, hb1⟩
       have LB := Lib.hid (HB.out.trans (hb1.mono HB.out.size))
       have LX := Lib.hid ((hb1.block _ (heap_lt HX.out)).trans HX.out)
       clear hb1 hof)
    | (refine Bx.wpL_store_all rfl rfl 205 (.tmp 3) (.tmp 9) rfl _ rfl _ rfl _ _ (heap_alloc_new w1 _) (by kernel_rfl) rfl (one5 _ _ _ _ _) ?_
       intro w4 x4 g4
       have F4 : Fr (fun k => k = w1.heap.size) w1 w4 := (Fr.alloc _).trans (Fr.grown (S := fun k => k = w1.heap.size) g4 (by rintro k ⟨⟩; rfl)) (fun _ _ h => h)
       have bel4 : Below w1.heap.size w1 w4 := F4.bel (fun k e => by omega) (Nat.le_refl _)
       have NX := Lib.hid ((bel4.block _ (heap_lt LX.out)).trans LX.out)
       have NX4 := Lib.hid x4
       have NB := Lib.hid (LB.out.trans (bel4.mono LB.out.size))
       clear x4 g4 F4 bel4 k0 k1 k2 k3 k4 k5
       obtain ⟨k0, k1, k2, k3, k4, k5⟩ := Bx.cells6 NX.out
       obtain ⟨l0, l1, l2, l3, l4⟩ := cells5 NX4.out)
    | fail)
  go_wp2_with (first
    | (go_at_call 141
       (with_reducible refine (hba _).mono ?_)
       rintro e w5 ⟨rfl, hb5⟩
       have OB := Lib.hid (NB.out.trans (hb5.mono NB.out.size))
       have OX := (hb5.block _ (heap_lt NX.out)).trans NX.out
       have OX4 := (hb5.block _ (heap_lt NX4.out)).trans NX4.out
       clear hb5 k0 k1 k2 k3 k4 k5 l0 l1 l2 l3 l4 hba
       obtain ⟨k0, k1, k2, k3, k4, k5⟩ := Bx.cells6 OX
       obtain ⟨l0, l1, l2, l3, l4⟩ := cells5 OX4
       clear OX OX4)
    | (go_at_call 142
       (with_reducible refine (c_sectors A n cp _).mono ?_)
       rintro e w6 ⟨rfl, rfl⟩))
  all_goals
    go_ret
    refine ⟨Span.ret_bool rfl ?_, by first | exact OB.out | exact NB.out⟩
    rw [Bool.eq_iff_iff]
    have h1 := Ha.out
    have h2 := Hb.out
    have h3 := Hc.out
    have h4 := Hd.out
    have h5 := Hq.out
    have h6 := Hr.out
    have h7 := HM.out
    clear Ha Hb Hc Hd Hq Hr HM
    subst h1 h2 h3 h4 h5 h6 h7
    clear HX HB k0 k1 k2 k3 k4 k5 l0 l1 l2 l3 l4
    (try simp only [kW, kI, kO, kD, kk, decide_eq_true_eq, Bool.false_eq_true, Bool.true_eq_false, true_iff, false_iff, Bool.and_eq_true, beq_iff_eq, bne_iff_ne, beq_eq_false_iff_ne, bne_eq_false_iff_eq, Bool.not_eq_true, Bool.not_eq_false, Bool.not_eq_true', Bool.not_eq_false', decide_eq_false_iff_not] at *)
    unfold Good
    (try unfold Bare at *)
    cases wb
    all_goals
      simp only [Bool.false_eq_true, Bool.true_eq_false, true_and, false_and, and_true, and_false, or_false, false_or, or_true, true_or, decide_eq_true_eq, decide_eq_false_iff_not] at *
      omega
end Go.Proofs.YtaldlapnhhhclaaGreat.Pack
