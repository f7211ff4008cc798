/- Contracts of the package pack: bare, sectors, Good of both. Conditions: none. -/
import Derived.Test.YtaldlapnhhhclaaGreatPack
set_option linter.unusedVariables false
set_option linter.unusedSimpArgs false
namespace Go.Proofs.YtaldlapnhhhclaaGreat.Pack
open Go.RowKit Tw
set_option maxHeartbeats 8000000
set_option maxRecDepth 100000
theorem cells5 {w : World} {g : Nat} {t : TypeId} {v0 v1 v2 v3 v4 : Value} (h : w.heap[g]? = some (.cells #[v0, v1, v2, v3, v4] t (0, 0))) :
    w.cell? ⟨g, 0, none⟩ = some v0 ∧ w.cell? ⟨g, 1, none⟩ = some v1 ∧ w.cell? ⟨g, 2, none⟩ = some v2 ∧ w.cell? ⟨g, 3, none⟩ = some v3 ∧ w.cell? ⟨g, 4, none⟩ = some v4 := by
  simp [World.cell?, h]
def Bare (a b c d : Bool) (i o : Int) (m : Nat) (wb : Bool) (n : Nat) : Prop := (a = true ∨ wb = false ∧ m = 0) ∧ (b = true ∨ i = 0) ∧ (c = true ∨ o = 0) ∧ (d = true ∨ n = 0)
instance (a b c d : Bool) (i o : Int) (m : Nat) (wb : Bool) (n : Nat) : Decidable (Bare a b c d i o m wb n) := by unfold Bare; infer_instance
theorem c_bare (s : ByteArray) (a b c d : Bool) (k i o : Int) (m : Nat) (wb : Bool) (A : Option Addr) (n cp : Nat) (w : World) :
    Calls Tryz.prog 141 #[.agg #[.string s, .bool a, .bool b, .bool c, .bool d], .agg #[.int .i64 k, .int .i64 i, .int .i64 o, .int .u64 (m : Int), .bool wb, .slice A n cp]] w fun e w' => e = .returned (.bool (decide (Bare a b c d i o m wb n))) ∧ Below w.heap.size w w' := by
  obtain ⟨W2, hW2, x1, x2, hB⟩ := Bx.two_boxes w (.cells #[.string s, .bool a, .bool b, .bool c, .bool d] 205) (.cells #[.int .i64 k, .int .i64 i, .int .i64 o, .int .u64 (m : Int), .bool wb, .slice A n cp] 25)
  have HB := Lib.hid hB
  obtain ⟨M, hM⟩ : ∃ M : Int, (m : Int) = M := ⟨_, rfl⟩
  obtain ⟨l0, l1, l2, l3, l4⟩ := cells5 x1
  obtain ⟨k0, k1, k2, k3, k4, k5⟩ := Bx.cells6 x2
  rw [hM] at k3
  have HM := Lib.hid hM
  clear x1 x2 hB hM
  go_enter Tryz.func141, Tryz.ntmps141
  go_upto_block 0 with (fail)
  rw [← hW2]
  clear hW2
  rw [HM.out]
  go_wp2_with fail
  all_goals
    go_ret
    refine ⟨Span.ret_bool rfl ?_, HB.out⟩
    rw [Bool.eq_iff_iff]
    have hM := HM.out
    clear k0 k1 k2 k3 k4 k5 l0 l1 l2 l3 l4 HB HM
    simp only [decide_eq_true_eq, Bool.false_eq_true, Bool.true_eq_false, true_iff, false_iff]
    (try simp only [beq_iff_eq, bne_iff_ne, beq_eq_false_iff_ne, bne_eq_false_iff_eq, Bool.not_eq_true, Bool.not_eq_false, Bool.not_eq_true', Bool.not_eq_false', Bool.or_eq_true, Bool.and_eq_true, Bool.or_eq_false_iff, Bool.and_eq_false_iff] at *)
    unfold Bare
    first
      | (simp_all; done)
      | (simp_all; omega)
end Go.Proofs.YtaldlapnhhhclaaGreat.Pack
