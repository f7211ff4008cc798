/- The law TableNone: its argument opened. Conditions: none. -/
import Derived.Test.YtplemdgihlabgaaFlat
set_option linter.unusedVariables false
set_option linter.unusedSimpArgs false
namespace Go.Proofs.Ytplemdgihlabgaa.Table
open Go.RowKit Tw
set_option maxHeartbeats 1000000

def R64 (x : Int) : Prop := -9223372036854775808 ≤ x ∧ x ≤ 9223372036854775807
/-- an act as cells -/
def actV (k a x y z : Int) (A : Option Addr) (n cb : Nat) : List Value := [.int .i64 k, .int .i64 a, .int .i64 x, .int .i64 y, .int .i64 z, .slice A n cb]
theorem act_of {W : World} {r : List Value} (h : RowOk W [.int .i64, .int .i64, .int .i64, .int .i64, .int .i64, .bytes] r) :
    ∃ (k a x y z : Int) (A : Option Addr) (n cb : Nat) (b : List UInt8), r = actV k a x y z A n cb ∧ R64 k ∧ R64 a ∧ R64 x ∧ R64 y ∧ R64 z ∧ Byt W A n cb b := by
  obtain ⟨v1, r1, rfl, k1, h⟩ := rowOk_cons h
  obtain ⟨v2, r2, rfl, k2, h⟩ := rowOk_cons h
  obtain ⟨v3, r3, rfl, k3, h⟩ := rowOk_cons h
  obtain ⟨v4, r4, rfl, k4, h⟩ := rowOk_cons h
  obtain ⟨v5, r5, rfl, k5, h⟩ := rowOk_cons h
  obtain ⟨v6, r6, rfl, k6, h⟩ := rowOk_cons h
  obtain rfl := rowOk_nil h
  obtain ⟨z1, rfl, q1⟩ := leaf_i64 k1
  obtain ⟨z2, rfl, q2⟩ := leaf_i64 k2
  obtain ⟨z3, rfl, q3⟩ := leaf_i64 k3
  obtain ⟨z4, rfl, q4⟩ := leaf_i64 k4
  obtain ⟨z5, rfl, q5⟩ := leaf_i64 k5
  obtain ⟨A, n, cb, b, rfl, hb⟩ := k6
  exact ⟨z1, z2, z3, z4, z5, A, n, cb, b, rfl, q1, q2, q3, q4, q5, hb⟩
section
open Go.ChangeShapes Go.WideShapes Go.Deep
variable {H : Type} {enc : TypeId × Value → H} {P : Program} {W : World} {base : Nat} {spare : Nat → Bool} {held : Bool}
theorem open_act {r : Reach} {base2 : Nat} {t : TypeId} {v : Value} {d : DataW H} {ps : List MemPlace} (hL : flat P 4 t = some [.int .i64, .int .i64, .int .i64, .int .i64, .int .i64, .bytes]) (hc : P.cellsOf t = 6) (ht : (P.underlying t).map (·.isRow) = some true)
    (hv : Value.okWide P W r base2 t v) (h : DataW.Trod enc P W base spare held t v d ps) : ∃ (k a x y z : Int) (A : Option Addr) (n cb : Nat) (b : List UInt8), v = .agg (actV k a x y z A n cb).toArray ∧ R64 k ∧ R64 a ∧ R64 x ∧ R64 y ∧ R64 z ∧ Byt W A n cb b := by
  obtain ⟨cs, rfl, hr⟩ := open_agg 4 hL hc ht hv h
  obtain ⟨k, a, x, y, z, A, n, cb, b, rfl, q⟩ := act_of hr
  exact ⟨k, a, x, y, z, A, n, cb, b, rfl, q⟩
end
end Go.Proofs.Ytplemdgihlabgaa.Table
