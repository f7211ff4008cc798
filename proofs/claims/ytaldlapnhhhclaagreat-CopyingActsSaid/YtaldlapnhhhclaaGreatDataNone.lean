/- The law DataNone, walked; its argument opened. Conditions: none. -/
import Derived.Test.YtaldlapnhhhclaaGreatData5
set_option linter.unusedVariables false
set_option linter.unusedSimpArgs false
namespace Go.Proofs.YtaldlapnhhhclaaGreat.Data
open Go.RowKit Tw Disk
set_option maxHeartbeats 4000000
set_option maxRecDepth 100000

/-- an act as cells -/
def actV (k a : Int) (m : Nat) (x y : Int) (A : Option Addr) (n cb : Nat) : List Value := [.int .i64 k, .int .i64 a, .int .u64 (m : Int), .int .i64 x, .int .i64 y, .slice A n cb]
def R64 (x : Int) : Prop := -9223372036854775808 ≤ x ∧ x ≤ 9223372036854775807
theorem act_of {W : World} {r : List Value} (h : RowOk W [.int .i64, .int .i64, .int .u64, .int .i64, .int .i64, .bytes] r) :
    ∃ (k a : Int) (m : Nat) (x y : Int) (A : Option Addr) (n cb : Nat) (b : List UInt8), r = actV k a m x y A n cb ∧ R64 k ∧ R64 a ∧ R64 x ∧ R64 y ∧ Byt W A n cb b := by
  obtain ⟨v1, r1, rfl, k1, h⟩ := rowOk_cons h
  obtain ⟨v2, r2, rfl, k2, h⟩ := rowOk_cons h
  obtain ⟨v3, r3, rfl, k3, h⟩ := rowOk_cons h
  obtain ⟨v4, r4, rfl, k4, h⟩ := rowOk_cons h
  obtain ⟨v5, r5, rfl, k5, h⟩ := rowOk_cons h
  obtain ⟨v6, r6, rfl, k6, h⟩ := rowOk_cons h
  obtain rfl := rowOk_nil h
  obtain ⟨z1, rfl, q1⟩ := leaf_i64 k1
  obtain ⟨z2, rfl, q2⟩ := leaf_i64 k2
  obtain ⟨z3, rfl, _⟩ := leaf_u64 k3
  obtain ⟨z4, rfl, q4⟩ := leaf_i64 k4
  obtain ⟨z5, rfl, q5⟩ := leaf_i64 k5
  obtain ⟨A, n, cb, b, rfl, hb⟩ := k6
  exact ⟨z1, z2, z3, z4, z5, A, n, cb, b, rfl, q1, q2, q4, q5, hb⟩
theorem act_cells {w : World} {g : Nat} {t : TypeId} {v0 v1 v2 v3 v4 v5 : Value} (h : w.heap[g]? = some (.cells #[v0, v1, v2, v3, v4, v5] t (0, 0))) :
    w.cell? ⟨g, 1, none⟩ = some v1 ∧ w.cell? ⟨g, 3, none⟩ = some v3 ∧ w.cell? ⟨g, 4, none⟩ = some v4 ∧ w.cell? ⟨g, 5, none⟩ = some v5 := ⟨cells_of h 1 _ rfl, cells_of h 3 _ rfl, cells_of h 4 _ rfl, cells_of h 5 _ rfl⟩
section
open Go.ChangeShapes Go.WideShapes Go.Deep
variable {H : Type} {enc : TypeId × Value → H} {P : Program} {W : World} {base : Nat} {spare : Nat → Bool} {held : Bool}
theorem open_act {r : Reach} {base2 : Nat} {t : TypeId} {v : Value} {d : DataW H} {ps : List MemPlace} (hL : flat P 4 t = some [.int .i64, .int .i64, .int .u64, .int .i64, .int .i64, .bytes]) (hc : P.cellsOf t = 6) (ht : (P.underlying t).map (·.isRow) = some true)
    (hv : Value.okWide P W r base2 t v) (h : DataW.Trod enc P W base spare held t v d ps) : ∃ (k a : Int) (m : Nat) (x y : Int) (A : Option Addr) (n cb : Nat) (b : List UInt8), v = .agg (actV k a m x y A n cb).toArray ∧ R64 k ∧ R64 a ∧ R64 x ∧ R64 y ∧ Byt W A n cb b := by
  obtain ⟨cs, rfl, hr⟩ := open_agg 4 hL hc ht hv h
  obtain ⟨k, a, m, x, y, A, n, cb, b, rfl, q⟩ := act_of hr
  exact ⟨k, a, m, x, y, A, n, cb, b, rfl, q⟩
end
end Go.Proofs.YtaldlapnhhhclaaGreat.Data
