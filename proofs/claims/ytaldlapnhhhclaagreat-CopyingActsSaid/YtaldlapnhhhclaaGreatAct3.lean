/- Acts of three cells (a kind, a place, a mask), and the operations of a put. Conditions: none. -/
import Derived.Test.YtaldlapnhhhclaaGreatB10
import Derived.Test.YtaldlapnhhhclaaGreatB11
set_option linter.unusedVariables false
set_option linter.unusedSimpArgs false
namespace Go.Proofs.YtaldlapnhhhclaaGreat.Act3
open Go.RowKit Tw Disk Slots
set_option maxHeartbeats 1000000
def actV (k a : Int) (m : Nat) : List Value := [.int .i64 k, .int .i64 a, .int .u64 (m : Int)]
def ActL : List Leaf := [.int .i64, .int .i64, .int .u64]
theorem act_of {W : World} {r : List Value} (h : RowOk W ActL r) :
    ∃ (k a : Int) (m : Nat), r = actV k a m ∧ (-9223372036854775808 ≤ a ∧ a ≤ 9223372036854775807) ∧ m < 18446744073709551616 := by
  obtain ⟨v1, r1, rfl, k1, h⟩ := rowOk_cons h
  obtain ⟨v2, r2, rfl, k2, h⟩ := rowOk_cons h
  obtain ⟨v3, r3, rfl, k3, h⟩ := rowOk_cons h
  obtain rfl := rowOk_nil h
  obtain ⟨z1, rfl, q1⟩ := leaf_i64 k1
  obtain ⟨z2, rfl, q2⟩ := leaf_i64 k2
  obtain ⟨z3, rfl, q3⟩ := leaf_u64 k3
  exact ⟨z1, z2, z3, rfl, q2, q3⟩
def act0 : Array Value := #[.int .i64 0, .int .i64 0, .int .u64 0]
theorem act_one {k a : Int} {m : Nat} : ∀ v ∈ (actV k a m).toArray, v.oneCell' = true := by simp [actV, Value.oneCell']
theorem act4 {W : World} {g : Nat} {k a : Int} {m : Nat} {t : TypeId} (h : W.heap[g]? = some (.cells (actV k a m).toArray t (0, 0))) :
    W.cell? ⟨g, 0, none⟩ = some (.int .i64 k) ∧ W.cell? ⟨g, 1, none⟩ = some (.int .i64 a) ∧ W.cell? ⟨g, 2, none⟩ = some (.int .u64 (m : Int)) :=
  ⟨cells_at h 0 _ rfl, cells_at h 1 _ rfl, cells_at h 2 _ rfl⟩
theorem rput_ops (b s : Int) (d : Dsk) (x : Nat) : (rput b s d x).1.ops ≤ d.ops + 2 := by
  have h := sput_ops d b s x
  unfold rput
  (repeat' split) <;> first | exact h | exact Nat.le_add_right _ _
theorem dclear_ops (d : Dsk) (x : Int) : (dclear d x).1.ops ≤ d.ops + 2 := by
  have h := fun m => rput_ops 6 2 d m
  unfold dclear dput
  (repeat' split) <;> exact h _
theorem mretire_ops (d : Dsk) (m : Nat) : (mretire d m).1.ops ≤ d.ops + 4 := by
  have h1 := fun d m => rput_ops 6 2 d m
  have h2 := fun d m => rput_ops 2 4 d m
  unfold mretire dput aput
  have ha := h1 d m
  have hb := h2 (rput 6 2 d m).1 0
  (repeat' split) <;> omega
end Go.Proofs.YtaldlapnhhhclaaGreat.Act3
