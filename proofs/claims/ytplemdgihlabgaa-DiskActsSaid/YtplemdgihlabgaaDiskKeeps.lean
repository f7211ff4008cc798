/- The law DiskKeeps, walked. Conditions: none. -/
import Derived.Test.YtplemdgihlabgaaDiskFuse
import Derived.Test.YtplemdgihlabgaaDiskNone
import Derived.Test.YtplemdgihlabgaaSlRows
set_option linter.unusedVariables false
set_option linter.unusedSimpArgs false
namespace Go.Proofs.Ytplemdgihlabgaa.Disk
open Go.RowKit Tw Go.Maps Go.ChangeMaps
set_option maxHeartbeats 4000000
set_option maxRecDepth 100000

/-- what is kept -/
structure KI (d : Dsk) (x : Nat) (s : Sec) (o : Nat) : Prop where
  len : d.cells.length = 12
  cell : d.cells[x]? = some (s, none)
  ops : d.ops ≤ o
theorem spend_ops (d : Dsk) : d.spend.1.ops ≤ d.ops + 1 := by
  unfold Dsk.spend Dsk.burn
  (repeat' split) <;> simp_all
theorem ki_write {d : Dsk} {x : Nat} {s : Sec} {o : Nat} (h : KI d x s o) (y : Int) (hy : y ≠ (x : Int)) (t : Sec) : KI (d.write y t).1 x s (o + 1) := by
  have ho := spend_ops d
  unfold Dsk.write
  split
  · rename_i hh
    have hyy := (has_iff d y).1 hh
    split
    · refine ⟨by simp [Dsk.put, spend_cells, h.len], ?_, by show d.spend.1.ops ≤ o + 1; have := h.ops; omega⟩
      show (d.spend.1.cells.set y.toNat _)[x]? = _
      rw [List.getElem?_set_ne (by omega), spend_cells]
      exact h.cell
    · exact ⟨by rw [spend_cells]; exact h.len, by rw [spend_cells]; exact h.cell, by have := h.ops; omega⟩
  · exact ⟨h.len, h.cell, by have := h.ops; simp only; omega⟩
theorem ki_flush {d : Dsk} {x : Nat} {s : Sec} {o : Nat} (h : KI d x s o) : KI d.flush.1 x s (o + 1) := by
  have ho := spend_ops d
  unfold Dsk.flush
  split
  · refine ⟨by simp [Dsk.allSafe, spend_cells, h.len], ?_, by show d.spend.1.ops ≤ o + 1; have := h.ops; omega⟩
    show (d.spend.1.cells.map _)[x]? = _
    rw [List.getElem?_map, spend_cells, h.cell]
    rfl
  · exact ⟨by rw [spend_cells]; exact h.len, by rw [spend_cells]; exact h.cell, by have := h.ops; omega⟩
theorem ki_fuse {d : Dsk} {x : Nat} {s : Sec} {o : Nat} (h : KI d x s o) (k : Int) : KI (d.setFuse k) x s (o + 1) := ⟨h.len, h.cell, Nat.le_succ_of_le h.ops⟩
theorem ki_crash {d : Dsk} {x : Nat} {s : Sec} {o : Nat} (h : KI d x s o) (mask : Nat) : (d.crash mask).durableAt (x : Int) = s ∧ (d.crash mask).cached = [] ∧ (d.crash mask).broken = false ∧ (d.crash mask).flush.2 = 0 := by
  have hx := (List.getElem?_eq_some_iff.1 h.cell).1
  have hk := keep_get mask d.cells 0 x s h.cell
  refine ⟨?_, crash_cached d mask, rfl, ?_⟩
  · unfold Dsk.durableAt
    rw [if_pos ((has_iff _ _).2 ⟨Int.natCast_nonneg x, by simp only [Dsk.crash, keep_len]; omega⟩)]
    unfold Dsk.cell
    rw [Int.toNat_natCast, List.getD_eq_getElem?_getD]
    simp only [Dsk.crash]
    rw [hk]
    rfl
  · unfold Dsk.flush Dsk.spend Dsk.burn
    simp [Dsk.crash]
theorem ki_start (x : Nat) (hx : x < 12) (s : Sec) : ∃ d1 d2, (Dsk.new 12).write (x : Int) s = (d1, 0) ∧ d1.flush = (d2, 0) ∧ d1.ops = 1 ∧ KI d2 x s 2 := by
  have hs : (Dsk.new 12).spend = ({ Dsk.new 12 with ops := 1 }, 0) := by
    unfold Dsk.spend Dsk.burn
    simp [Dsk.new]
  have hw : (Dsk.new 12).write (x : Int) s = (({ Dsk.new 12 with ops := 1 } : Dsk).put (x : Int) s, 0) := by
    unfold Dsk.write
    rw [if_pos ((has_iff _ _).2 (by simp [Dsk.new]; omega)), hs]
    rfl
  refine ⟨_, _, hw, rfl, rfl, ?_⟩
  refine ⟨by simp [Dsk.flush, Dsk.spend, Dsk.burn, Dsk.put, Dsk.new, Dsk.allSafe], ?_, by simp [Dsk.flush, Dsk.spend, Dsk.burn, Dsk.put, Dsk.new, Dsk.allSafe]⟩
  simp [Dsk.flush, Dsk.spend, Dsk.burn, Dsk.put, Dsk.new, Dsk.allSafe, hx, view]
/-- the beginning as cells -/
def keptV (a : Int) (s : Sec) (m : Nat) : List Value := [.int .i64 a] ++ (bytesV s ++ [.int .u64 (m : Int)])
theorem kept_of {W : World} {r : List Value} (h : RowOk W ([.int .i64] ++ (List.replicate 16 (.int .u8) ++ [.int .u64])) r) :
    ∃ (a : Int) (s : Sec) (m : Nat), r = keptV a s m ∧ (-9223372036854775808 ≤ a ∧ a ≤ 9223372036854775807) ∧ s.length = 16 ∧ m < 18446744073709551616 := by
  obtain ⟨v2, r2, rfl, k2, h2⟩ := rowOk_cons h
  obtain ⟨s, r3, hs, rfl, h3⟩ := rowOk_u8s h2
  obtain ⟨v4, r4, rfl, k4, h4⟩ := rowOk_cons h3
  obtain rfl := rowOk_nil h4
  obtain ⟨z2, rfl, q2⟩ := leaf_i64 k2
  obtain ⟨m, rfl, hm⟩ := leaf_u64 k4
  exact ⟨z2, s, m, rfl, q2, hs, hm⟩
section
open Go.ChangeShapes Go.WideShapes Go.Deep
variable {H : Type} {enc : TypeId × Value → H} {P : Program} {W : World} {base : Nat} {spare : Nat → Bool} {held : Bool}
theorem open_kept {r : Reach} {base2 : Nat} {t : TypeId} {v : Value} {d : DataW H} {ps : List MemPlace} (hL : flat P 4 t = some ([.int .i64] ++ (List.replicate 16 (.int .u8) ++ [.int .u64]))) (hc : P.cellsOf t = 18) (ht : (P.underlying t).map (·.isRow) = some true)
    (hv : Value.okWide P W r base2 t v) (h : DataW.Trod enc P W base spare held t v d ps) : ∃ (a : Int) (s : Sec) (m : Nat), v = .agg (keptV a s m).toArray ∧ (-9223372036854775808 ≤ a ∧ a ≤ 9223372036854775807) ∧ s.length = 16 ∧ m < 18446744073709551616 := by
  obtain ⟨cs, rfl, hr⟩ := open_agg 4 hL hc ht hv h
  obtain ⟨a, s, m, rfl, q⟩ := kept_of hr
  exact ⟨a, s, m, rfl, q⟩
end
end Go.Proofs.Ytplemdgihlabgaa.Disk
