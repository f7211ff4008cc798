/- Arrays of bytes, compared. Conditions: none. -/
import Derived.Test.YtpbcmghfhflkbaaCopy
import Derived.ChangeKeysEq
import Derived.Laws.StructEq
set_option linter.unusedVariables false
set_option linter.unusedSimpArgs false
namespace Go.Proofs.Ytpbcmghfhflkbaa.Tw
open Go.RowKit
section
variable {P : Program} (w : World)
theorem run_eqItems_bytes (d : Nat) {e : TypeId} (he : P.underlying e = some (.int .u8)) (a b : List UInt8) : ∀ is : List Nat, (∀ i ∈ is, i < a.length ∧ i < b.length) →
    (Op.eqItems (d + 1) e 1 (bytesV a).toArray (bytesV b).toArray is).run P w = .ok (is.all fun i => a[i]? == b[i]?) w
  | [], _ => by simp [Op.eqItems]
  | i :: is, h => by
    obtain ⟨h1, h2⟩ := h i (by simp)
    have hp : P.plainKey e = true := by simp [Program.plainKey, he]
    have ka : (bytesV a).toArray[i * 1]? = some (.int .u8 ((a[i]).toNat : Int)) := by simp [bytesV, h1]
    have kb : (bytesV b).toArray[i * 1]? = some (.int .u8 ((b[i]).toNat : Int)) := by simp [bytesV, h2]
    simp only [Op.eqItems, Sem.run_bind, run_part_plain w hp ka, run_part_plain w hp kb, Result.andThen_ok, run_equalIn_int w d e _ _ _ _ he]
    rw [List.all_cons, ← run_eqItems_bytes_aux a b h1 h2]
    cases hc : (((a[i]).toNat : Int) == ((b[i]).toNat : Int)) with
    | false => simp
    | true => simpa using run_eqItems_bytes d he a b is (fun j hj => h j (by simp [hj]))
where
  run_eqItems_bytes_aux {i : Nat} (a b : List UInt8) (h1 : i < a.length) (h2 : i < b.length) : (((a[i]).toNat : Int) == ((b[i]).toNat : Int)) = (a[i]? == b[i]?) := by
    rw [List.getElem?_eq_getElem h1, List.getElem?_eq_getElem h2, Bool.eq_iff_iff]
    simp only [beq_iff_eq, Option.some.injEq]
    constructor
    · intro h
      exact UInt8.toNat_inj.1 (by omega)
    · intro h
      rw [h]
theorem all_range_eq (a b : List UInt8) (h : a.length = b.length) : ((List.range a.length).all fun i => a[i]? == b[i]?) = decide (a = b) := by
  rw [Bool.eq_iff_iff]
  simp only [List.all_eq_true, List.mem_range, beq_iff_eq, decide_eq_true_eq]
  constructor
  · intro h2
    refine List.ext_getElem? fun i => ?_
    by_cases hi : i < a.length
    · exact h2 i hi
    · rw [List.getElem?_eq_none (by omega), List.getElem?_eq_none (by omega)]
  · intro h2 i _
    rw [h2]
theorem run_eql_barr {t e : TypeId} {n : Nat} (a b : List UInt8) (ha : a.length = n) (hb : b.length = n) (ht : P.underlying t = some (.array n e)) (he : P.underlying e = some (.int .u8)) (hs : (P.info? e).map (·.size) = some 1) :
    (Op.equalIn 10000 t (.agg (bytesV a).toArray) (.agg (bytesV b).toArray)).run P w = .ok (decide (a = b)) w := by
  cases hq : P.info? e with
  | none => simp [hq] at hs
  | some i =>
    have h1 : i.size = 1 := by simpa [hq] using hs
    rw [run_equalIn_array w 9999 _ _ ht hq, show P.cellsOf e = 1 by simp [Program.cellsOf, hq, h1]]
    subst ha
    rw [run_eqItems_bytes w 9998 he a b (List.range a.length) (fun i hi => by have := List.mem_range.1 hi; omega), all_range_eq a b hb.symm]
theorem run_neq_barr {t e : TypeId} {n : Nat} (a b : List UInt8) (ha : a.length = n) (hb : b.length = n) (ht : P.underlying t = some (.array n e)) (he : P.underlying e = some (.int .u8)) (hs : (P.info? e).map (·.size) = some 1) :
    (binOp .neq t (.agg (bytesV a).toArray) (.agg (bytesV b).toArray)).run P w = .ok (.bool (!decide (a = b))) w := by
  rw [run_neq_struct, run_eql_barr w a b ha hb ht he hs]
  rfl
theorem run_eq_barr {t e : TypeId} {n : Nat} (a b : List UInt8) (ha : a.length = n) (hb : b.length = n) (ht : P.underlying t = some (.array n e)) (he : P.underlying e = some (.int .u8)) (hs : (P.info? e).map (·.size) = some 1) :
    (binOp .eql t (.agg (bytesV a).toArray) (.agg (bytesV b).toArray)).run P w = .ok (.bool (decide (a = b))) w := by
  rw [run_eql_struct, run_eql_barr w a b ha hb ht he hs]
  rfl
end
end Go.Proofs.Ytpbcmghfhflkbaa.Tw
