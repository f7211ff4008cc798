/- More arguments of a law, opened: an array of bytes. Conditions: none. -/
import Derived.Test.YtlfphoablloodaaOpen
import Derived.OpenShut
import Derived.Test.YtlfphoablloodaaActs
namespace Go.Proofs.Ytlfphoablloodaa.Tw
open Go.RowKit Go.ChangeShapes Go.WideShapes Go.Deep
section
variable {H : Type} {enc : TypeId × Value → H} {P : Program} {w : World} {r : Reach} {base : Nat} {spare : Nat → Bool} {held : Bool}
theorem okWide_array {t e : TypeId} {n : Nat} {v : Value} (ht : P.underlying t = some (.array n e)) (h : Value.okWide P w r base t v) : ∃ cs, v = .agg cs ∧ cs.size = P.cellsOf t := by
  simp only [Value.okWide, ht] at h
  obtain ⟨cs, h1, h2, _⟩ := h
  exact ⟨cs, h1, h2⟩
theorem bytes_cells : ∀ (n : Nat) (cs : List Value), cs.length = n → (∀ i, i < n → ∃ x : UInt8, cs[i]? = some (.int .u8 (x.toNat : Int))) → ∃ l : List UInt8, l.length = n ∧ cs = bytesV l
  | 0, cs, hl, _ => ⟨[], rfl, by simpa [bytesV] using hl⟩
  | n + 1, c :: cs, hl, h => by
    obtain ⟨l, h1, h2⟩ := bytes_cells n cs (by simpa using hl) (fun i hi => by simpa using h (i + 1) (by omega))
    obtain ⟨x, hx⟩ := h 0 (by omega)
    simp at hx
    exact ⟨x :: l, by simp [h1], by rw [bytesV_cons, hx, h2]⟩
  | n + 1, [], hl, _ => by simp at hl
theorem open_barray {base2 : Nat} {t e : TypeId} {n : Nat} {v : Value} {d : DataW H} {ps : List MemPlace} (ht : P.underlying t = some (.array n e)) (he : P.underlying e = some (.int .u8)) (hc : P.cellsOf e = 1) (hct : P.cellsOf t = n)
    (hv : Value.okWide P w r base2 t v) (h : DataW.Trod enc P w base spare held t v d ps) : ∃ l : List UInt8, l.length = n ∧ v = .agg (bytesV l).toArray := by
  obtain ⟨cs, rfl, hcs⟩ := okWide_array ht hv
  obtain ⟨fuel, hf⟩ := h
  obtain ⟨xs, m, _, _, _, hxl, hg⟩ := DataW.trod_array ht hf
  rw [hct] at hcs
  obtain ⟨l, hl, h2⟩ := bytes_cells n cs.toList (by simpa using hcs) (fun i hi => by
    have h1 := hg i hi
    rw [hc, Nat.mul_one, List.getElem?_eq_getElem (by omega)] at h1
    have h3 : ((Value.cells (.agg cs)).toList.drop i).take 1 = [cs[i]'(by omega)] := by
      show (cs.toList.drop i).take 1 = _
      rw [List.drop_eq_getElem_cons (by simpa using (by omega : i < cs.size))]
      simp
    rw [h3] at h1
    obtain ⟨z, e1, _, hz⟩ := DataW.trod_int he h1
    simp at e1
    obtain ⟨x, rfl, hx⟩ := wf_u8 hz
    refine ⟨UInt8.ofNat x, ?_⟩
    simp [e1, hcs, hi]
    omega)
  refine ⟨l, hl, ?_⟩
  rw [← h2]
/-- a struct of four numbers -/
theorem open_turn {base2 : Nat} {t : TypeId} {f0 f1 f2 f3 : Field} {v : Value} {d : DataW H} {ps : List MemPlace} (ht : P.underlying t = some (.struct #[f0, f1, f2, f3])) (hone : oneCellFields P #[f0, f1, f2, f3] = true) (hct : P.cellsOf t = 4)
    (h0 : P.underlying f0.type = some (.int .u32)) (h1 : P.underlying f1.type = some (.int .u64)) (h2 : P.underlying f2.type = some (.int .i64)) (h3 : P.underlying f3.type = some (.int .u32))
    (hv : Value.okWide P w r base2 t v) (h : DataW.Trod enc P w base spare held t v d ps) :
    ∃ (x y : Nat) (z : Int) (q : Nat), v = .agg #[.int .u32 (x : Int), .int .u64 (y : Int), .int .i64 z, .int .u32 (q : Int)] ∧ x < 4294967296 ∧ y < 18446744073709551616 ∧ (-9223372036854775808 ≤ z ∧ z ≤ 9223372036854775807) ∧ q < 4294967296 := by
  obtain ⟨cs, rfl, hcs⟩ := okWide_struct ht hv
  rw [hct] at hcs
  obtain ⟨fuel, hf⟩ := h
  have hf2 : DataW.trod enc P w base spare held fuel t cs.toList = some (d, ps) := hf
  obtain ⟨ys, n2, _, _, _, hyl, hg⟩ := DataW.trod_struct ht hf2
  have hyl4 : ys.length = 4 := hyl
  have hcl : cs.toList.length = 4 := by simpa using hcs
  have g0 := hg 0 f0 rfl
  have g1 := hg 1 f1 rfl
  have g2 := hg 2 f2 rfl
  have g3 := hg 3 f3 rfl
  rw [List.getElem?_eq_getElem (by omega)] at g0 g1 g2 g3
  have k0 := one_cell hone (j := 0) rfl (by omega) g0
  have k1 := one_cell hone (j := 1) rfl (by omega) g1
  have k2 := one_cell hone (j := 2) rfl (by omega) g2
  have k3 := one_cell hone (j := 3) rfl (by omega) g3
  obtain ⟨z0, e0, _, w0⟩ := DataW.trod_int h0 k0
  obtain ⟨z1, e1, _, w1⟩ := DataW.trod_int h1 k1
  obtain ⟨z2, e2, _, w2⟩ := DataW.trod_int h2 k2
  obtain ⟨z3, e3, _, w3⟩ := DataW.trod_int h3 k3
  simp only [List.cons.injEq, and_true] at e0 e1 e2 e3
  obtain ⟨x, rfl, hx⟩ := wf_u32 w0
  obtain ⟨y, rfl, hy⟩ := wf_u64 w1
  obtain ⟨q, rfl, hq⟩ := wf_u32 w3
  refine ⟨x, y, z2, q, ?_, hx, hy, wf_i64 w2, hq⟩
  have : cs.toList = [cs.toList[0], cs.toList[1], cs.toList[2], cs.toList[3]] := by
    refine List.ext_getElem (by simpa using hcl) fun i h1 h2 => ?_
    have : i < 4 := by omega
    obtain rfl | rfl | rfl | rfl : i = 0 ∨ i = 1 ∨ i = 2 ∨ i = 3 := by omega
    all_goals rfl
  rw [e0, e1, e2, e3] at this
  congr 1
  apply Array.ext'
  simpa using this
end
end Go.Proofs.Ytlfphoablloodaa.Tw
