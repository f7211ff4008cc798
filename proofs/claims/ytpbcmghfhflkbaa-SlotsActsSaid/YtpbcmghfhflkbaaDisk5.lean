/- Contracts of the package disk: Flush, Fuse. Conditions: at most 10^9 operations. -/
import Derived.Test.YtpbcmghfhflkbaaDisk4
import Derived.Maps.RangeWalk
import Derived.Deep.MidRow
import Derived.MapFrom
set_option linter.unusedVariables false
set_option linter.unusedSimpArgs false
namespace Go.Proofs.Ytpbcmghfhflkbaa.Disk
open Go.RowKit Tw Go.Maps Go.ChangeMaps
set_option maxHeartbeats 4000000
set_option maxRecDepth 100000

theorem run_clear_map {P : Program} {w : World} {k e t : TypeId} {b n : Nat} {D : DataW Value} {RR : Value → Option (DataW Value × List MemPlace)} (h : w.ownsMap P k RR b n D) (ht : P.underlying t = some (.map k e)) (ty : TypeId) :
    ∃ w', (Builtin.clear_ #[t] ty #[.map (some b)]).run P w = .ok (.tuple #[]) w' ∧ w'.ownsMap P k RR b 0 (.map []) ∧ w.grownBy w' (some b) := by
  obtain ⟨es, clock, hb, F, hs, hD⟩ := h
  have hrun : (Builtin.clear_ #[t] ty #[.map (some b)]).run P w = .ok (.tuple #[]) { w with heap := w.heap.setIfInBounds b (.map #[] clock) } := by
    simp [Builtin.clear_, run_underlying ht, MapKept.run_getObj_map hb, MapKept.run_setObj_map _ hb, Result.andThen]
  have h2 := MapKept.heap_set (o' := .map #[] clock) hb
  exact ⟨_, hrun, ⟨#[], clock, h2.1, ⟨by simp, MapKept.stamped_empty clock, by simp⟩, Nat.le_refl _, rfl⟩, ⟨rfl, rfl, rfl, by simp, fun k _ hn => h2.2 k (fun e => hn (by rw [e]))⟩⟩

theorem splice_cons (l : List Value) (o : Nat) (v : Value) (r : List Value) (h : o + (r.length + 1) ≤ l.length) : splice (l.set o v) (o + 1) r = splice l o (v :: r) := by
  unfold splice
  rw [List.length_cons]
  have h1 : (l.set o v).take (o + 1) = l.take o ++ [v] := by
    rw [List.take_set, List.take_succ_eq_append_getElem (by omega)]
    rw [List.set_append_right _ _ (by simp; omega)]
    simp [Nat.min_eq_left (show o ≤ l.length by omega)]
  have h2 : (l.set o v).drop (o + 1 + r.length) = l.drop (o + (r.length + 1)) := by
    rw [List.drop_set_of_lt (by omega)]
    congr 1
    omega
  rw [h1, h2]
  simp
theorem heap_setCells (g : Nat) (t : TypeId) : ∀ (vs : List Value) (w : World) (o : Nat) (cur : Array Value), w.heap[g]? = some (.cells cur t (0, 0)) → o + vs.length ≤ cur.size →
    ∃ cur', (w.setCells g o vs).heap[g]? = some (.cells cur' t (0, 0)) ∧ cur'.toList = splice cur.toList o vs ∧ cur'.size = cur.size ∧ w.grownBy (w.setCells g o vs) (some g)
  | [], w, o, cur, h, _ => ⟨cur, h, by simp [splice], rfl, World.grownBy.refl _ _⟩
  | v :: vs, w, o, cur, h, hl => by
    rw [List.length_cons] at hl
    have h1 := heap_setCell_same w g o cur t v h
    obtain ⟨cur', h2, h3, h4, h5⟩ := heap_setCells g t vs (w.setCell ⟨g, o, none⟩ v) (o + 1) _ h1 (by simp; omega)
    refine ⟨cur', h2, ?_, by simpa using h4, (grown_setCell w g o v).trans h5⟩
    rw [h3, Array.toList_setIfInBounds, splice_cons _ _ _ _ (by simpa using hl)]
/-- an element of several cells stored into a row of the call's own -/
theorem wpL_store_elem {P : Program} {ops : Array Oper} {rest : List Oper} {w : World} {o : Oper} {a : Act} {Q : Exit → Act → World → Prop} (hgd : o.guard = none) (hds : o.dst = none) (ty : TypeId) (x y : Operand)
    (ho : o.op = .store ty x y) (base : Nat) (e : TypeId) (sz g i n c : Nat) (hx : a.eval x = .pointer (some ⟨g, i * sz, none⟩)) (cs : List Value) (hcs : cs.length = sz) (hy : a.eval y = .agg cs.toArray) (hi : (P.info? ty).map (·.size) = some sz)
    (xs : List Value) (hown : Own w base e sz (some ⟨g, 0, none⟩) n c xs) (hin : i < n) (h1 : ∀ v ∈ cs, v.oneCell' = true) (ys : List Value) (hys : splice xs (i * sz) cs = ys)
    (h : ∀ w', Own w' base e sz (some ⟨g, 0, none⟩) n c ys → w.grownBy w' (some g) → wpList P ops Q rest a w') : wpList P ops Q (o :: rest) a w := by
  subst hys
  rcases hown.2 with ⟨hv, _⟩ | ⟨g', cap, cur, hv, hb, hh, hnc, hcm, hs, ht⟩
  · injection hv with h1
    cases h1
  · injection hv with h2 _ h3
    injection h2 with h2
    injection h2 with h2
    subst h2 h3
    have hle : i * sz + sz ≤ n * sz := by rw [← Nat.succ_mul]; exact Nat.mul_le_mul_right _ hin
    have hle2 : n * sz ≤ c * sz := Nat.mul_le_mul_right _ hnc
    have hthere : w.there g (i * sz) cs.toArray.size := fun j hj => ⟨by simp [World.cell?, hh]; simp at hj; omega, by simp [World.frozen?, hh]⟩
    refine wpList_store_mid hgd ty x y ho g (i * sz) cs.toArray hx hy hthere (by simpa [hcs] using hi) (Array.all_eq_true_iff_forall_mem.2 fun v hv => h1 v (by simpa using hv)) ?_
    rw [hds]
    obtain ⟨cur', q1, q2, q3, q4⟩ := heap_setCells g e cs w (i * sz) cur hh (by omega)
    refine h _ ⟨?_, .inr ⟨g, c, cur', rfl, hb, q1, hnc, hcm, q3.trans hs, ?_⟩⟩ q4
    · have := hown.1
      unfold splice
      simp
      omega
    · have hcl : cur.toList.length = c * sz := by simpa using hs
      rw [q2, ← ht]
      unfold splice
      rw [hcs]
      have e1 : ((cur.toList.take (n * sz)).take (i * sz)) = cur.toList.take (i * sz) := by rw [List.take_take, Nat.min_eq_left (by omega)]
      rw [e1, ← List.append_assoc, ← List.append_assoc, List.take_append, List.take_of_length_le (by simp; omega), List.drop_take]
      congr 2
      simp
      omega

/-- sectors one behind the other -/
def catS (f : Nat → Sec) (m : Nat) : List UInt8 := (List.range m).flatMap f
theorem catS_succ (f : Nat → Sec) (m : Nat) : catS f (m + 1) = catS f m ++ f m := by simp [catS, List.range_succ]
theorem catS_len {f : Nat → Sec} {m : Nat} (h : ∀ i, i < m → (f i).length = 16) : (catS f m).length = m * 16 := by
  induction m with
  | zero => rfl
  | succ m ih => rw [catS_succ, List.length_append, ih fun i hi => h i (by omega), h m (by omega)]; omega
theorem catS_congr {f g : Nat → Sec} {m : Nat} (h : ∀ i, i < m → f i = g i) : catS f m = catS g m := by
  induction m with
  | zero => rfl
  | succ m ih => rw [catS_succ, catS_succ, ih fun i hi => h i (by omega), h m (by omega)]
/-- one sector put in -/
theorem catS_put {f g : Nat → Sec} {m x : Nat} (hx : x < m) (hf : ∀ i, i < m → (f i).length = 16) (hs : (g x).length = 16) (h : ∀ i, i < m → i ≠ x → g i = f i) : splice (bytesV (catS f m)) (x * 16) (bytesV (g x)) = bytesV (catS g m) := by
  have key : (catS f m).take (x * 16) ++ (g x ++ (catS f m).drop (x * 16 + 16)) = catS g m := by
    induction m with
    | zero => omega
    | succ m ih =>
      have hl := catS_len (f := f) (m := m) (fun i hi => hf i (by omega))
      rw [catS_succ, catS_succ]
      by_cases hxm : x = m
      · subst hxm
        rw [List.take_left' hl, List.drop_append, hl, List.drop_eq_nil_of_le (by omega), List.nil_append, List.drop_eq_nil_of_le (by have := hf x (by omega); omega), List.append_nil]
        rw [catS_congr fun i hi => (h i (by omega) (by omega)).symm]
      · rw [List.take_append_of_le_length (by omega), List.drop_append_of_le_length (by omega), h m (by omega) (by omega)]
        rw [← ih (by omega) (fun i hi => hf i (by omega)) (fun i hi hn => h i (by omega) hn)]
        simp
  rw [← key]
  unfold splice
  simp only [bytesV_append, bytesV_length, hs, bytesV_take, bytesV_drop]
def cellAt (d : Dsk) (i : Nat) : Cl := d.cells.getD i c0
theorem flat_catS (l : List Cl) (f : Cl → Sec) : l.flatMap f = catS (fun i => f (l.getD i c0)) l.length := by
  have h : l = (List.range l.length).map (fun i => l.getD i c0) := List.ext_getElem (by simp) (fun i h1 h2 => by simp [List.getD_eq_getElem?_getD, h1])
  have h2 : l.flatMap f = ((List.range l.length).map (fun i => l.getD i c0)).flatMap f := by rw [← h]
  rw [h2, List.flatMap_map]
  rfl
end Go.Proofs.Ytpbcmghfhflkbaa.Disk
