/- Contracts: two requests, and two rows of requests, that are the same. Conditions: none. -/
import Derived.Test.YtdpggcpbgfancaaVolReads
set_option linter.unusedVariables false
set_option linter.unusedSimpArgs false
namespace Go.Proofs.Ytdpggcpbgfancaa.Vol
open Go.RowKit Tw
set_option maxHeartbeats 2000000
set_option maxRecDepth 100000

abbrev Rq := Nat × Nat × Nat × List UInt8
def cellsOf (r : Rq) (A : Option Addr) (n c : Nat) : List Value := [.int .i64 (r.1 : Int), .int .i64 (r.2.1 : Int), .int .i64 (r.2.2.1 : Int), .slice A n c]
/-- the slice reads these requests -/
structure RqIn (w : World) (A : Option Addr) (n c : Nat) (l : List Rq) : Prop where
  len : l.length = n
  le : n ≤ c
  cap : c ≤ maxLen
  at_ : ∀ i r, l[i]? = some r → ∃ ad A' n' c', A = some ad ∧ (∀ j v, (cellsOf r A' n' c')[j]? = some v → w.cell? ((ad.add (i * 4)).add j) = some v) ∧ Byt w A' n' c' r.2.2.2
theorem RqIn.below {w w' : World} {A : Option Addr} {n c : Nat} {l : List Rq} (h : RqIn w A n c l) {B : Nat} (hb : Below B w w') (hB : w.heap.size ≤ B) : RqIn w' A n c l :=
  ⟨h.len, h.le, h.cap, fun i r hi => by
    obtain ⟨ad, A', n', c', h1, h2, h3⟩ := h.at_ i r hi
    refine ⟨ad, A', n', c', h1, fun j v hv => ?_, h3.below hb hB⟩
    have hc := h2 j v hv
    have := block_lt_of_cell hc
    rw [hb.cell (by omega)]
    exact hc⟩
theorem rqsV_get {l : List Pc} {k j : Nat} {p : Pc} {v : Value} (hp : l[k]? = some p) (hv : (rqV p)[j]? = some v) : (rqsV l)[k * 4 + j]? = some v := by
  induction l generalizing k with
  | nil => simp at hp
  | cons q l ih =>
    have hj : j < 4 := by have := (List.getElem?_eq_some_iff.1 hv).1; simpa [rqV] using this
    cases k with
    | zero =>
      simp at hp
      subst hp
      rw [rqsV, List.flatMap_cons, List.getElem?_append_left (by simp [rqV]; omega)]
      simpa using hv
    | succ k =>
      simp at hp
      rw [rqsV, List.flatMap_cons, List.getElem?_append_right (by simp [rqV]; omega)]
      have := ih hp
      rw [rqsV] at this
      rw [show (k + 1) * 4 + j - (rqV q).length = k * 4 + j from by simp [rqV]; omega]
      exact this
theorem RqIn.of_reads {w : World} {base : Nat} {e : TypeId} {A : Option Addr} {n c : Nat} {l : List Pc} (h : Tw.Own w base e 4 A n c (rqsV l)) (hl : l.length = n) : RqIn w A n c (l.map fun p => (0, p.1, p.2.1, [])) := by
  have hr := h.rd
  refine ⟨by simpa using hl, hr.le, hr.cap, fun i r hi => ?_⟩
  rw [List.getElem?_map] at hi
  cases hp : l[i]? with
  | none => rw [hp] at hi; cases hi
  | some p =>
    rw [hp] at hi
    simp at hi
    subst hi
    have hin := (List.getElem?_eq_some_iff.1 hp).1
    obtain ⟨ad, rfl⟩ : ∃ ad, A = some ad := by
      cases A with
      | none => have := hr.nil rfl; have := hr.le; omega
      | some ad => exact ⟨ad, rfl⟩
    refine ⟨ad, none, 0, 0, rfl, fun j v hv => ?_, Rd.nil_⟩
    rw [add_add]
    exact hr.cell ad rfl _ _ (rqsV_get hp hv)

end Go.Proofs.Ytdpggcpbgfancaa.Vol
