/- Slices of byte slices, read; contracts of few and raw. Conditions: none. -/
import Derived.Test.YtdpggcpbgfancaaVolJ
set_option linter.unusedVariables false
set_option linter.unusedSimpArgs false
namespace Go.Proofs.Ytdpggcpbgfancaa.Vol
open Go.RowKit Tw
set_option maxHeartbeats 2000000
set_option maxRecDepth 100000

/-- the slice reads these rows of bytes -/
structure SlIn (w : World) (A : Option Addr) (n c : Nat) (l : List (List UInt8)) : Prop where
  len : l.length = n
  le : n ≤ c
  cap : c ≤ maxLen
  at_ : ∀ i t, l[i]? = some t → ∃ ad A' n' c', A = some ad ∧ w.cell? (ad.add i) = some (.slice A' n' c') ∧ Byt w A' n' c' t
theorem SlIn.below {w w' : World} {A : Option Addr} {n c : Nat} {l : List (List UInt8)} (h : SlIn w A n c l) {B : Nat} (hb : Below B w w') (hB : w.heap.size ≤ B) : SlIn w' A n c l :=
  ⟨h.len, h.le, h.cap, fun i t hi => by
    obtain ⟨ad, A', n', c', h1, h2, h3⟩ := h.at_ i t hi
    refine ⟨ad, A', n', c', h1, ?_, h3.below hb hB⟩
    have := block_lt_of_cell h2
    rw [hb.cell (by omega)]
    exact h2⟩
theorem SlIn.bel {w w' : World} {A : Option Addr} {n c : Nat} {l : List (List UInt8)} (h : SlIn w A n c l) (hb : Below w.heap.size w w') : SlIn w' A n c l := h.below hb (Nat.le_refl _)
theorem pisV_length (l : List Pi) : (pisV l).length = l.length * 4 := by
  induction l with
  | nil => rfl
  | cons p l ih => rw [pisV, List.flatMap_cons, List.length_append]; have : (l.flatMap piV).length = l.length * 4 := ih; rw [this, List.length_cons]; simp [piV]; omega
theorem pisV_snoc (l : List Pi) (p : Pi) : pisV l ++ piV p = pisV (l ++ [p]) := by simp [pisV]
theorem pisV_get {l : List Pi} {k j : Nat} {p : Pi} {v : Value} (hp : l[k]? = some p) (hv : (piV p)[j]? = some v) : (pisV l)[k * 4 + j]? = some v := by
  induction l generalizing k with
  | nil => simp at hp
  | cons q l ih =>
    have hj : j < 4 := by have := (List.getElem?_eq_some_iff.1 hv).1; simpa [piV] using this
    cases k with
    | zero =>
      simp at hp
      subst hp
      rw [pisV, List.flatMap_cons, List.getElem?_append_left (by simp [piV]; omega)]
      simpa using hv
    | succ k =>
      simp at hp
      rw [pisV, List.flatMap_cons, List.getElem?_append_right (by simp [piV]; omega)]
      have := ih hp
      rw [pisV] at this
      rw [show (k + 1) * 4 + j - (piV q).length = k * 4 + j from by simp [piV]; omega]
      exact this
/-- the pieces' slice at its k-th piece -/
theorem pi_at {w : World} {A : Option Addr} {n c : Nat} {l : List Pi} {k : Nat} {p : Pi} (h : Rd w 4 A n c (pisV l)) (hp : l[k]? = some p) : ∃ ad, A = some ad ∧ ∀ j v, (piV p)[j]? = some v → w.cell? ((ad.add (k * 4)).add j) = some v := by
  cases A with
  | none =>
    have h0 := h.nil rfl
    have hl := h.le
    have hlen := h.len
    rw [pisV_length] at hlen
    have := (List.getElem?_eq_some_iff.1 hp).1
    omega
  | some ad =>
    refine ⟨ad, rfl, fun j v hv => ?_⟩
    rw [add_add]
    exact h.cell ad rfl _ _ (pisV_get hp hv)

def Few (n m : Nat) (tl : List (List UInt8)) : Prop := n ≤ 40 ∧ m ≤ 40 ∧ ∀ (i : Nat) (t : List UInt8), tl[i]? = some t → t.length ≤ 200
/-- what few answers -/
def FewR (n m : Nat) (tl : List (List UInt8)) (e : Ending) : Prop := e = .returned (.bool false) ∨ e = .returned (.bool true) ∧ Few n m tl
end Go.Proofs.Ytdpggcpbgfancaa.Vol
