/- Slices of structs that came in: their elements' cells. Conditions: none. -/
import Derived.Test.YtpbcmghfhflkbaaFlat
import Derived.Test.YtpbcmghfhflkbaaFrame
set_option linter.unusedVariables false
set_option linter.unusedSimpArgs false
namespace Go.Proofs.Ytpbcmghfhflkbaa.Tw
open Go.RowKit
/-- The slice reads as rows of k cells each. -/
structure SlRows (w : World) (k : Nat) (A : Option Addr) (n c : Nat) (rows : List (List Value)) : Prop where
  len : rows.length = n
  le : n ≤ c
  cap : c ≤ maxLen
  nil : A = none → c = 0
  wide : ∀ (i : Nat) (r : List Value), rows[i]? = some r → r.length = k
  cell : ∀ ad, A = some ad → ∀ (i : Nat) (r : List Value), rows[i]? = some r → ∀ (j : Nat) (v : Value), r[j]? = some v → w.cell? ((ad.add (i * k)).add j) = some v
section
variable {w w' : World} {k n c : Nat} {A : Option Addr} {rows : List (List Value)}
theorem SlRows.bel (h : SlRows w k A n c rows) (hb : Below w.heap.size w w') : SlRows w' k A n c rows :=
  ⟨h.len, h.le, h.cap, h.nil, h.wide, fun ad e i r hr j v hv => by
    have hc := h.cell ad e i r hr j v hv
    rw [hb.cell (block_lt_of_cell hc)]
    exact hc⟩
theorem SlRows.at (h : SlRows w k A n c rows) {i : Nat} (hi : i < n) : ∃ ad r, A = some ad ∧ rows[i]? = some r ∧ r.length = k ∧ ∀ (j : Nat) (v : Value), r[j]? = some v → w.cell? ((ad.add (i * k)).add j) = some v := by
  have hl : i < rows.length := by rw [h.len]; exact hi
  have hr : rows[i]? = some rows[i] := List.getElem?_eq_getElem hl
  cases hA : A with
  | none => have := h.nil hA; have := h.le; omega
  | some ad => exact ⟨ad, _, rfl, hr, h.wide i _ hr, h.cell ad hA i _ hr⟩
end
section
open Go.ChangeShapes Go.WideShapes Go.Deep
variable {H : Type} {enc : TypeId × Value → H} {P : Program} {W : World} {base : Nat} {spare : Nat → Bool} {held : Bool}
theorem open_slrows {t e : TypeId} {A : Option Addr} {n c : Nat} {d : DataW H} {ps : List MemPlace} (k : Nat) {L : List Leaf} (ht : P.underlying t = some (.slice e)) (hL : flat P k e = some L) (hc : P.cellsOf e = L.length)
    (h : DataW.Trod enc P W base spare held t (.slice A n c) d ps) : ∃ rows : List (List Value), SlRows W L.length A n c rows ∧ ∀ (i : Nat) (r : List Value), rows[i]? = some r → RowOk W L r := by
  obtain ⟨rows, h1, h2, h3, h4, h5, h6⟩ := open_rows k ht hL hc h
  exact ⟨rows, ⟨h1, h2, h3, h5, fun i r hr => rowOk_len (h4 i r hr), fun ad e i r hr j v hv => by rw [add_add]; exact h6 ad e i r hr j v hv⟩, h4⟩
end
end Go.Proofs.Ytpbcmghfhflkbaa.Tw
