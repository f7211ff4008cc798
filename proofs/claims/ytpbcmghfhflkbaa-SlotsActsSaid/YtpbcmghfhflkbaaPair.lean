/- The disk and the reference's, both as one plain disk. Conditions: none. -/
import Derived.Test.YtpbcmghfhflkbaaDisk9
import Derived.Test.YtpbcmghfhflkbaaRef6
import Derived.Test.YtpbcmghfhflkbaaRegion2
set_option linter.unusedVariables false
set_option linter.unusedSimpArgs false
namespace Go.Proofs.Ytpbcmghfhflkbaa.Disk
open Go.RowKit Tw
set_option maxHeartbeats 400000
/-- the disk, and the reference's, both as D -/
structure Pr (w : World) (p g mb c q r c' : Nat) (D : Dsk) : Prop where
  dk : Dk w p g mb c D
  rk : Rk w q r c' D
  ne : (q ≠ p ∧ q ≠ g ∧ q ≠ mb) ∧ (r ≠ p ∧ r ≠ g ∧ r ≠ mb)
def PS (p g mb q r k : Nat) : Prop := (k = p ∨ k = g ∨ k = mb) ∨ (k = q ∨ k = r)
section
variable {w w' : World} {p g mb c q r c' : Nat} {D : Dsk}
theorem Pr.bel (h : Pr w p g mb c q r c' D) (hb : Below w.heap.size w w') : Pr w' p g mb c q r c' D := ⟨h.dk.bel hb, h.rk.bel hb, h.ne⟩
abbrev Apart (p g mb q r : Nat) : Prop := (q ≠ p ∧ q ≠ g ∧ q ≠ mb) ∧ (r ≠ p ∧ r ≠ g ∧ r ≠ mb)
theorem dkfr (h : Apart p g mb q r) {D' : Dsk} (hd : Dk w p g mb c D') (hf : Fr (fun k => k = q ∨ k = r) w w') : Dk w' p g mb c D' :=
  hd.fr hf (by omega) (by omega) (by omega)
theorem rkfr (h : Apart p g mb q r) {D' : Dsk} (hd : Rk w q r c' D') (hf : Fr (fun k => k = p ∨ k = g ∨ k = mb) w w') : Rk w' q r c' D' :=
  hd.fr hf (by omega) (by omega)
theorem fr_l (h : Fr (fun k => k = p ∨ k = g ∨ k = mb) w w') : Fr (PS p g mb q r) w w' := h.mono fun _ _ e => .inl e
theorem fr_r (h : Fr (fun k => k = q ∨ k = r) w w') : Fr (PS p g mb q r) w w' := h.mono fun _ _ e => .inr e
/-- what an act leaves: the same disk at both, one operation more at most -/
def Did (w w' : World) (p g mb c q r c' : Nat) (D : Dsk) : Prop := ∃ D', Pr w' p g mb c q r c' D' ∧ D'.ops ≤ D.ops + 1 ∧ D'.cells.length = D.cells.length ∧ Fr (PS p g mb q r) w w'
theorem spend_ops1 (d : Dsk) : d.spend.1.ops ≤ d.ops + 1 := by
  unfold Dsk.spend Dsk.burn
  (repeat' split) <;> simp_all
theorem write_facts (D : Dsk) (x : Int) (s : Sec) : (D.write x s).1.ops ≤ D.ops + 1 ∧ (D.write x s).1.cells.length = D.cells.length := by
  have ho := spend_ops1 D
  unfold Dsk.write
  split
  · split
    · exact ⟨ho, by simp [Dsk.put, spend_cells]⟩
    · exact ⟨ho, by rw [spend_cells]⟩
  · exact ⟨Nat.le_succ _, rfl⟩
theorem flush_facts (D : Dsk) : D.flush.1.ops ≤ D.ops + 1 ∧ D.flush.1.cells.length = D.cells.length := by
  have ho := spend_ops1 D
  unfold Dsk.flush
  split
  · exact ⟨ho, by simp [Dsk.allSafe, spend_cells]⟩
  · exact ⟨ho, by rw [spend_cells]⟩
end
end Go.Proofs.Ytpbcmghfhflkbaa.Disk
