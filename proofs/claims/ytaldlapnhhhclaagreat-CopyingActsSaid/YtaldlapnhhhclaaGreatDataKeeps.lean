/- The law DataKeeps, walked. Conditions: none. -/
import Derived.Test.YtaldlapnhhhclaaGreatDataNone
set_option linter.unusedVariables false
set_option linter.unusedSimpArgs false
namespace Go.Proofs.YtaldlapnhhhclaaGreat.Data
open Go.RowKit Tw Disk
set_option maxHeartbeats 8000000
set_option maxRecDepth 100000

theorem act_cells0 {w : World} {g : Nat} {t : TypeId} {v0 v1 v2 v3 v4 v5 : Value} (h : w.heap[g]? = some (.cells #[v0, v1, v2, v3, v4, v5] t (0, 0))) :
    w.cell? ⟨g, 3, none⟩ = some v3 ∧ w.cell? ⟨g, 4, none⟩ = some v4 ∧ w.cell? ⟨g, 5, none⟩ = some v5 := ⟨cells_of h 3 _ rfl, cells_of h 4 _ rfl, cells_of h 5 _ rfl⟩
theorem byt_off {w : World} {A : Option Addr} {n c p mb : Nat} {b : List UInt8} (h : Byt w A n c b) (hp : w.heap.size ≤ p) (hm : w.heap.size ≤ mb) : ∀ ad, A = some ad → 0 < n → ad.block ≠ p ∧ ad.block ≠ mb := fun ad e hn => by
  obtain ⟨ad2, x, e2, _, hc⟩ := h.at1 hn
  rw [e] at e2
  injection e2 with e2
  subst e2
  have h2 := block_lt_of_cell hc
  rw [block_add] at h2
  omega
theorem fine_dWrite' {d : Dsk} (h : Fine d) (ho : d.ops + 1024 < 1000000000) (x y : Int) (b : List UInt8) : Fine (dWrite d x y b).1 ∧ (dWrite d x y b).1.cells.length = d.cells.length ∧ (dWrite d x y b).1.ops ≤ d.ops + 1024 := by
  rcases fine_dWrite h ho x y b with ⟨_, h2⟩ | ⟨_, o, L, _, _, _, _, h1, h2, h3, _⟩
  · rw [h2]
    exact ⟨h, rfl, by omega⟩
  · exact ⟨h1, h2, h3⟩

end Go.Proofs.YtaldlapnhhhclaaGreat.Data
