/- Contracts of the package actlog; the law ActlogNone, walked. Conditions: none. -/
import Derived.Test.YtplemdgihlabgaaSuper
set_option linter.unusedVariables false
set_option linter.unusedSimpArgs false
namespace Go.Proofs.Ytplemdgihlabgaa.Actlog
open Go.RowKit Tw Disk Slots
set_option maxHeartbeats 4000000
set_option maxRecDepth 100000
section
variable {w : World} {p g mb c : Nat} {d d' : Dsk}
theorem two_boxes (w : World) (o1 o2 : Obj) : ∃ w2, w2 = (w.alloc o1).alloc o2 ∧ w2.heap[w.heap.size]? = some o1 ∧ w2.heap[w.heap.size + 1]? = some o2 ∧ Below w.heap.size w w2 := by
  have h1 := heap_alloc_new w o1
  have h2 := heap_alloc_new (w.alloc o1) o2
  have b2 := Below.heap_alloc (w.alloc o1) o2 _ (heap_lt h1)
  rw [World.size_alloc] at h2
  exact ⟨_, rfl, b2.trans h1, h2, (((Below.refl _ _).alloc (Nat.le_refl _) _).alloc (by simp) _)⟩
theorem cell1 {w : World} {g : Nat} {t : TypeId} {a : Value} (h : w.heap[g]? = some (.cells #[a] t (0, 0))) : w.cell? ⟨g, 0, none⟩ = some a := by simp [World.cell?, h]
end
theorem l1 : latest (Dsk.new 12) 2 4 = (0, 0) := latest_new 12 2 4
theorem l2 : (sput (Dsk.new 12) 2 4 5).2 = 0 ∧ (sput (Dsk.new 12) 2 4 5).1.broken = false ∧ latest (sput (Dsk.new 12) 2 4 5).1 2 4 = (1, 5) := by decide +kernel
end Go.Proofs.Ytplemdgihlabgaa.Actlog
