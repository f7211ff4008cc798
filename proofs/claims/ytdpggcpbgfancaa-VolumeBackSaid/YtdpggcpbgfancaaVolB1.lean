/- Contract of request.Check, of a write of a few sectors of 32. Conditions: in the theorem. -/
import Derived.Test.YtdpggcpbgfancaaBox
set_option linter.unusedVariables false
set_option linter.unusedSimpArgs false
namespace Go.Proofs.Ytdpggcpbgfancaa.Vol
open Go.RowKit Tw
set_option maxHeartbeats 8000000
set_option maxRecDepth 100000
theorem four_cells {w : World} {g : Nat} {t : TypeId} {v0 v1 v2 v3 : Value} (h : w.heap[g]? = some (.cells #[v0, v1, v2, v3] t (0, 0))) :
    w.cell? ⟨g, 0, none⟩ = some v0 ∧ w.cell? ⟨g, 1, none⟩ = some v1 ∧ w.cell? ⟨g, 2, none⟩ = some v2 ∧ w.cell? ⟨g, 3, none⟩ = some v3 := by
  simp [World.cell?, h]
theorem first_cell {w : World} {g : Nat} {t : TypeId} {v0 v1 v2 v3 v4 : Value} (h : w.heap[g]? = some (.cells #[v0, v1, v2, v3, v4] t (0, 0))) : w.cell? ⟨g, 0, none⟩ = some v0 := by
  simp [World.cell?, h]
theorem c_CheckW (x y : Nat) (A : Option Addr) (n c : Nat) (w : World) (hy1 : 1 ≤ y) (hy8 : y ≤ 8) (hx : x + y ≤ 32) (hn : n = 16 * y) :
    Calls Try.prog 61 #[.agg #[.int .i64 32, .int .i64 0, .int .i64 0, .int .i64 0, .int .i64 0], .agg #[.int .i64 1, .int .i64 (x : Int), .int .i64 (y : Int), .slice A n c]] w fun e w' => e = .returned (.int .i64 0) ∧ Below w.heap.size w w' := by
  subst hn
  obtain ⟨W2, hW2, x1, x2, hB⟩ := Bx.two_boxes w (.cells #[.int .i64 32, .int .i64 0, .int .i64 0, .int .i64 0, .int .i64 0] 89) (.cells #[.int .i64 1, .int .i64 (x : Int), .int .i64 (y : Int), .slice A (16 * y) c] 86)
  have HB := Lib.hid hB
  have HX2 := Lib.hid x2
  have HX1 := Lib.hid x1
  have k0 := first_cell x1
  obtain ⟨l0, l1, l2, l3⟩ := four_cells x2
  have hg : Span.Good (x : Int) (y : Int) 32 := by unfold Span.Good; omega
  have hgd := fun w => Span.c_Good (x : Int) (y : Int) 32 w
  have hne : (16 * (y : Int) != (y : Int) * 16) = false := by simp; omega
  clear x1 x2 hB
  go_enter Try.func61, Try.ntmps61
  go_upto_region 1 with (fail)
  rw [← hW2]
  clear hW2
  go_wp2_with (first
    | (go_at_call 123
       (with_reducible refine (hgd _).mono ?_)
       rintro e w1 ⟨rfl, hb1⟩
       rw [decide_eq_true hg]
       have HB1 := Lib.hid (HB.out.trans (hb1.mono HB.out.size))
       obtain ⟨l0, l1, l2, l3⟩ := four_cells ((hb1.block _ (heap_lt HX2.out)).trans HX2.out)
       clear hgd hb1))
  go_ret
  exact ⟨rfl, HB1.out⟩
end Go.Proofs.Ytdpggcpbgfancaa.Vol
