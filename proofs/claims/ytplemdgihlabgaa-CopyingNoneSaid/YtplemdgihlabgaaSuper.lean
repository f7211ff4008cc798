/- Contracts of the package super; the law SuperNone, walked. Conditions: none. -/
import Derived.Test.YtplemdgihlabgaaSlots6
set_option linter.unusedVariables false
set_option linter.unusedSimpArgs false
namespace Go.Proofs.Ytplemdgihlabgaa.Super
open Go.RowKit Tw Disk Slots
set_option maxHeartbeats 4000000
set_option maxRecDepth 100000
theorem c_Put_nilI (b s X : Int) (w : World) : Calls Try.prog 213 #[.pointer none, .int .i64 b, .int .i64 s, .int .u64 X] w fun e w' => e = .returned (.int .i64 1) ∧ Below w.heap.size w w' := by
  have HB := Lib.hid ((Below.refl _ _).alloc (Nat.le_refl w.heap.size) (.cells #[.int .i64 b, .int .i64 s] 313))
  go_enter Try.func213, Try.ntmps213
  go_wp2_with (first
    | (go_at_call 19
       (with_reducible refine (c_Made_nil _).mono ?_)
       rintro e w' ⟨rfl, rfl⟩))
  go_ret
  exact ⟨rfl, by have h := HB.out; simpa using h⟩
section
variable {w : World} {p g mb c : Nat} {d d' : Dsk}
theorem c_Fuse (h : Dk w p g mb c d) (k : Int) (hk : -9223372036854775808 ≤ k ∧ k ≤ 9223372036854775807) : Calls Try.prog 15 #[.pointer (some ⟨p, 0, none⟩), .int .i64 k] w fun e' w' => e' = .returned (.tuple #[]) ∧ Dk w' p g mb c (d.setFuse k) ∧ Fr (fun k => k = p) w w' := by
  obtain ⟨k0, k1, k2, k3, k4⟩ := h.cells
  have q2 := h.frozen 2
  have H := Lib.hid h
  have hok : (d.setFuse k).Ok := ⟨h.ok.n, h.ok.safe, h.ok.fresh, by simp only [Dsk.setFuse]; omega, h.ok.ops⟩
  have Hok := Lib.hid hok
  clear h hok
  by_cases hk1 : -1 ≤ k
  · have hm : max k (-1) = k := by omega
    have hm2 : d.setFuse k = { d with fuse := k, broken := d.broken, ops := d.ops } := by unfold Dsk.setFuse; rw [hm]
    have Hm2 := Lib.hid hm2
    clear hm2
    go_enter Try.func15, Try.ntmps15
    go_wp2_with (first
      | (go_at_call 19
         (with_reducible refine (c_Made H.out).mono ?_)
         rintro e w' ⟨rfl, rfl⟩))
    refine bodyPost_end (results_none rfl _ _ _) rfl ?_
    have hok := Hok.out
    rw [Hm2.out] at hok ⊢
    refine ⟨rfl, H.out.reset (fr_set w p 2 _) (Nat.le_refl _) hok ?_, fr_set w p 2 _⟩
    rw [heap_setCell_same _ p 2 _ _ _ H.out.blk]
    simp
  · have hm : max k (-1) = -1 := by omega
    have hm2 : d.setFuse k = { d with fuse := -1, broken := d.broken, ops := d.ops } := by unfold Dsk.setFuse; rw [hm]
    have Hm2 := Lib.hid hm2
    clear hm2
    go_enter Try.func15, Try.ntmps15
    go_wp2_with (first
      | (go_at_call 19
         (with_reducible refine (c_Made H.out).mono ?_)
         rintro e w' ⟨rfl, rfl⟩))
    refine bodyPost_end (results_none rfl _ _ _) rfl ?_
    have hok := Hok.out
    rw [Hm2.out] at hok ⊢
    refine ⟨rfl, H.out.reset (fr_set w p 2 _) (Nat.le_refl _) hok ?_, fr_set w p 2 _⟩
    rw [heap_setCell_same _ p 2 _ _ _ H.out.blk]
    simp
end
theorem l1 : latest (Dsk.new 8) 0 2 = (0, 0) := latest_new 8 0 2
theorem l2 : (sput (Dsk.new 8) 0 2 1).2 = 0 ∧ (sput (Dsk.new 8) 0 2 1).1.ops + 1 < 1000000000 ∧ latest (sput (Dsk.new 8) 0 2 1).1 0 2 = (1, 1) ∧ (sput (sput (Dsk.new 8) 0 2 1).1 0 2 2).2 = 0 ∧ latest (sput (sput (Dsk.new 8) 0 2 1).1 0 2 2).1 0 2 = (2, 2) := by decide +kernel
theorem l3 : latest ((Dsk.new 8).setFuse 0) 0 2 = (0, 0) ∧ (sput ((Dsk.new 8).setFuse 0) 0 2 1).2 = 3 ∧ latest (sput ((Dsk.new 8).setFuse 0) 0 2 1).1 0 2 = (0, 0) := by decide +kernel
end Go.Proofs.Ytplemdgihlabgaa.Super
