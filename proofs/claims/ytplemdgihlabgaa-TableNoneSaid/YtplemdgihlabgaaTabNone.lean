/- Of a table that no call made: its methods. Conditions: none. -/
import Derived.Test.YtplemdgihlabgaaTable5
import Derived.IntWalk
set_option linter.unusedVariables false
set_option linter.unusedSimpArgs false
namespace Go.Proofs.Ytplemdgihlabgaa.Table
open Go.RowKit Tw Go.Maps Go.ChangeMaps
set_option maxHeartbeats 1000000
set_option maxRecDepth 100000

/-- No table: no pointer, or one to a table without a map. -/
def NoTab (w : World) (v : Value) : Prop := v = .pointer none ∨ ∃ p, v = .pointer (some ⟨p, 0, none⟩) ∧ p < w.heap.size ∧ w.cell? ⟨p, 1, none⟩ = some (.map none)
theorem neqNone (w : World) : (binOp .neq 68 (.map none) (.map none)).run Try.prog w = .ok (.bool false) w := by kernel_rfl

section
variable {w : World} {v : Value}
theorem NoTab.bel {w' : World} (h : NoTab w v) (hb : Below w.heap.size w w') : NoTab w' v := by
  rcases h with rfl | ⟨p, rfl, hp, hc⟩
  · exact .inl rfl
  · refine .inr ⟨p, rfl, Nat.lt_of_lt_of_le hp hb.size, ?_⟩
    simpa only [World.cell?, hb.block p hp] using hc
theorem NoTab.drewN (h : NoTab w v) (m : Nat) : NoTab (w.drewN m) v := by
  rcases h with rfl | ⟨p, rfl, hp, hc⟩
  · exact .inl rfl
  · exact .inr ⟨p, rfl, hp, hc⟩
theorem c_is_none (h : NoTab w v) : Calls Try.prog 93 #[v] w fun e w' => e = .returned (.bool false) ∧ w = w' := by
  rcases h with rfl | ⟨p, rfl, hp, hc⟩
  · go_enter Try.func93, Try.ntmps93
    go_wp2
    go_ret
    exact ⟨rfl, rfl⟩
  · have hq := neqNone w
    go_enter Try.func93, Try.ntmps93
    go_wp2_with fail
    go_ret
    exact ⟨rfl, rfl⟩
theorem c_Remove_none (h : NoTab w v) (t : Int) : Calls Try.prog 33 #[v, .int .i64 t] w fun e w' => e = .returned (.bool false) ∧ w = w' := by
  have Hv := Lib.hid h
  clear h
  go_enter Try.func33, Try.ntmps33
  go_wp2_with (first
    | (go_at_call 93; (with_reducible refine (c_is_none Hv.out).mono ?_); rintro e w' ⟨rfl, rfl⟩))
  go_ret
  exact ⟨rfl, rfl⟩
theorem c_Len_none (h : NoTab w v) : Calls Try.prog 36 #[v] w fun e w' => e = .returned (.int .i64 0) ∧ w = w' := by
  have Hv := Lib.hid h
  clear h
  go_enter Try.func36, Try.ntmps36
  go_wp2_with (first
    | (go_at_call 93; (with_reducible refine (c_is_none Hv.out).mono ?_); rintro e w' ⟨rfl, rfl⟩))
  go_ret
  exact ⟨rfl, rfl⟩
theorem c_Full_none (h : NoTab w v) : Calls Try.prog 35 #[v] w fun e w' => e = .returned (.bool false) ∧ ∃ m, w' = w.drewN m := by
  have Hv := Lib.hid h
  clear h
  go_enter Try.func35, Try.ntmps35
  go_wp2_with fail
  go_quiet ((go_at_call 93; exact quiet_same (c_is_none (Hv.out.drewN _))))
  go_wp2
  go_ret
  exact ⟨rfl, _, rfl⟩
theorem c_Add_none (h : NoTab w v) (t k o l : Int) (A : Option Addr) (m c : Nat) : Calls Try.prog 32 #[v, .int .i64 t, rq k o l A m c] w fun e w' => e = .returned (.int .i64 1) ∧ Below w.heap.size w w' := by
  have hB1 : Below w.heap.size w (w.alloc (.cells #[.int .i64 k, .int .i64 o, .int .i64 l, .slice A m c] 64)) := (Below.refl _ _).alloc (Nat.le_refl _) _
  have Hv := Lib.hid (h.bel hB1)
  have HB := Lib.hid hB1
  clear h hB1
  unfold rq
  go_enter Try.func32, Try.ntmps32
  go_wp2_with (first
    | (go_at_call 93; (with_reducible refine (c_is_none Hv.out).mono ?_); rintro e w' ⟨rfl, rfl⟩))
  go_ret
  exact ⟨rfl, HB.out⟩
theorem c_Get_none (h : NoTab w v) (t : Int) : Calls Try.prog 31 #[v, .int .i64 t] w fun e w' => e = .returned (.tuple #[rq 0 0 0 none 0 0, .bool false]) ∧ Below w.heap.size w w' := by
  have hB1 : Below w.heap.size w (w.alloc (.cells #[.int .i64 0, .int .i64 0, .int .i64 0, .slice none 0 0] 64)) := (Below.refl _ _).alloc (Nat.le_refl _) _
  have hx1 : (w.alloc (.cells #[.int .i64 0, .int .i64 0, .int .i64 0, .slice none 0 0] 64)).heap[w.heap.size]? = some (.cells #[.int .i64 0, .int .i64 0, .int .i64 0, .slice none 0 0] 64 (0, 0)) := heap_alloc_new w _
  have Hv := Lib.hid (h.bel hB1)
  have HB := Lib.hid hB1
  have Hx := Lib.hid hx1
  clear h hB1 hx1
  go_enter Try.func31, Try.ntmps31
  go_wp2_with fail
  generalize (w.alloc (.cells #[.int .i64 0, .int .i64 0, .int .i64 0, .slice none 0 0] 64)) = W1 at *
  have k1 := Hx.out
  go_wp2_with (first
    | (go_at_call 93; (with_reducible refine (c_is_none Hv.out).mono ?_); rintro e w' ⟨rfl, rfl⟩)
    | (refine wpList_store_row rfl 64 (.tmp 4) (.tmp 11) rfl _ _ rfl rfl _ _ k1 (by kernel_rfl) rfl (by simp [Value.oneCell']) ?_))
  (try simp only [Exit.inBlock, Exit.then])
  refine bodyPost_ret (results_cell_tmp rfl _ _ w.heap.size _ _ (0, 0) _ rfl (setRow_heap _ _ _ _ _ _ k1) Try.underlying64 rfl (by kernel_rfl) _ rfl) rfl ?_
  exact ⟨rfl, HB.out.grown (grown_setRow _ _ _) HB.out.size (by rintro k ⟨⟩; exact Nat.le_refl _)⟩
end
end Go.Proofs.Ytplemdgihlabgaa.Table
