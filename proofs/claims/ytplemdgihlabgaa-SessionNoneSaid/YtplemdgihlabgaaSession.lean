/- Contracts of the package session: a session that no call made. Conditions: none. -/
import Derived.Test.YtplemdgihlabgaaFrame
import Derived.Test.YtplemdgihlabgaaBox
import Derived.Test.YtplemdgihlabgaaProg
set_option linter.unusedVariables false
set_option linter.unusedSimpArgs false
namespace Go.Proofs.Ytplemdgihlabgaa.Session
open Go.RowKit Tw Bx
set_option maxHeartbeats 1000000
set_option maxRecDepth 100000
/-- No session: no pointer, or one to a session without a number. -/
def NoSe (w : World) (v : Value) : Prop := v = .pointer none ∨ ∃ p, v = .pointer (some ⟨p, 0, none⟩) ∧ p < w.heap.size ∧ w.cell? ⟨p, 0, none⟩ = some (.int .u32 0)
def got0 : Array Value := #[.bool false, .bool false, .slice none 0 0]
section
variable {w : World} {v : Value}
theorem NoSe.bel {w' : World} (h : NoSe w v) (hb : Below w.heap.size w w') : NoSe w' v := by
  rcases h with rfl | ⟨p, rfl, hp, hc⟩
  · exact .inl rfl
  · refine .inr ⟨p, rfl, Nat.lt_of_lt_of_le hp hb.size, ?_⟩
    simpa only [World.cell?, hb.block p hp] using hc
theorem c_is_none (h : NoSe w v) : Calls Try.prog 99 #[v] w fun e w' => e = .returned (.bool false) ∧ w = w' := by
  rcases h with rfl | ⟨p, rfl, hp, hc⟩
  · go_enter Try.func99, Try.ntmps99
    go_wp2
    go_ret
    exact ⟨rfl, rfl⟩
  · go_enter Try.func99, Try.ntmps99
    go_wp2_with fail
    go_ret
    exact ⟨rfl, rfl⟩
theorem c_Send_none (h : NoSe w v) (A : Option Addr) (n c : Nat) : Calls Try.prog 49 #[v, .slice A n c] w fun e w' => e = .returned (.slice none 0 0) ∧ w = w' := by
  have Hv := Lib.hid h
  clear h
  go_enter Try.func49, Try.ntmps49
  go_wp2_with (first
    | (go_at_call 99; (with_reducible refine (c_is_none Hv.out).mono ?_); rintro e w' ⟨rfl, rfl⟩))
  go_ret
  exact ⟨rfl, rfl⟩
theorem c_Tick_none (h : NoSe w v) : Calls Try.prog 50 #[v] w fun e w' => e = .returned (.slice none 0 0) ∧ w = w' := by
  have Hv := Lib.hid h
  clear h
  go_enter Try.func50, Try.ntmps50
  go_wp2_with (first
    | (go_at_call 99; (with_reducible refine (c_is_none Hv.out).mono ?_); rintro e w' ⟨rfl, rfl⟩))
  go_ret
  exact ⟨rfl, rfl⟩
theorem c_My_none (h : NoSe w v) : Calls Try.prog 51 #[v] w fun e w' => e = .returned (.int .u32 0) ∧ w = w' := by
  have Hv := Lib.hid h
  clear h
  go_enter Try.func51, Try.ntmps51
  go_wp2_with (first
    | (go_at_call 99; (with_reducible refine (c_is_none Hv.out).mono ?_); rintro e w' ⟨rfl, rfl⟩))
  go_ret
  exact ⟨rfl, rfl⟩
theorem c_Peer_none (h : NoSe w v) : Calls Try.prog 52 #[v] w fun e w' => e = .returned (.int .u32 0) ∧ w = w' := by
  have Hv := Lib.hid h
  clear h
  go_enter Try.func52, Try.ntmps52
  go_wp2_with (first
    | (go_at_call 99; (with_reducible refine (c_is_none Hv.out).mono ?_); rintro e w' ⟨rfl, rfl⟩))
  go_ret
  exact ⟨rfl, rfl⟩
theorem c_Alive_none (h : NoSe w v) : Calls Try.prog 53 #[v] w fun e w' => e = .returned (.bool false) ∧ w = w' := by
  have Hv := Lib.hid h
  clear h
  go_enter Try.func53, Try.ntmps53
  go_wp2_with (first
    | (go_at_call 99; (with_reducible refine (c_is_none Hv.out).mono ?_); rintro e w' ⟨rfl, rfl⟩))
  go_ret
  exact ⟨rfl, rfl⟩
theorem c_Full_none (h : NoSe w v) : Calls Try.prog 54 #[v] w fun e w' => e = .returned (.bool false) ∧ w = w' := by
  have Hv := Lib.hid h
  clear h
  go_enter Try.func54, Try.ntmps54
  go_wp2_with (first
    | (go_at_call 99; (with_reducible refine (c_is_none Hv.out).mono ?_); rintro e w' ⟨rfl, rfl⟩))
  go_ret
  exact ⟨rfl, rfl⟩
theorem c_Len_none (h : NoSe w v) : Calls Try.prog 55 #[v] w fun e w' => e = .returned (.int .i64 0) ∧ w = w' := by
  have Hv := Lib.hid h
  clear h
  go_enter Try.func55, Try.ntmps55
  go_wp2_with (first
    | (go_at_call 99; (with_reducible refine (c_is_none Hv.out).mono ?_); rintro e w' ⟨rfl, rfl⟩))
  go_ret
  exact ⟨rfl, rfl⟩
theorem c_Take_none (h : NoSe w v) (A : Option Addr) (n c : Nat) : Calls Try.prog 47 #[v, .slice A n c] w fun e w' => e = .returned (.tuple #[.agg got0, .slice none 0 0]) ∧ Below w.heap.size w w' := by
  have hB := ((Below.refl w.heap.size w).alloc (Nat.le_refl _) (.cells got0 105)).alloc (by simp) (.cells got0 105)
  have Hv := Lib.hid (h.bel hB)
  have h1 := heap_alloc_new w (.cells got0 105)
  have h2 := heap_alloc_new (w.alloc (.cells got0 105)) (.cells got0 105)
  have h3 := (Below.heap_alloc (w.alloc (.cells got0 105)) (.cells got0 105) _ (heap_lt h1)).trans h1
  rw [World.size_alloc] at h2
  have HB := Lib.hid hB
  have H3 := Lib.hid h3
  have H2 := Lib.hid h2
  clear h hB h1 h2 h3
  unfold got0 at *
  go_enter Try.func47, Try.ntmps47
  go_wp2_with (first
    | (go_at_call 99; (with_reducible refine (c_is_none Hv.out).mono ?_); rintro e w' ⟨rfl, rfl⟩)
    | (refine wpL_store_all rfl rfl 105 (.tmp 4) (.tmp 13) rfl _ rfl _ rfl _ _ H3.out (by kernel_rfl) rfl (by simp [Value.oneCell']) ?_
       intro w8 x8 g8
       have HX8 := Lib.hid x8
       have HB8 := Lib.hid (HB.out.grown g8 HB.out.size (by rintro k ⟨⟩; exact Nat.le_refl _))
       clear x8 g8))
  refine bodyPost_ret (results_cell2 rfl _ _ w.heap.size _ _ (0, 0) _ rfl HX8.out Try.underlying105 rfl (by kernel_rfl) _ rfl) rfl ?_
  exact ⟨rfl, HB8.out⟩
end
end Go.Proofs.Ytplemdgihlabgaa.Session
