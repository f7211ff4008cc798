/- Contracts of the package meta: Start, Retire; the law MetaNone, walked. Conditions: none. -/
import Derived.Test.YtaldlapnhhhclaaGreatMeta
set_option linter.unusedVariables false
set_option linter.unusedSimpArgs false
namespace Go.Proofs.YtaldlapnhhhclaaGreat.Meta
open Go.RowKit Tw Disk Slots
set_option maxHeartbeats 4000000
set_option maxRecDepth 100000
theorem fn_cells {w : World} {g : Nat} {t : TypeId} {a b : Value} (h : w.heap[g]? = some (.cells #[a, b] t (0, 0))) : w.cell? ⟨g, 0, none⟩ = some a ∧ w.cell? ⟨g, 1, none⟩ = some b := by
  simp [World.cell?, h]
/-- both steps -/
theorem c_steps (g : Nat) (b1 b2 : Value) (w : World) (P1 P2 : World → Prop) (h0 : w.heap[g]? = some (.cells #[.func (.func 106) #[] #[b1, b2], .func (.func 107) #[] #[b1]] 145 (0, 0)))
    (hf1 : Calls Tryz.prog 106 #[b1, b2] w fun e w' => e = .returned (.int .i64 0) ∧ P1 w' ∧ w'.heap[g]? = some (.cells #[.func (.func 106) #[] #[b1, b2], .func (.func 107) #[] #[b1]] 145 (0, 0)))
    (hf2 : ∀ w1, P1 w1 → Calls Tryz.prog 107 #[b1] w1 fun e w' => e = .returned (.int .i64 0) ∧ P2 w') :
    Calls Tryz.prog 105 #[.slice (some ⟨g, 0, none⟩) 2 2] w fun e w' => e = .returned (.int .i64 0) ∧ P2 w' := by
  have H0 := Lib.hid h0
  clear h0
  go_enter Tryz.func105, Tryz.ntmps105
  go_wp2_with fail
  go_loopw [8] (fun i wr => ∃ k : Nat, i = .int .i64 (k : Int) ∧ Hid ((k = 0 ∧ wr = w) ∨ (k = 1 ∧ P1 wr ∧ wr.heap[g]? = some (.cells #[.func (.func 106) #[] #[b1, b2], .func (.func 107) #[] #[b1]] 145 (0, 0))) ∨ (k = 2 ∧ P2 wr))) (fun i _ => 2 - (intOf i).toNat)
  case atStart => exact ⟨0, rfl, Lib.hid (.inl ⟨rfl, rfl⟩)⟩
  case round =>
    obtain ⟨k, rfl, HR⟩ := hrel
    rcases HR.out with ⟨rfl, rfl⟩ | ⟨rfl, hp1, hg1⟩ | ⟨rfl, hp2⟩
    · obtain ⟨d1, d2⟩ := fn_cells H0.out
      go_wp2_with (first
        | (go_at_call 106
           (with_reducible refine hf1.mono ?_)
           rintro e w1 ⟨rfl, hp1, hg1⟩
           have HP := Lib.hid hp1
           have HG := Lib.hid hg1
           clear hp1 hg1 hf1 d1 d2))
      go_roundw
      case rel => exact ⟨1, by go_num, Lib.hid (.inr (.inl ⟨rfl, HP.out, HG.out⟩))⟩
      case measure => simp [intOf] <;> omega
    · obtain ⟨d1, d2⟩ := fn_cells hg1
      have HP := Lib.hid hp1
      clear hp1 hg1
      go_wp2_with (first
        | (go_at_call 107
           (with_reducible refine (hf2 _ HP.out).mono ?_)
           rintro e w1 ⟨rfl, hp2⟩
           have HP2 := Lib.hid hp2
           clear hp2 hf2 d1 d2))
      go_roundw
      case rel => exact ⟨2, by go_num, Lib.hid (.inr (.inr ⟨rfl, HP2.out⟩))⟩
      case measure => simp [intOf] <;> omega
    · have HP2 := Lib.hid hp2
      clear hp2
      go_wp2_with fail
      go_ret
      exact ⟨rfl, HP2.out⟩
/-- the first one fails -/
theorem c_steps_1 (g : Nat) (b1 b2 : Value) (w : World) (P1 : World → Prop) (h0 : w.heap[g]? = some (.cells #[.func (.func 106) #[] #[b1, b2], .func (.func 107) #[] #[b1]] 145 (0, 0)))
    (hf1 : Calls Tryz.prog 106 #[b1, b2] w fun e w' => e = .returned (.int .i64 1) ∧ P1 w') :
    Calls Tryz.prog 105 #[.slice (some ⟨g, 0, none⟩) 2 2] w fun e w' => e = .returned (.int .i64 1) ∧ P1 w' := by
  have H0 := Lib.hid h0
  clear h0
  go_enter Tryz.func105, Tryz.ntmps105
  go_wp2_with fail
  go_loopw [8] (fun i wr => i = .int .i64 0 ∧ wr = w) (fun i _ => 0)
  case atStart => exact ⟨rfl, rfl⟩
  case round =>
    obtain ⟨rfl, rfl⟩ := hrel
    obtain ⟨d1, d2⟩ := fn_cells H0.out
    go_wp2_with (first
      | (go_at_call 106
         (with_reducible refine hf1.mono ?_)
         rintro e w1 ⟨rfl, hp1⟩
         have HP := Lib.hid hp1
         clear hp1 hf1 d1 d2))
    go_ret
    exact ⟨rfl, HP.out⟩
end Go.Proofs.YtaldlapnhhhclaaGreat.Meta
