/- Contracts of the package pack and its reference: Name. Conditions: none. -/
import Derived.Test.YtdpggcpbgfancaaPack2
set_option linter.unusedVariables false
set_option linter.unusedSimpArgs false
namespace Go.Proofs.Ytdpggcpbgfancaa.Pack
open Go.RowKit Tw
set_option maxHeartbeats 8000000
set_option maxRecDepth 100000
def word (k : Int) : ByteArray := if kk k = true then nm k else ⟨#[117, 110, 107, 110, 111, 119, 110]⟩
theorem c_Name (k : Int) (w : World) : Calls Try.prog 33 #[.int .i64 k] w fun e w' => e = .returned (.string (word k)) ∧ Below w.heap.size w w' := by
  have hof : ∀ w, Calls Try.prog 85 #[.int .i64 k] w fun e w' => e = .returned (.tuple #[.agg #[.string (nm k), .bool (kW k), .bool (kI k), .bool (kO k), .bool (kD k)], .bool (kk k)]) ∧ Below w.heap.size w w' := fun w => c_of k w
  obtain ⟨q, hq⟩ : ∃ s, kk k = s := ⟨_, rfl⟩
  have hw : word k = if q = true then nm k else ⟨#[117, 110, 107, 110, 111, 119, 110]⟩ := by rw [← hq]; rfl
  rw [hq] at hof
  generalize nm k = s at *
  generalize kW k = a at *
  generalize kI k = b at *
  generalize kO k = c at *
  generalize kD k = d at *
  have Hw := Lib.hid hw
  clear hq hw
  go_enter Try.func33, Try.ntmps33
  go_wp2_with (first
    | (go_at_call 85
       (with_reducible refine (hof _).mono ?_)
       rintro e w1 ⟨rfl, hb1⟩
       have LB := Lib.hid hb1
       clear hb1 hof)
    | (refine Bx.wpL_store_all rfl rfl 119 (.tmp 3) (.tmp 8) rfl _ rfl _ rfl _ _ (heap_alloc_new w1 _) (by kernel_rfl) rfl (one5 _ _ _ _ _) ?_
       intro w4 x4 g4
       have F4 : Fr (fun k => k = w1.heap.size) w1 w4 := (Fr.alloc _).trans (Fr.grown (S := fun k => k = w1.heap.size) g4 (by rintro k ⟨⟩; rfl)) (fun _ _ h => h)
       have bel4 : Below w1.heap.size w1 w4 := F4.bel (fun k e => by omega) (Nat.le_refl _)
       have NB := Lib.hid (LB.out.trans (bel4.mono LB.out.size))
       obtain ⟨l0, l1, l2, l3, l4⟩ := cells5 x4
       clear x4 g4 F4 bel4))
  all_goals
    go_ret
    rw [Hw.out]
    refine ⟨by simp_all, NB.out⟩
theorem c_rName (k : Int) (w : World) : Calls Try.prog 34 #[.int .i64 k] w fun e w' => e = .returned (.string (word k)) ∧ Below w.heap.size w w' := by
  have HB := Lib.hid ((Below.refl _ _).alloc (Nat.le_refl w.heap.size) (.cells #[.string ⟨#[117, 110, 107, 110, 111, 119, 110]⟩, .string ⟨#[103, 114, 101, 101, 116]⟩, .string ⟨#[100, 97, 116, 97]⟩, .string ⟨#[97, 99, 107]⟩, .string ⟨#[111, 118, 101, 114]⟩, .string ⟨#[114, 101, 116, 114, 121]⟩, .string ⟨#[101, 120, 116]⟩, .string ⟨#[104, 97, 118, 101]⟩, .string ⟨#[101, 110, 100]⟩] 9))
  by_cases hk : k < 1 ∨ 8 < k
  · have hw : word k = ⟨#[117, 110, 107, 110, 111, 119, 110]⟩ := by
      have h : kk k = false := decide_eq_false (by omega)
      unfold word
      rw [h]
      rfl
    have Hw := Lib.hid hw
    clear hw
    rcases hk with hk | hk
    all_goals
      go_enter Try.func34, Try.ntmps34
      go_wp2
      go_ret
      rw [Hw.out]
      exact ⟨rfl, HB.out⟩
  · have h8 : k = 1 ∨ k = 2 ∨ k = 3 ∨ k = 4 ∨ k = 5 ∨ k = 6 ∨ k = 7 ∨ k = 8 := by omega
    clear hk
    rcases h8 with rfl | rfl | rfl | rfl | rfl | rfl | rfl | rfl
    all_goals
      go_enter Try.func34, Try.ntmps34
      go_wp2
      go_ret
      exact ⟨rfl, HB.out⟩
end Go.Proofs.Ytdpggcpbgfancaa.Pack
