/- Of an outbox that no call made: its methods, and the law on it. Conditions: none. -/
import Derived.Test.YtlfphoablloodaaOutLive
import Derived.IntWalk
namespace Go.Proofs.Ytlfphoablloodaa.Outbox
open Go.RowKit Tw
set_option maxHeartbeats 400000

/-- No outbox: no pointer, or one to an outbox whose window is 0. -/
def NoOut (w : World) (v : Value) : Prop := v = .pointer none ∨ ∃ p, v = .pointer (some ⟨p, 0, none⟩) ∧ w.cell? ⟨p, 0, none⟩ = some (.int .i64 0)

section
variable {w : World} {v : Value}
theorem NoOut.drewN (h : NoOut w v) (m : Nat) : NoOut (w.drewN m) v := by
  rcases h with rfl | ⟨p, rfl, hc⟩
  · exact .inl rfl
  · exact .inr ⟨p, rfl, hc⟩
theorem c_is_none (h : NoOut w v) : Calls Try.prog 96 #[v] w fun e w' => e = .returned (.bool false) ∧ w = w' := by
  rcases h with rfl | ⟨p, rfl, hc⟩
  · go_enter Try.func96, Try.ntmps96
    go_wp2
    go_ret
    exact ⟨rfl, rfl⟩
  · go_enter Try.func96, Try.ntmps96
    go_wp2
    go_ret
    exact ⟨rfl, rfl⟩
theorem c_Push_none (h : NoOut w v) (x : Value) : Calls Try.prog 48 #[v, x] w fun e w' => e = .returned (.tuple #[.int .i64 0, .bool false]) ∧ w = w' := by
  have Hv := Lib.hid h
  clear h
  go_enter Try.func48, Try.ntmps48
  go_wp2_with (first
    | (go_at_call 96; (with_reducible refine (c_is_none Hv.out).mono ?_); rintro e w' ⟨rfl, rfl⟩))
  go_ret2
  exact ⟨rfl, rfl⟩
theorem c_Body_none (h : NoOut w v) (x : Value) : Calls Try.prog 54 #[v, x] w fun e w' => e = .returned (.tuple #[.slice none 0 0, .bool false]) ∧ ∃ m, w' = w.drewN m := by
  have Hv := Lib.hid h
  clear h
  go_enter Try.func54, Try.ntmps54
  go_wp2_with fail
  go_quiet ((go_at_call 96; exact quiet_same (c_is_none (Hv.out.drewN _))))
  go_wp2
  go_ret2
  exact ⟨rfl, _, rfl⟩
theorem c_Acked_none (h : NoOut w v) (x : Value) : Calls Try.prog 47 #[v, x] w fun e w' => e = .returned (.slice none 0 0) ∧ w = w' := by
  have Hv := Lib.hid h
  clear h
  go_enter Try.func47, Try.ntmps47
  go_wp2_with (first
    | (go_at_call 96; (with_reducible refine (c_is_none Hv.out).mono ?_); rintro e w' ⟨rfl, rfl⟩))
  go_ret
  exact ⟨rfl, rfl⟩
theorem c_Window_none (h : NoOut w v) : Calls Try.prog 58 #[v] w fun e w' => e = .returned (.slice none 0 0) ∧ w = w' := by
  have Hv := Lib.hid h
  clear h
  go_enter Try.func58, Try.ntmps58
  go_wp2_with (first
    | (go_at_call 96; (with_reducible refine (c_is_none Hv.out).mono ?_); rintro e w' ⟨rfl, rfl⟩))
  go_ret
  exact ⟨rfl, rfl⟩
theorem c_Len_none (h : NoOut w v) : Calls Try.prog 49 #[v] w fun e w' => e = .returned (.int .i64 0) ∧ w = w' := by
  have Hv := Lib.hid h
  clear h
  go_enter Try.func49, Try.ntmps49
  go_wp2_with (first
    | (go_at_call 96; (with_reducible refine (c_is_none Hv.out).mono ?_); rintro e w' ⟨rfl, rfl⟩))
  go_ret
  exact ⟨rfl, rfl⟩
theorem c_Full_none (h : NoOut w v) : Calls Try.prog 56 #[v] w fun e w' => e = .returned (.bool false) ∧ ∃ m, w' = w.drewN m := by
  have Hv := Lib.hid h
  clear h
  go_enter Try.func56, Try.ntmps56
  go_wp2_with fail
  go_quiet ((go_at_call 96; exact quiet_same (c_is_none (Hv.out.drewN _))))
  go_wp2
  go_ret
  exact ⟨rfl, _, rfl⟩
end

set_option maxRecDepth 100000 in
theorem w_OutboxNone (b : Bool) (n : Int) (A : Option Addr) (m c : Nat) (w : World) : Calls Try.prog 11 #[.agg #[.bool b, .int .i64 n, .slice A m c]] w fun e w' => e = .returned (.bool true) ∧ Below w.heap.size w w' := by
  go_enter Try.func11, Try.ntmps11
  go_wp2_with fail
  have f1 : (((w.alloc (.cells #[.bool b, .int .i64 n, .slice A m c] 77)).alloc (.cells #[.int .i64 0, .int .i64 0, .slice none 0 0] 93)).alloc (.cells #[.pointer none, .pointer (some ⟨w.heap.size + 1, 0, none⟩)] 73)).cell? ⟨w.heap.size, 1, none⟩ = some (.int .i64 n) := by go_simp
  have f2 : (((w.alloc (.cells #[.bool b, .int .i64 n, .slice A m c] 77)).alloc (.cells #[.int .i64 0, .int .i64 0, .slice none 0 0] 93)).alloc (.cells #[.pointer none, .pointer (some ⟨w.heap.size + 1, 0, none⟩)] 73)).cell? ⟨w.heap.size, 2, none⟩ = some (.slice A m c) := by go_simp
  have f3 : (((w.alloc (.cells #[.bool b, .int .i64 n, .slice A m c] 77)).alloc (.cells #[.int .i64 0, .int .i64 0, .slice none 0 0] 93)).alloc (.cells #[.pointer none, .pointer (some ⟨w.heap.size + 1, 0, none⟩)] 73)).cell? ⟨w.heap.size + 1, 0, none⟩ = some (.int .i64 0) := by go_simp
  have f4 : (((w.alloc (.cells #[.bool b, .int .i64 n, .slice A m c] 77)).alloc (.cells #[.int .i64 0, .int .i64 0, .slice none 0 0] 93)).alloc (.cells #[.pointer none, .pointer (some ⟨w.heap.size + 1, 0, none⟩)] 73)).cell? ⟨w.heap.size + 1 + 1, 0, none⟩ = some (.pointer none) := by go_simp
  have f5 : (((w.alloc (.cells #[.bool b, .int .i64 n, .slice A m c] 77)).alloc (.cells #[.int .i64 0, .int .i64 0, .slice none 0 0] 93)).alloc (.cells #[.pointer none, .pointer (some ⟨w.heap.size + 1, 0, none⟩)] 73)).cell? ⟨w.heap.size + 1 + 1, 1, none⟩ = some (.pointer (some ⟨w.heap.size + 1, 0, none⟩)) := by go_simp
  have hB0 : Below w.heap.size w (((w.alloc (.cells #[.bool b, .int .i64 n, .slice A m c] 77)).alloc (.cells #[.int .i64 0, .int .i64 0, .slice none 0 0] 93)).alloc (.cells #[.pointer none, .pointer (some ⟨w.heap.size + 1, 0, none⟩)] 73)) :=
    (((Below.refl _ _).alloc (Nat.le_refl _) _).alloc (by simp) _).alloc (by simp; omega) _
  generalize (((w.alloc (.cells #[.bool b, .int .i64 n, .slice A m c] 77)).alloc (.cells #[.int .i64 0, .int .i64 0, .slice none 0 0] 93)).alloc (.cells #[.pointer none, .pointer (some ⟨w.heap.size + 1, 0, none⟩)] 73)) = W0 at *
  have hn0 : NoOut W0 (.pointer none) := .inl rfl
  have hn1 : NoOut W0 (.pointer (some ⟨w.heap.size + 1, 0, none⟩)) := .inr ⟨_, rfl, f3⟩
  clear f3
  generalize w.heap.size + 1 + 1 = r2 at *
  generalize w.heap.size + 1 = r1 at *
  go_loopw [15] (fun i wr => ∃ k q : Nat, k ≤ 2 ∧ i = .int .i64 (k : Int) ∧ wr = W0.drewN q) (fun i _ => 2 - (intOf i).toNat)
  case atStart => exact ⟨0, 0, by omega, rfl, rfl⟩
  case round =>
    obtain ⟨k, q, hk, rfl, rfl⟩ := hrel
    obtain rfl | rfl | rfl : k = 0 ∨ k = 1 ∨ k = 2 := by omega
    · skip
      have Hq := Lib.hid (hn0.drewN q)
      go_wp2_with (first
        | (go_at_call 48; (with_reducible refine (c_Push_none Hq.out _).mono ?_); rintro e w' ⟨rfl, rfl⟩)
        | (go_at_call 54
           (with_reducible refine (c_Body_none Hq.out _).mono ?_)
           rintro e w' ⟨rfl, m1, rfl⟩
           have Hq := Lib.hid (hn0.drewN (q + m1)))
        | (go_at_call 47; (with_reducible refine (c_Acked_none Hq.out _).mono ?_); rintro e w' ⟨rfl, rfl⟩)
        | (go_at_call 58; (with_reducible refine (c_Window_none Hq.out).mono ?_); rintro e w' ⟨rfl, rfl⟩)
        | (go_at_call 49; (with_reducible refine (c_Len_none Hq.out).mono ?_); rintro e w' ⟨rfl, rfl⟩)
        | (go_at_call 56
           (with_reducible refine (c_Full_none Hq.out).mono ?_)
           rintro e w' ⟨rfl, m2, rfl⟩))
      go_roundw
      case rel => exact ⟨1, q + m1 + m2, by omega, by go_num, by first | rfl | simp only [World.drewN_drewN]⟩
      case measure => simp [intOf]
    · skip
      have Hq := Lib.hid (hn1.drewN q)
      go_wp2_with (first
        | (go_at_call 48; (with_reducible refine (c_Push_none Hq.out _).mono ?_); rintro e w' ⟨rfl, rfl⟩)
        | (go_at_call 54
           (with_reducible refine (c_Body_none Hq.out _).mono ?_)
           rintro e w' ⟨rfl, m1, rfl⟩
           have Hq := Lib.hid (hn1.drewN (q + m1)))
        | (go_at_call 47; (with_reducible refine (c_Acked_none Hq.out _).mono ?_); rintro e w' ⟨rfl, rfl⟩)
        | (go_at_call 58; (with_reducible refine (c_Window_none Hq.out).mono ?_); rintro e w' ⟨rfl, rfl⟩)
        | (go_at_call 49; (with_reducible refine (c_Len_none Hq.out).mono ?_); rintro e w' ⟨rfl, rfl⟩)
        | (go_at_call 56
           (with_reducible refine (c_Full_none Hq.out).mono ?_)
           rintro e w' ⟨rfl, m2, rfl⟩))
      go_roundw
      case rel => exact ⟨2, q + m1 + m2, by omega, by go_num, by first | rfl | simp only [World.drewN_drewN]⟩
      case measure => simp [intOf]
    · go_wp2_with (first
        | (go_at_call 46; (with_reducible refine (c_live _).mono ?_); rintro e w2 ⟨rfl, hb2⟩))
      go_ret
      exact ⟨rfl, hB0.trans ⟨hb2.os, hb2.tape, hb2.output, hb2.size, fun i hi => hb2.block i (Nat.lt_of_lt_of_le hi hB0.size)⟩⟩
end Go.Proofs.Ytlfphoablloodaa.Outbox
