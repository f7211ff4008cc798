/- Contracts of the packages bits and dirty; the law DirtyNone, walked. Conditions: none. -/
import Derived.Test.YtplemdgihlabgaaActlog
set_option linter.unusedVariables false
set_option linter.unusedSimpArgs false
namespace Go.Proofs.Ytplemdgihlabgaa.Dirty
open Go.RowKit Tw Disk Slots
set_option maxHeartbeats 4000000
set_option maxRecDepth 100000
theorem c_in (e : Int) (w : World) : Calls Try.prog 234 #[.int .i64 e] w fun e' w' => e' = .returned (.bool (decide (0 ≤ e ∧ e < 64))) ∧ w = w' := by
  go_enter Try.func234, Try.ntmps234
  go_wp2
  all_goals
    go_ret
    refine ⟨Span.ret_bool rfl ?_, rfl⟩
    rw [Bool.eq_iff_iff]
    simp only [decide_eq_true_eq, Bool.false_eq_true, Bool.true_eq_false, Bool.and_eq_true, true_iff, false_iff]
    omega
theorem c_One (e : Int) (w : World) : Calls Try.prog 215 #[.int .i64 e] w fun e' w' => e' = .returned (.int .u64 (if 0 ≤ e ∧ e < 64 then ((2 ^ e.toNat : Nat) : Int) else 0)) ∧ w = w' := by
  have hi := c_in e
  by_cases h : 0 ≤ e ∧ e < 64
  · have hd := Lib.hid (decide_eq_true h)
    rw [if_pos h]
    go_enter Try.func215, Try.ntmps215
    go_wp2_with (first
      | (go_at_call 234
         (with_reducible refine (hi _).mono ?_)
         rintro e w1 ⟨rfl, rfl⟩
         rw [hd.out]))
    go_ret
    refine ⟨?_, rfl⟩
    have hlt : 2 ^ e.toNat < 2 ^ 64 := Nat.pow_lt_pow_right (by omega) (by omega)
    have hw : IntKind.u64.wrap (2 ^ e.toNat) = ((2 ^ e.toNat : Nat) : Int) := by
      have h1 : ((2 : Int) ^ e.toNat) = ((2 ^ e.toNat : Nat) : Int) := by norm_cast
      rw [h1]
      generalize 2 ^ e.toNat = y at *
      simp [IntKind.wrap, IntKind.bits, IntKind.signed]
      omega
    show Ending.returned (Value.int IntKind.u64 (IntKind.u64.wrap (2 ^ e.toNat))) = _
    rw [hw]
  · have hd := Lib.hid (decide_eq_false h)
    rw [if_neg h]
    go_enter Try.func215, Try.ntmps215
    go_wp2_with (first
      | (go_at_call 234
         (with_reducible refine (hi _).mono ?_)
         rintro e w1 ⟨rfl, rfl⟩
         rw [hd.out]))
    go_ret
    exact ⟨rfl, rfl⟩
theorem c_Without (S : Nat) (e r : Int) (w : World) (hr : bits BinOp.andNot IntKind.u64 (S : Int) (if 0 ≤ e ∧ e < 64 then ((2 ^ e.toNat : Nat) : Int) else 0) = r) :
    Calls Try.prog 186 #[.int .u64 (S : Int), .int .i64 e] w fun e' w' => e' = .returned (.int .u64 r) ∧ w = w' := by
  have ho := c_One e
  obtain ⟨q, hq⟩ : ∃ q, (if 0 ≤ e ∧ e < 64 then ((2 ^ e.toNat : Nat) : Int) else 0) = q := ⟨_, rfl⟩
  rw [hq] at ho hr
  subst hr
  clear hq
  go_enter Try.func186, Try.ntmps186
  go_wp2_with (first
    | (go_at_call 215
       (with_reducible refine (ho _).mono ?_)
       rintro e w1 ⟨rfl, rfl⟩))
  go_ret
  exact ⟨rfl, rfl⟩
theorem andNot_zero (q : Int) : bits BinOp.andNot IntKind.u64 0 q = 0 := by
  simp [bits, Op.intBits]
  decide
theorem andNot_six : bits BinOp.andNot IntKind.u64 6 2 = 4 := by decide
theorem c_mask (u : Value) (n q : Nat) (w : World) (hl : ∀ w', Below w.heap.size w w' → Calls Try.prog 214 #[u, .int .i64 6, .int .i64 2] w' fun e w'' => e = .returned (.tuple #[.int .u32 (n : Int), .int .u64 (q : Int)]) ∧ Below w'.heap.size w' w'') :
    Calls Try.prog 182 #[.agg #[u]] w fun e w' => e = .returned (.int .u64 (q : Int)) ∧ Below w.heap.size w w' := by
  have hb := ((Below.refl w.heap.size w).alloc (Nat.le_refl _) (.cells #[u] 264))
  have HB := Lib.hid hb
  have hl2 := hl _ hb
  clear hl hb
  go_enter Try.func182, Try.ntmps182
  go_wp2_with (first
    | (go_at_call 214
       (with_reducible refine hl2.mono ?_)
       rintro e w2 ⟨rfl, hb2⟩
       have HB2 := Lib.hid (HB.out.trans (hb2.mono HB.out.size))
       clear hb2 hl2))
  go_ret
  exact ⟨rfl, HB2.out⟩
theorem c_mask_nil (w : World) : Calls Try.prog 182 #[.agg #[.pointer none]] w fun e w' => e = .returned (.int .u64 0) ∧ Below w.heap.size w w' :=
  c_mask _ 0 0 w (fun w' _ => c_Latest_nil 6 2 w')
theorem c_Get_nil (w : World) : Calls Try.prog 129 #[.pointer none] w fun e w' => e = .returned (.int .u64 0) ∧ Below w.heap.size w w' := by
  go_enter Try.func129, Try.ntmps129
  go_wp2_with (first
    | (go_at_call 182
       (with_reducible refine (c_mask_nil _).mono ?_)
       rintro e w1 ⟨rfl, hb1⟩
       have HB1 := Lib.hid hb1
       clear hb1))
  go_ret
  exact ⟨rfl, HB1.out⟩
theorem c_turn_nil (X : Int) (w : World) : Calls Try.prog 181 #[.agg #[.pointer none], .int .u64 X] w fun e w' => e = .returned (.int .i64 1) ∧ Below w.heap.size w w' := by
  have HB := Lib.hid ((Below.refl w.heap.size w).alloc (Nat.le_refl _) (.cells #[.pointer none] 264))
  go_enter Try.func181, Try.ntmps181
  go_wp2_with (first
    | (go_at_call 19
       (with_reducible refine (c_Made_nil _).mono ?_)
       rintro e w' ⟨rfl, rfl⟩))
  go_ret
  exact ⟨rfl, HB.out⟩
theorem c_Put_nil (X : Int) (w : World) : Calls Try.prog 128 #[.pointer none, .int .u64 X] w fun e w' => e = .returned (.int .i64 1) ∧ Below w.heap.size w w' := by
  go_enter Try.func128, Try.ntmps128
  go_wp2_with (first
    | (go_at_call 181
       (with_reducible refine (c_turn_nil _ _).mono ?_)
       rintro e w1 ⟨rfl, hb1⟩
       have HB1 := Lib.hid hb1
       clear hb1))
  go_ret
  exact ⟨rfl, HB1.out⟩
theorem c_Without0 (e : Int) (w : World) : Calls Try.prog 186 #[.int .u64 0, .int .i64 e] w fun e' w' => e' = .returned (.int .u64 0) ∧ w = w' := c_Without 0 e 0 w (andNot_zero _)
theorem c_Without6 (w : World) : Calls Try.prog 186 #[.int .u64 6, .int .i64 1] w fun e' w' => e' = .returned (.int .u64 4) ∧ w = w' := c_Without 6 1 4 w (by decide)
theorem c_Clear_nil (e : Int) (w : World) : Calls Try.prog 133 #[.pointer none, .int .i64 e] w fun e' w' => e' = .returned (.tuple #[.int .u64 0, .int .i64 1]) ∧ Below w.heap.size w w' := by
  have hX := heap_alloc_new w (.cells #[.pointer none] 264)
  have hb := ((Below.refl w.heap.size w).alloc (Nat.le_refl _) (.cells #[.pointer none] 264))
  have HB := Lib.hid hb
  clear hX hb
  go_enter Try.func133, Try.ntmps133
  go_wp2_with (first
    | (go_at_call 182
       (with_reducible refine (c_mask_nil _).mono ?_)
       rintro e w1 ⟨rfl, hb1⟩
       have HB1 := Lib.hid (HB.out.trans (hb1.mono HB.out.size))
       clear hb1)
    | (go_at_call 186
       (with_reducible refine (c_Without0 _ _).mono ?_)
       rintro e w2 ⟨rfl, rfl⟩)
    | (go_at_call 181
       (with_reducible refine (c_turn_nil _ _).mono ?_)
       rintro e w3 ⟨rfl, hb3⟩
       have HB3 := Lib.hid (HB1.out.trans (hb3.mono HB1.out.size))
       clear hb3))
  go_ret2
  exact ⟨rfl, HB3.out⟩
section
variable {w : World} {p g mb c : Nat} {d d' : Dsk}
theorem c_maskI (h : Dk w p g mb c d) (n q : Nat) (hl : latest d 6 2 = (n, q)) : Calls Try.prog 182 #[.agg #[.pointer (some ⟨p, 0, none⟩)]] w fun e w' => e = .returned (.int .u64 (q : Int)) ∧ Below w.heap.size w w' :=
  c_mask _ n q w (fun w' hb => by
    have h1 := c_Latest (h.bel hb) 6 2
    rw [hl] at h1
    exact h1)
theorem c_GetI (h : Dk w p g mb c d) (n q : Nat) (hl : latest d 6 2 = (n, q)) : Calls Try.prog 129 #[.pointer (some ⟨p, 0, none⟩)] w fun e w' => e = .returned (.int .u64 (q : Int)) ∧ Below w.heap.size w w' := by
  have hm := c_maskI h n q hl
  go_enter Try.func129, Try.ntmps129
  go_wp2_with (first
    | (go_at_call 182
       (with_reducible refine hm.mono ?_)
       rintro e w1 ⟨rfl, hb1⟩
       have HB1 := Lib.hid hb1
       clear hb1 hm))
  go_ret
  exact ⟨rfl, HB1.out⟩
theorem c_turn_new (h : Dk w p g mb c d) (ho : d.ops + 1 < 1000000000) (hb : d.broken = false) (n q : Nat) (X : Int) (x : Nat) (hX : X = (x : Int)) (hx : x < 18446744073709551616) (hne : q ≠ x) (hl : latest d 6 2 = (n, q)) (e : Nat) (hs : sput d 6 2 x = (d', e)) :
    Calls Try.prog 181 #[.agg #[.pointer (some ⟨p, 0, none⟩)], .int .u64 X] w fun e' w' => e' = .returned (.int .i64 (e : Int)) ∧ Dk w' p g mb c d' ∧ Fr (fun k => k = p ∨ k = g ∨ k = mb) w w' := by
  have hX' := heap_alloc_new w (.cells #[.pointer (some ⟨p, 0, none⟩)] 264)
  have hB := ((Below.refl w.heap.size w).alloc (Nat.le_refl _) (.cells #[.pointer (some ⟨p, 0, none⟩)] 264))
  have hq : ((q : Int) == X) = false := by simp [hX]; omega
  have Hq := Lib.hid hq
  have HX := Lib.hid hX
  have HK := Lib.hid (h.bel hB)
  have HB := Lib.hid hB
  have Hbr := Lib.hid hb
  have Hs := Lib.hid hs
  have X1 := Lib.hid hX'
  have d1 := Actlog.cell1 hX'
  have hm := fun w (h : Dk w p g mb c d) => c_maskI h n q hl
  clear h hs hb hB hX hq hX' hl
  go_enter Try.func181, Try.ntmps181
  go_upto_block 0 with (fail)
  generalize w.alloc (.cells #[.pointer (some ⟨p, 0, none⟩)] 264) = W1 at *
  go_wp2_with (first
    | (go_at_call 19
       (with_reducible refine (c_Made HK.out).mono ?_)
       rintro e w' ⟨rfl, rfl⟩)
    | (go_at_call 20
       (with_reducible refine (c_Broken HK.out).mono ?_)
       rintro e w' ⟨rfl, rfl⟩
       rw [Hbr.out])
    | (go_at_call 182
       (with_reducible refine (hm _ HK.out).mono ?_)
       rintro e w2 ⟨rfl, hb2⟩
       have HB2 := Lib.hid (HB.out.trans (hb2.mono HB.out.size))
       have HK2 := Lib.hid (HK.out.bel hb2)
       have d2 := Actlog.cell1 ((hb2.block _ (heap_lt X1.out)).trans X1.out)
       have hq := Hq.out
       clear hb2 hm d1)
    | (go_at_call 213
       (with_reducible refine (c_PutI HK2.out ho 6 2 _ x HX.out hx _ Hs.out).mono ?_)
       rintro e w3 ⟨rfl, hk3, f3⟩
       have HK3 := Lib.hid hk3
       have HF3 := Lib.hid ((Fr.of_bel (S := fun k => k = p ∨ k = g ∨ k = mb) HB2.out).trans f3 (fun _ _ e => e))
       clear hk3 f3))
  go_ret
  exact ⟨rfl, HK3.out, HF3.out⟩
theorem c_Put_new (h : Dk w p g mb c d) (ho : d.ops + 1 < 1000000000) (hb : d.broken = false) (n q : Nat) (X : Int) (x : Nat) (hX : X = (x : Int)) (hx : x < 18446744073709551616) (hne : q ≠ x) (hl : latest d 6 2 = (n, q)) (e : Nat) (hs : sput d 6 2 x = (d', e)) :
    Calls Try.prog 128 #[.pointer (some ⟨p, 0, none⟩), .int .u64 X] w fun e' w' => e' = .returned (.int .i64 (e : Int)) ∧ Dk w' p g mb c d' ∧ Fr (fun k => k = p ∨ k = g ∨ k = mb) w w' := by
  have ht := c_turn_new h ho hb n q X x hX hx hne hl e hs
  clear hX hs hl
  go_enter Try.func128, Try.ntmps128
  go_wp2_with (first
    | (go_at_call 181
       (with_reducible refine ht.mono ?_)
       rintro e w1 ⟨rfl, hk1, f1⟩
       have HK1 := Lib.hid hk1
       have HF1 := Lib.hid f1
       clear hk1 f1 ht))
  go_ret
  exact ⟨rfl, HK1.out, HF1.out⟩
theorem c_Clear6 (h : Dk w p g mb c d) (ho : d.ops + 1 < 1000000000) (hb : d.broken = false) (n : Nat) (hl : latest d 6 2 = (n, 6)) (hs : sput d 6 2 4 = (d', 0)) :
    Calls Try.prog 133 #[.pointer (some ⟨p, 0, none⟩), .int .i64 1] w fun e' w' => e' = .returned (.tuple #[.int .u64 4, .int .i64 0]) ∧ Dk w' p g mb c d' ∧ Fr (fun k => k = p ∨ k = g ∨ k = mb) w w' := by
  have hB := ((Below.refl w.heap.size w).alloc (Nat.le_refl _) (.cells #[.pointer (some ⟨p, 0, none⟩)] 264))
  have HB := Lib.hid hB
  have HK := Lib.hid (h.bel hB)
  have hm := fun w (h : Dk w p g mb c d) => c_maskI h n 6 hl
  have ht := fun w (h : Dk w p g mb c d) => c_turn_new h ho hb n 6 4 4 rfl (by omega) (by omega) hl 0 hs
  clear h hB hl hs hb
  go_enter Try.func133, Try.ntmps133
  go_wp2_with (first
    | (go_at_call 182
       (with_reducible refine (hm _ HK.out).mono ?_)
       rintro e w1 ⟨rfl, hb1⟩
       have HB1 := Lib.hid (HB.out.trans (hb1.mono HB.out.size))
       have HK1 := Lib.hid (HK.out.bel hb1)
       clear hb1 hm)
    | (go_at_call 186
       (with_reducible refine (c_Without6 _).mono ?_)
       rintro e w2 ⟨rfl, rfl⟩)
    | (go_at_call 181
       (with_reducible refine (ht _ HK1.out).mono ?_)
       rintro e w3 ⟨rfl, hk3, f3⟩
       have HK3 := Lib.hid hk3
       have HF3 := Lib.hid ((Fr.of_bel (S := fun k => k = p ∨ k = g ∨ k = mb) HB1.out).trans f3 (fun _ _ e => e))
       clear hk3 f3 ht))
  go_ret2
  exact ⟨rfl, HK3.out, HF3.out⟩
end
theorem l1 : latest (Dsk.new 12) 6 2 = (0, 0) := latest_new 12 6 2
theorem l2 : (sput (Dsk.new 12) 6 2 6).2 = 0 ∧ (sput (Dsk.new 12) 6 2 6).1.broken = false ∧ (sput (Dsk.new 12) 6 2 6).1.ops + 1 < 1000000000 ∧ latest (sput (Dsk.new 12) 6 2 6).1 6 2 = (1, 6) ∧ (sput (sput (Dsk.new 12) 6 2 6).1 6 2 4).2 = 0 ∧ latest (sput (sput (Dsk.new 12) 6 2 6).1 6 2 4).1 6 2 = (2, 4) := by decide +kernel
end Go.Proofs.Ytplemdgihlabgaa.Dirty
