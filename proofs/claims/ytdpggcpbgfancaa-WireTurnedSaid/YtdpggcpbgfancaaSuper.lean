/- Contracts of the package super; the law SuperNone, walked. Conditions: none. -/
import Derived.Test.YtdpggcpbgfancaaSlots6
namespace Go.Proofs.Ytdpggcpbgfancaa.Super
open Go.RowKit Tw Disk Slots
set_option maxHeartbeats 4000000
set_option maxRecDepth 100000
theorem c_word (n q : Nat) (w : World) (hq : q < 4294967296) : Calls Try.prog 110 #[.int .u32 (n : Int), .int .u64 (q : Int)] w fun e w' => e = .returned (.int .u32 (q : Int)) ∧ w = w' := by
  have hw : IntKind.u32.wrap (q : Int) = (q : Int) := by simp [IntKind.wrap, IntKind.bits, IntKind.signed]; omega
  go_enter Try.func110, Try.ntmps110
  go_wp2
  go_ret
  refine ⟨?_, rfl⟩
  first
    | rfl
    | (simp; omega)
theorem c_Boot_of (u : Value) (n q : Nat) (w : World) (hq : q < 4294967296) (hl : ∀ w', Below w.heap.size w w' → Calls Try.prog 43 #[u, .int .i64 0, .int .i64 2] w' fun e w'' => e = .returned (.tuple #[.int .u32 (n : Int), .int .u64 (q : Int)]) ∧ Below w'.heap.size w' w'') :
    Calls Try.prog 49 #[u] w fun e w' => e = .returned (.int .u32 (q : Int)) ∧ Below w.heap.size w w' := by
  have hc := fun w => c_word n q w hq
  go_enter Try.func49, Try.ntmps49
  go_wp2_with (first
    | (go_at_call 43
       (with_reducible refine (hl _ (Below.refl _ _)).mono ?_)
       rintro e w2 ⟨rfl, hb2⟩
       have HB2 := Lib.hid hb2
       clear hb2 hl)
    | (go_at_call 110
       (with_reducible refine (hc _).mono ?_)
       rintro e w3 ⟨rfl, rfl⟩
       clear hc))
  go_ret
  exact ⟨rfl, HB2.out⟩
theorem c_Boot_nil (w : World) : Calls Try.prog 49 #[.pointer none] w fun e w' => e = .returned (.int .u32 0) ∧ Below w.heap.size w w' :=
  c_Boot_of _ 0 0 w (by omega) (fun w' _ => c_Latest_nil 0 2 w')
theorem c_Put_nilI (b s X : Int) (w : World) : Calls Try.prog 44 #[.pointer none, .int .i64 b, .int .i64 s, .int .u64 X] w fun e w' => e = .returned (.int .i64 1) ∧ Below w.heap.size w w' := by
  have HB := Lib.hid ((Below.refl _ _).alloc (Nat.le_refl w.heap.size) (.cells #[.int .i64 b, .int .i64 s] 134))
  go_enter Try.func44, Try.ntmps44
  go_wp2_with (first
    | (go_at_call 104
       (with_reducible refine (c_Made_nil _).mono ?_)
       rintro e w' ⟨rfl, rfl⟩))
  go_ret
  exact ⟨rfl, by have h := HB.out; simpa using h⟩
theorem c_Next_nil (w : World) : Calls Try.prog 47 #[.pointer none] w fun e w' => e = .returned (.tuple #[.int .u32 0, .int .i64 1]) ∧ Below w.heap.size w w' := by
  go_enter Try.func47, Try.ntmps47
  go_wp2_with (first
    | (go_at_call 49
       (with_reducible refine (c_Boot_nil _).mono ?_)
       rintro e w2 ⟨rfl, hb2⟩
       have HB2 := Lib.hid hb2
       clear hb2)
    | (go_at_call 44
       (with_reducible refine (c_Put_nilI 0 2 1 _).mono ?_)
       rintro e w3 ⟨rfl, hb3⟩
       have HB3 := Lib.hid (HB2.out.trans (hb3.mono HB2.out.size))
       clear hb3))
  go_ret2
  exact ⟨rfl, HB3.out⟩
section
variable {w : World} {p g mb c : Nat} {d d' : Dsk}
theorem c_BootI (h : Dk w p g mb c d) (n q : Nat) (hl : latest d 0 2 = (n, q)) (hq : q < 4294967296) : Calls Try.prog 49 #[.pointer (some ⟨p, 0, none⟩)] w fun e w' => e = .returned (.int .u32 (q : Int)) ∧ Below w.heap.size w w' :=
  c_Boot_of _ n q w hq (fun w' hb => by
    have h1 := c_Latest (h.bel hb) 0 2
    rw [hl] at h1
    exact h1)
theorem c_NextI (h : Dk w p g mb c d) (ho : d.ops + 1 < 1000000000) (n q e r : Nat) (hl : latest d 0 2 = (n, q)) (hq : q < 4294967295) (hs : sput d 0 2 (q + 1) = (d', e)) (hr : r = if e = 0 then q + 1 else 0) :
    Calls Try.prog 47 #[.pointer (some ⟨p, 0, none⟩)] w fun e' w' => e' = .returned (.tuple #[.int .u32 (r : Int), .int .i64 (e : Int)]) ∧ Dk w' p g mb c d' ∧ Fr (fun k => k = p ∨ k = g ∨ k = mb) w w' := by
  have HK := Lib.hid h
  have Hl := Lib.hid hl
  have Hs := Lib.hid hs
  clear h hl hs
  by_cases he : e = 0
  · rw [if_pos he] at hr
    subst he hr
    go_enter Try.func47, Try.ntmps47
    go_wp2_with (first
      | (go_at_call 49
         (with_reducible refine (c_BootI HK.out n q Hl.out (by omega)).mono ?_)
         rintro e w2 ⟨rfl, hb2⟩
         have HF2 := Lib.hid (Fr.of_bel (S := fun k => k = p ∨ k = g ∨ k = mb) hb2)
         have HK2 := Lib.hid (HK.out.bel hb2)
         clear hb2)
      | (go_at_call 44
         (with_reducible refine (c_PutI HK2.out ho 0 2 _ (q + 1) (by omega) (by omega) _ Hs.out).mono ?_)
         rintro e w3 ⟨rfl, hk3, f3⟩
         have HF3 := Lib.hid (HF2.out.trans f3 (fun _ _ e => e))
         have HK3 := Lib.hid hk3
         clear hk3 f3))
    go_ret2
    exact ⟨rfl, HK3.out, HF3.out⟩
  · rw [if_neg he] at hr
    subst hr
    have hne : ((e : Int) != 0) = true := by simp; omega
    clear he
    go_enter Try.func47, Try.ntmps47
    go_wp2_with (first
      | (go_at_call 49
         (with_reducible refine (c_BootI HK.out n q Hl.out (by omega)).mono ?_)
         rintro e w2 ⟨rfl, hb2⟩
         have HF2 := Lib.hid (Fr.of_bel (S := fun k => k = p ∨ k = g ∨ k = mb) hb2)
         have HK2 := Lib.hid (HK.out.bel hb2)
         clear hb2)
      | (go_at_call 44
         (with_reducible refine (c_PutI HK2.out ho 0 2 _ (q + 1) (by omega) (by omega) _ Hs.out).mono ?_)
         rintro e w3 ⟨rfl, hk3, f3⟩
         have HF3 := Lib.hid (HF2.out.trans f3 (fun _ _ e => e))
         have HK3 := Lib.hid hk3
         clear hk3 f3))
    go_ret2
    exact ⟨rfl, HK3.out, HF3.out⟩
theorem c_Fuse (h : Dk w p g mb c d) (k : Int) (hk : -9223372036854775808 ≤ k ∧ k ≤ 9223372036854775807) : Calls Try.prog 48 #[.pointer (some ⟨p, 0, none⟩), .int .i64 k] w fun e' w' => e' = .returned (.tuple #[]) ∧ Dk w' p g mb c (d.setFuse k) ∧ Fr (fun k => k = p) w w' := by
  obtain ⟨k0, k1, k2, k3, k4⟩ := h.cells
  have q2 := h.frozen 2
  have H := Lib.hid h
  have hok : (d.setFuse k).Ok := ⟨h.ok.n, h.ok.safe, h.ok.fresh, by simp only [Dsk.setFuse]; omega, h.ok.ops⟩
  have Hok := Lib.hid hok
  clear h hok
  by_cases hk1 : -1 ≤ k
  · have hm : max k (-1) = k := by omega
    have hm2 : d.setFuse k = { d with fuse := k, broken := d.broken, ops := d.ops } := by unfold Dsk.setFuse; rw [hm]
    have Hm2 := Lib.hid hm2
    clear hm2
    go_enter Try.func48, Try.ntmps48
    go_wp2_with (first
      | (go_at_call 104
         (with_reducible refine (c_Made H.out).mono ?_)
         rintro e w' ⟨rfl, rfl⟩))
    refine bodyPost_end (results_none rfl _ _ _) rfl ?_
    have hok := Hok.out
    rw [Hm2.out] at hok ⊢
    refine ⟨rfl, H.out.reset (fr_set w p 2 _) (Nat.le_refl _) hok ?_, fr_set w p 2 _⟩
    rw [heap_setCell_same _ p 2 _ _ _ H.out.blk]
    simp
  · have hm : max k (-1) = -1 := by omega
    have hm2 : d.setFuse k = { d with fuse := -1, broken := d.broken, ops := d.ops } := by unfold Dsk.setFuse; rw [hm]
    have Hm2 := Lib.hid hm2
    clear hm2
    go_enter Try.func48, Try.ntmps48
    go_wp2_with (first
      | (go_at_call 104
         (with_reducible refine (c_Made H.out).mono ?_)
         rintro e w' ⟨rfl, rfl⟩))
    refine bodyPost_end (results_none rfl _ _ _) rfl ?_
    have hok := Hok.out
    rw [Hm2.out] at hok ⊢
    refine ⟨rfl, H.out.reset (fr_set w p 2 _) (Nat.le_refl _) hok ?_, fr_set w p 2 _⟩
    rw [heap_setCell_same _ p 2 _ _ _ H.out.blk]
    simp
end
theorem l1 : latest (Dsk.new 8) 0 2 = (0, 0) := latest_new 8 0 2
theorem l2 : (sput (Dsk.new 8) 0 2 1).2 = 0 ∧ (sput (Dsk.new 8) 0 2 1).1.ops + 1 < 1000000000 ∧ latest (sput (Dsk.new 8) 0 2 1).1 0 2 = (1, 1) ∧ (sput (sput (Dsk.new 8) 0 2 1).1 0 2 2).2 = 0 ∧ latest (sput (sput (Dsk.new 8) 0 2 1).1 0 2 2).1 0 2 = (2, 2) := by decide +kernel
theorem l3 : latest ((Dsk.new 8).setFuse 0) 0 2 = (0, 0) ∧ (sput ((Dsk.new 8).setFuse 0) 0 2 1).2 = 3 ∧ latest (sput ((Dsk.new 8).setFuse 0) 0 2 1).1 0 2 = (0, 0) := by decide +kernel
theorem c_lives (w : World) : Calls Try.prog 50 #[] w fun e w' => e = .returned (.bool true) ∧ Below w.heap.size w w' := by
  obtain ⟨t1, t2, t3, t4, t5⟩ := l2
  obtain ⟨⟨d1, e1⟩, h1⟩ : ∃ r, sput (Dsk.new 8) 0 2 1 = r := ⟨_, rfl⟩
  rw [h1] at t1 t2 t3 t4 t5
  simp only at t1 t2
  obtain ⟨⟨d2, e2⟩, h2⟩ : ∃ r, sput d1 0 2 2 = r := ⟨_, rfl⟩
  rw [h2] at t4 t5
  simp only at t4 t5
  subst t1 t4
  have H1 := Lib.hid h1
  have H2 := Lib.hid h2
  have H3 := Lib.hid t3
  have H4 := Lib.hid t2
  have H5 := Lib.hid t5
  clear h1 h2 t3 t2 t5
  go_enter Try.func50, Try.ntmps50
  go_wp2_with (first
    | (go_at_call 45
       (with_reducible refine (c_dNewI' 8 8 rfl _ (by omega) (by omega)).mono ?_)
       rintro e w1 ⟨p, g, mb, rfl, hk, hge, hb1⟩
       have HB := Lib.hid hb1
       have HK := Lib.hid hk
       have HG := Lib.hid hge
       clear hb1 hk hge)
    | (go_at_call 47
       (with_reducible refine (c_NextI HK.out (by decide) 0 0 0 1 l1 (by omega) H1.out rfl).mono ?_)
       rintro e w2 ⟨rfl, hk2, f2⟩
       have HB := Lib.hid (Dk.fresh HG.out HB.out f2)
       have HK2 := Lib.hid hk2
       clear hk2 f2 H1 HK)
    | (go_at_call 47
       (with_reducible refine (c_NextI HK2.out H4.out 1 1 0 2 H3.out (by omega) H2.out rfl).mono ?_)
       rintro e w3 ⟨rfl, hk3, f3⟩
       have HB := Lib.hid (Dk.fresh HG.out HB.out f3)
       have HK3 := Lib.hid hk3
       clear hk3 f3 H2 HK2)
    | (go_at_call 49
       (with_reducible refine (c_BootI HK3.out 2 2 H5.out (by omega)).mono ?_)
       rintro e w4 ⟨rfl, hb4⟩
       have HB4 := Lib.hid (HB.out.trans (hb4.mono HB.out.size))
       clear hb4))
  go_ret
  exact ⟨rfl, HB4.out⟩
theorem w_SuperNone (k : Int) (w : World) : Calls Try.prog 13 #[.int .i64 k] w fun e w' => e = .returned (.bool true) ∧ Below w.heap.size w w' := by
  obtain ⟨t1, t2, t3⟩ := l3
  obtain ⟨⟨d1, e1⟩, h1⟩ : ∃ r, sput ((Dsk.new 8).setFuse 0) 0 2 1 = r := ⟨_, rfl⟩
  rw [h1] at t2 t3
  simp only at t2 t3
  subst t2
  have H1 := Lib.hid h1
  have H2 := Lib.hid t1
  have H3 := Lib.hid t3
  clear h1 t1 t3
  go_enter Try.func13, Try.ntmps13
  go_wp2_with (first
    | (go_at_call 47
       (with_reducible refine (c_Next_nil _).mono ?_)
       rintro e w1 ⟨rfl, hb1⟩
       have HB1 := Lib.hid hb1
       clear hb1)
    | (go_at_call 45
       (with_reducible refine (c_dNewI' 8 8 rfl _ (by omega) (by omega)).mono ?_)
       rintro e w2 ⟨p, g, mb, rfl, hk, hge, hb1⟩
       have HG : Hid (w.heap.size ≤ p ∧ w.heap.size ≤ g ∧ w.heap.size ≤ mb) := Lib.hid (by have := HB1.out.size; omega)
       have HB := Lib.hid (HB1.out.trans (hb1.mono HB1.out.size))
       have HK := Lib.hid hk
       clear hb1 hk hge)
    | (go_at_call 48
       (with_reducible refine (c_Fuse HK.out 0 (by omega)).mono ?_)
       rintro e w3 ⟨rfl, hk3, f3⟩
       have HB := Lib.hid (Dk.fresh HG.out HB.out (f3.mono (fun _ _ e => .inl e)))
       have HK3 := Lib.hid hk3
       clear hk3 f3 HK)
    | (go_at_call 47
       (with_reducible refine (c_NextI HK3.out (by decide) 0 0 3 0 H2.out (by omega) H1.out rfl).mono ?_)
       rintro e w4 ⟨rfl, hk4, f4⟩
       have HB := Lib.hid (Dk.fresh HG.out HB.out f4)
       have HK4 := Lib.hid hk4
       clear hk4 f4 HK3)
    | (go_at_call 49
       (with_reducible refine (c_Boot_nil _).mono ?_)
       rintro e w5 ⟨rfl, hb5⟩
       have HB := Lib.hid (HB.out.trans (hb5.mono HB.out.size))
       have HK4 := Lib.hid (HK4.out.bel hb5)
       clear hb5)
    | (go_at_call 49
       (with_reducible refine (c_BootI HK4.out 0 0 H3.out (by omega)).mono ?_)
       rintro e w6 ⟨rfl, hb6⟩
       have HB := Lib.hid (HB.out.trans (hb6.mono HB.out.size))
       clear hb6)
    | (go_at_call 50
       (with_reducible refine (c_lives _).mono ?_)
       rintro e w7 ⟨rfl, hb7⟩
       have HB7 := Lib.hid (HB.out.trans (hb7.mono HB.out.size))
       clear hb7))
  go_ret
  exact ⟨rfl, HB7.out⟩
end Go.Proofs.Ytdpggcpbgfancaa.Super
