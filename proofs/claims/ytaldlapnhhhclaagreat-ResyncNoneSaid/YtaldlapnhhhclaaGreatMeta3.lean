/- Contracts of the package meta: Start, Retire; the law MetaNone, walked. Conditions: none. -/
import Derived.Test.YtaldlapnhhhclaaGreatMeta2
set_option linter.unusedVariables false
set_option linter.unusedSimpArgs false
namespace Go.Proofs.YtaldlapnhhhclaaGreat.Meta
open Go.RowKit Tw Disk Slots
set_option maxHeartbeats 4000000
set_option maxRecDepth 100000
theorem c_Retire1_nil {w : World} {g1 g2 : Nat} {t1 t2 : TypeId} (X : Int) (h1 : w.heap[g1]? = some (.cells #[.pointer none] t1 (0, 0))) (h2 : w.heap[g2]? = some (.cells #[.int .u64 X] t2 (0, 0))) :
    Calls Tryz.prog 106 #[.pointer (some ⟨g1, 0, none⟩), .pointer (some ⟨g2, 0, none⟩)] w fun e w' => e = .returned (.int .i64 1) ∧ Below w.heap.size w w' := by
  have d1 := Actlog.cell1 h1
  have d2 := Actlog.cell1 h2
  clear h1 h2
  go_enter Tryz.func106, Tryz.ntmps106
  go_wp2_with (first
    | (go_at_call 19
       (with_reducible refine (Dirty.c_Put_nil _ _).mono ?_)
       rintro e w1 ⟨rfl, hb1⟩
       have HB1 := Lib.hid hb1
       clear hb1))
  go_ret
  exact ⟨rfl, HB1.out⟩
section
variable {w : World} {p g mb c : Nat} {d d' : Dsk}
theorem c_Retire1 {g1 g2 : Nat} {t1 t2 : TypeId} (h : Dk w p g mb c d) (ho : d.ops + 1 < 1000000000) (hb : d.broken = false) (n q : Nat) (X : Int) (x : Nat) (hX : X = (x : Int)) (hx : x < 18446744073709551616) (hne : q ≠ x) (hl : latest d 6 2 = (n, q)) (e : Nat) (hs : sput d 6 2 x = (d', e))
    (h1 : w.heap[g1]? = some (.cells #[.pointer (some ⟨p, 0, none⟩)] t1 (0, 0))) (h2 : w.heap[g2]? = some (.cells #[.int .u64 X] t2 (0, 0))) :
    Calls Tryz.prog 106 #[.pointer (some ⟨g1, 0, none⟩), .pointer (some ⟨g2, 0, none⟩)] w fun e' w' => e' = .returned (.int .i64 (e : Int)) ∧ Dk w' p g mb c d' ∧ Fr (fun k => k = p ∨ k = g ∨ k = mb) w w' := by
  have d1 := Actlog.cell1 h1
  have d2 := Actlog.cell1 h2
  have hp := Dirty.c_Put_new h ho hb n q X x hX hx hne hl e hs
  clear h1 h2 hX hl hs h hb
  go_enter Tryz.func106, Tryz.ntmps106
  go_wp2_with (first
    | (go_at_call 19
       (with_reducible refine hp.mono ?_)
       rintro e w1 ⟨rfl, hk1, f1⟩
       have HK1 := Lib.hid hk1
       have HF1 := Lib.hid f1
       clear hk1 f1 hp d1 d2))
  go_ret
  exact ⟨rfl, HK1.out, HF1.out⟩
theorem c_Retire2 {g1 : Nat} {t1 : TypeId} (h : Dk w p g mb c d) (hb : d.broken = false) (n : Nat) (hl : latest d 2 4 = (n, 0)) (h1 : w.heap[g1]? = some (.cells #[.pointer (some ⟨p, 0, none⟩)] t1 (0, 0))) :
    Calls Tryz.prog 107 #[.pointer (some ⟨g1, 0, none⟩)] w fun e' w' => e' = .returned (.int .i64 0) ∧ Below w.heap.size w w' := by
  have d1 := Actlog.cell1 h1
  have hp := Actlog.c_Put_same h hb n 0 0 rfl hl
  clear h1 hl h hb
  go_enter Tryz.func107, Tryz.ntmps107
  go_wp2_with (first
    | (go_at_call 80
       (with_reducible refine hp.mono ?_)
       rintro e w1 ⟨rfl, hb1⟩
       have HB1 := Lib.hid hb1
       clear hb1 hp d1))
  go_ret
  exact ⟨rfl, HB1.out⟩
end
theorem c_Retire_nil (X : Int) (w : World) : Calls Tryz.prog 56 #[.pointer none, .int .u64 X] w fun e w' => e = .returned (.int .i64 1) ∧ Below w.heap.size w w' := by
  obtain ⟨W3, hW3, x1, x2, x3, hb, hsz⟩ := three w (.cells #[.pointer none] 29) (.cells #[.int .u64 X] 22) (.cells #[.func (.func 106) #[] #[.pointer (some ⟨w.heap.size, 0, none⟩), .pointer (some ⟨w.heap.size + 1, 0, none⟩)], .func (.func 107) #[] #[.pointer (some ⟨w.heap.size, 0, none⟩)]] 145)
  have hst := c_steps_1 (w.heap.size + 1 + 1) (.pointer (some ⟨w.heap.size, 0, none⟩)) (.pointer (some ⟨w.heap.size + 1, 0, none⟩)) W3 (fun w' => Below W3.heap.size W3 w') x3 (c_Retire1_nil X x1 x2)
  have HB := Lib.hid hb
  clear x1 x2 x3 hb hsz
  go_enter Tryz.func56, Tryz.ntmps56
  go_wp2_with (first
    | (go_at_call 105
       rw [← hW3]
       refine hst.mono ?_
       rintro e w1 ⟨rfl, hb1⟩
       have HB1 := Lib.hid (HB.out.trans (hb1.mono HB.out.size))
       clear hb1 hst hW3))
  go_ret
  exact ⟨rfl, HB1.out⟩
section
variable {w : World} {p g mb c : Nat} {d d' : Dsk}
theorem c_Retire (h : Dk w p g mb c d) (ho : d.ops + 1 < 1000000000) (hb : d.broken = false) (n q n2 : Nat) (X : Int) (x : Nat) (hX : X = (x : Int)) (hx : x < 18446744073709551616) (hne : q ≠ x) (hl : latest d 6 2 = (n, q)) (hs : sput d 6 2 x = (d', 0)) (hb' : d'.broken = false) (hl2 : latest d' 2 4 = (n2, 0)) :
    Calls Tryz.prog 56 #[.pointer (some ⟨p, 0, none⟩), .int .u64 X] w fun e w' => e = .returned (.int .i64 0) ∧ Dk w' p g mb c d' ∧ Fr (fun k => k = p ∨ k = g ∨ k = mb) w w' := by
  have hlt := h.lts
  obtain ⟨W3, hW3, x1, x2, x3, hB, hsz⟩ := three w (.cells #[.pointer (some ⟨p, 0, none⟩)] 29) (.cells #[.int .u64 X] 22) (.cells #[.func (.func 106) #[] #[.pointer (some ⟨w.heap.size, 0, none⟩), .pointer (some ⟨w.heap.size + 1, 0, none⟩)], .func (.func 107) #[] #[.pointer (some ⟨w.heap.size, 0, none⟩)]] 145)
  have hst := c_steps (w.heap.size + 1 + 1) (.pointer (some ⟨w.heap.size, 0, none⟩)) (.pointer (some ⟨w.heap.size + 1, 0, none⟩)) W3 (fun w' => Dk w' p g mb c d' ∧ Fr (fun k => k = p ∨ k = g ∨ k = mb) W3 w') (fun w' => Dk w' p g mb c d' ∧ Fr (fun k => k = p ∨ k = g ∨ k = mb) W3 w') x3
    ((c_Retire1 (h.bel hB) ho hb n q X x hX hx hne hl 0 hs x1 x2).mono (by
      rintro e w1 ⟨rfl, hk1, f1⟩
      exact ⟨rfl, ⟨hk1, f1⟩, heap_fr x3 f1 (by omega)⟩))
    (fun w1 hp => (c_Retire2 hp.1 hb' n2 hl2 (heap_fr x1 hp.2 (by omega))).mono (by
      rintro e w2 ⟨rfl, hb2⟩
      exact ⟨rfl, hp.1.bel hb2, hp.2.trans (Fr.of_bel (S := fun _ => False) hb2) (fun _ _ e => e.elim)⟩))
  have HB := Lib.hid hB
  clear x1 x2 x3 hB hsz h hb hl hs hb' hl2 hX
  go_enter Tryz.func56, Tryz.ntmps56
  go_wp2_with (first
    | (go_at_call 105
       rw [← hW3]
       refine hst.mono ?_
       rintro e w1 ⟨rfl, hk1, f1⟩
       have HK1 := Lib.hid hk1
       have HF1 := Lib.hid ((Fr.of_bel (S := fun k => k = p ∨ k = g ∨ k = mb) HB.out).trans f1 (fun _ _ e => e))
       clear hk1 f1 hst hW3))
  go_ret
  exact ⟨rfl, HK1.out, HF1.out⟩
theorem cells3 {w : World} {g : Nat} {t : TypeId} {a b c : Value} (h : w.heap[g]? = some (.cells #[a, b, c] t (0, 0))) : w.cell? ⟨g, 0, none⟩ = some a ∧ w.cell? ⟨g, 1, none⟩ = some b ∧ w.cell? ⟨g, 2, none⟩ = some c := by
  simp [World.cell?, h]
/-- the first start -/
theorem c_Start (h : Dk w p g mb c d) (ho : d.ops + 1 < 1000000000) (n : Nat) (hl : latest d 0 2 = (n, 0)) (hs : sput d 0 2 1 = (d', 0)) (n1 n2 n3 : Nat) (l1 : latest d' 0 2 = (n1, 1)) (l2 : latest d' 2 4 = (n2, 0)) (l3 : latest d' 6 2 = (n3, 0)) :
    Calls Tryz.prog 69 #[.pointer (some ⟨p, 0, none⟩)] w fun e w' => e = .returned (.tuple #[.agg #[.int .u32 1, .int .u64 0, .int .u64 0], .int .i64 0]) ∧ Dk w' p g mb c d' ∧ Fr (fun k => k = p ∨ k = g ∨ k = mb) w w' := by
  have hlt := h.lts
  have hB := ((Below.refl w.heap.size w).alloc (Nat.le_refl _) (.cells #[.int .u32 0, .int .u64 0, .int .u64 0] 75))
  have HB := Lib.hid hB
  have HX := Lib.hid (heap_alloc_new w (.cells #[.int .u32 0, .int .u64 0, .int .u64 0] 75))
  have HK := Lib.hid (h.bel hB)
  have hn := fun w (h : Dk w p g mb c d) => Super.c_NextI h ho n 0 0 1 hl (by omega) hs rfl
  have hlook := fun w (h : Dk w p g mb c d') => c_Look h n1 1 n2 0 n3 0 l1 (by omega) l2 l3
  clear h hl hs l1 l2 l3 hB
  go_enter Tryz.func69, Tryz.ntmps69
  go_upto_region 1 with (fail)
  generalize w.alloc (.cells #[.int .u32 0, .int .u64 0, .int .u64 0] 75) = W1 at *
  go_wp2_with (first
    | (go_at_call 125
       (with_reducible refine (hn _ HK.out).mono ?_)
       rintro e w1 ⟨rfl, hk1, f1⟩
       have HF1 := Lib.hid ((Fr.of_bel (S := fun k => k = p ∨ k = g ∨ k = mb) HB.out).trans f1 (fun _ _ e => e))
       have HK1 := Lib.hid hk1
       have HX1 := Lib.hid (heap_fr HX.out f1 (by omega))
       clear hk1 f1 hn)
    | (go_at_call 35
       (with_reducible refine (hlook _ HK1.out).mono ?_)
       rintro e w2 ⟨rfl, hb2⟩
       have HF2 := Lib.hid (HF1.out.trans (Fr.of_bel (S := fun _ => False) hb2) (fun _ _ e => e.elim))
       have HK2 := Lib.hid (HK1.out.bel hb2)
       have HX2 := Lib.hid ((Below.heap_alloc w2 (.cells #[.int .u32 1, .int .u64 0, .int .u64 0] 75) _ (heap_lt ((hb2.block _ (heap_lt HX1.out)).trans HX1.out))).trans ((hb2.block _ (heap_lt HX1.out)).trans HX1.out))
       clear hb2 hlook)
    | (refine wpL_store_all rfl rfl 75 (.tmp 2) (.tmp 24) rfl _ rfl _ rfl _ _ HX2.out (by kernel_rfl) rfl (by simp [Value.oneCell']) ?_
       intro w9 x9 g9
       have HR := Lib.hid x9
       have F9 := Lib.hid (((Fr.alloc (S := fun k => k = w.heap.size) (w := w2) (.cells #[.int .u32 1, .int .u64 0, .int .u64 0] 75)).trans (Fr.grown (S := fun k => k = w.heap.size) g9 (by simp)) (fun b hb e => e)))
       clear x9 g9))
  refine bodyPost_ret (results_cell2 rfl _ _ w.heap.size _ _ (0, 0) _ rfl HR.out Tryz.underlying75 rfl (by kernel_rfl) _ rfl) rfl ?_
  exact ⟨rfl, HK2.out.fr F9.out (by omega) (by omega) (by omega), HF2.out.trans F9.out (fun b hb e => by omega)⟩
end
theorem m1 : latest (Dsk.new 12) 0 2 = (0, 0) := latest_new 12 0 2
theorem m2 : (sput (Dsk.new 12) 0 2 1).2 = 0 ∧ latest (sput (Dsk.new 12) 0 2 1).1 0 2 = (1, 1) ∧ latest (sput (Dsk.new 12) 0 2 1).1 2 4 = (0, 0) ∧ latest (sput (Dsk.new 12) 0 2 1).1 6 2 = (0, 0) ∧ (sput (Dsk.new 12) 0 2 1).1.ops + 1 < 1000000000 ∧ (sput (Dsk.new 12) 0 2 1).1.broken = false := by decide +kernel
theorem m3 : (sput (sput (Dsk.new 12) 0 2 1).1 6 2 7).2 = 0 ∧ (sput (sput (Dsk.new 12) 0 2 1).1 6 2 7).1.broken = false ∧ latest (sput (sput (Dsk.new 12) 0 2 1).1 6 2 7).1 0 2 = (1, 1) ∧ latest (sput (sput (Dsk.new 12) 0 2 1).1 6 2 7).1 2 4 = (0, 0) ∧ latest (sput (sput (Dsk.new 12) 0 2 1).1 6 2 7).1 6 2 = (1, 7) := by decide +kernel
theorem c_lives (w : World) : Calls Tryz.prog 36 #[] w fun e w' => e = .returned (.bool true) ∧ Below w.heap.size w w' := by
  obtain ⟨t1, t2, t3, t4, t5, t6⟩ := m2
  obtain ⟨u1, u2, u3, u4, u5⟩ := m3
  obtain ⟨⟨d1, e1⟩, h1⟩ : ∃ r, sput (Dsk.new 12) 0 2 1 = r := ⟨_, rfl⟩
  rw [h1] at t1 t2 t3 t4 t5 t6 u1 u2 u3 u4 u5
  simp only at t1 t5 t6
  obtain ⟨⟨d2, e2⟩, h2⟩ : ∃ r, sput d1 6 2 7 = r := ⟨_, rfl⟩
  rw [h2] at u1 u2 u3 u4 u5
  simp only at u1 u2
  subst t1 u1
  have H1 := Lib.hid h1
  have T2 := Lib.hid t2
  have T3 := Lib.hid t3
  have T4 := Lib.hid t4
  have T5 := Lib.hid t5
  have T6 := Lib.hid t6
  have H2 := Lib.hid h2
  have U2 := Lib.hid u2
  have U3 := Lib.hid u3
  have U4 := Lib.hid u4
  have U5 := Lib.hid u5
  clear h1 h2 t2 t3 t4 t5 t6 u2 u3 u4 u5
  go_enter Tryz.func36, Tryz.ntmps36
  go_wp2_with (first
    | (go_at_call 17
       (with_reducible refine (c_dNewI' 12 12 rfl _ (by omega) (by omega)).mono ?_)
       rintro e w1 ⟨p, g, mb, rfl, hk, hge, hb1⟩
       have HB := Lib.hid hb1
       have HK := Lib.hid hk
       have HG := Lib.hid hge
       clear hb1 hk hge)
    | (go_at_call 69
       (with_reducible refine (c_Start HK.out (by decide) 0 m1 H1.out 1 0 0 T2.out T3.out T4.out).mono ?_)
       rintro e w2 ⟨rfl, hk2, f2⟩
       have HB := Lib.hid (Dk.fresh HG.out HB.out f2)
       have hk3 := hk2.bel ((Below.refl _ _).alloc (Nat.le_refl _) (.cells #[.int .u32 1, .int .u64 0, .int .u64 0] 75))
       have HB2 := Lib.hid (HB.out.trans (((Below.refl _ _).alloc (Nat.le_refl _) (.cells #[.int .u32 1, .int .u64 0, .int .u64 0] 75)).mono HB.out.size))
       have X2 := Lib.hid (heap_alloc_new w2 (.cells #[.int .u32 1, .int .u64 0, .int .u64 0] 75))
       have hs2 := HK.out.lts
       have hlts := hk2.lts
       have HK2 := Lib.hid hk3
       clear hk2 hk3 f2 H1 HK)
    | (go_at_call 56
       (with_reducible refine (c_Retire HK2.out T5.out T6.out 0 0 0 7 7 rfl (by omega) (by omega) T4.out H2.out U2.out U4.out).mono ?_)
       rintro e w3 ⟨rfl, hk3, f3⟩
       have HB3 := Lib.hid (Dk.fresh HG.out HB2.out f3)
       have HK3 := Lib.hid hk3
       have hx3 := heap_fr X2.out f3 (by omega)
       obtain ⟨d1, d2, d3⟩ := cells3 hx3
       clear hk3 f3 HK2 hx3)
    | (go_at_call 35
       (with_reducible refine (c_Look HK3.out 1 1 0 0 1 7 U3.out (by omega) U4.out U5.out).mono ?_)
       rintro e w4 ⟨rfl, hb4⟩
       have HB4 := Lib.hid (HB3.out.trans (hb4.mono HB3.out.size))
       clear hb4)
    | (go_at_call 34
       (with_reducible refine (c_Mine _).mono ?_)
       rintro e w5 ⟨rfl, hb5⟩
       have HB5 := Lib.hid (HB4.out.trans (hb5.mono HB4.out.size))
       clear hb5))
  go_ret
  exact ⟨rfl, HB5.out⟩
end Go.Proofs.YtaldlapnhhhclaaGreat.Meta
