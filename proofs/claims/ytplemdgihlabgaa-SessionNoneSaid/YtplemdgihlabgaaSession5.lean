/- Contracts of the package session: all, the first packet; lives. Conditions: none. -/
import Derived.Test.YtplemdgihlabgaaSession4
set_option linter.unusedVariables false
set_option linter.unusedSimpArgs false
namespace Go.Proofs.Ytplemdgihlabgaa.Session
open Go.RowKit Tw Bx
set_option maxHeartbeats 4000000
set_option maxRecDepth 100000
theorem info_sl : (Try.prog.info? 62).map (fun i => (i.zero, i.size, i.bytes)) = some (some (.slice none 0 0), 1, 24) := by kernel_rfl
section
variable {w : World} {S ob ib kp : Nat} {win lim miss : Int} {m p : Nat}
theorem c_all1 (h : Se w S ob ib kp (m : Int) (p : Int) win lim miss) (hm : m < 4294967296) (hp : p < 4294967296) (Bq : Nat) (t : TypeId) (hq : w.heap[Bq]? = some (.cells #[.int .i64 0] t (0, 0))) : Calls Try.prog 102 #[.pointer (some ⟨S, 0, none⟩), .func (.func 103) #[] #[], .slice (some ⟨Bq, 0, none⟩) 1 1] w fun e w' => (∃ A c, e = .returned (.slice A 1 c)) ∧ Below w.heap.size w w' := by
  have H := Lib.hid h
  have Hq := Lib.hid hq
  clear h hq
  go_enter Try.func102, Try.ntmps102
  go_wp2_with fail
  go_loopw [7, 12] (fun v7 v wr => ∃ (i : Nat) (A : Option Addr) (c : Nat) (xs : List Value), i ≤ 1 ∧ v = .int .i64 (i : Int) ∧ v7 = .slice A i c ∧ Hid (Tw.Own wr w.heap.size 62 1 A i c xs) ∧ Hid (Below w.heap.size w wr)) (fun _ v _ => 1 - (intOf v).toNat)
  case atStart => exact ⟨0, none, 0, [], Nat.zero_le _, rfl, rfl, Lib.hid (World.ownsRow_nil _ _ _ _), Lib.hid (Below.refl _ _)⟩
  case round =>
    obtain ⟨i, A, c, xs, hi, rfl, rfl, HO, HB⟩ := hrel
    by_cases hi0 : i = 0
    · subst hi0
      have hx := (HB.out.block _ (heap_lt Hq.out)).trans Hq.out
      have c0 : wr.cell? ⟨Bq, 0, none⟩ = some (.int .i64 0) := by simp [World.cell?, hx]
      clear hx
      go_wp2_with (first
        | (go_at_call 103
           (with_reducible refine (c_ping (H.out.bel HB.out) hm hp 0).mono ?_)
           rintro e w5 ⟨⟨A5, n5, c5, rfl⟩, hb5⟩
           have HO := Lib.hid (Tw.Own.bel HO.out hb5)
           have HB := Lib.hid (HB.out.trans (hb5.mono HB.out.size))
           clear hb5 c0)
        | (at_builtin
           refine wpL_append _ rfl (.tmp 16) (.tmp 21) _ rfl w w.heap.size (bel_alloc HB.out HB.out.size _) (size_alloc_le HB.out.size _) 62 _ 1 24 Try.underlying106 info_sl rfl (by omega) _ _ _ xs rfl (Tw.Own.bel HO.out ((Below.refl _ _).alloc (Nat.le_refl _) _)) _ 1 1 [.slice A5 n5 c5] rfl (rd_one w5 _ _) (by intro u hu; simp at hu; subst hu; rfl) 1 (xs ++ [.slice A5 n5 c5]) rfl rfl (by unfold maxLen; omega) (by omega) ?_
           intro A9 c9 w9 hown9 hb9 hg9 ho9
           have HO := Lib.hid hown9
           have HB := Lib.hid hb9
           clear hown9 hb9 hg9 ho9))
      go_roundw
      case rel => exact ⟨1, A9, c9, _, by omega, by go_num, rfl, HO, HB⟩
      case measure => simp [intOf] <;> omega
    · obtain rfl : i = 1 := by omega
      go_wp2_with fail
      go_ret
      exact ⟨⟨A, c, rfl⟩, HB.out⟩
theorem got3 {W : World} {g : Nat} {t : TypeId} {a b c : Value} (h : W.heap[g]? = some (.cells #[a, b, c] t (0, 0))) : W.cell? ⟨g, 0, none⟩ = some a ∧ W.cell? ⟨g, 1, none⟩ = some b ∧ W.cell? ⟨g, 2, none⟩ = some c ∧ W.frozen? ⟨g, 0, none⟩ = false := by
  simp [World.cell?, World.frozen?, h]
theorem pk6 {W : World} {g : Nat} {t : TypeId} {a b c d e f : Value} (h : W.heap[g]? = some (.cells #[a, b, c, d, e, f] t (0, 0))) : W.cell? ⟨g, 0, none⟩ = some a ∧ W.cell? ⟨g, 1, none⟩ = some b := by
  simp [World.cell?, h]
theorem Se.fr {w' : World} {my peer : Int} {T : Nat → Prop} (h : Se w S ob ib kp my peer win lim miss) (hf : Fr T w w') (h1 : ¬ T S) (h2 : ¬ T ib) (h3 : ¬ T kp) : Se w' S ob ib kp my peer win lim miss :=
  ⟨heap_fr h.blk hf h1, heap_fr h.inb hf h2, heap_fr h.kee hf h3, h.ne⟩
theorem got_set (w3 : World) (g : Nat) (t : TypeId) (K : Nat) (h : w3.heap[g]? = some (.cells #[.bool false, .bool false, .slice none 0 0] t (0, 0))) : Fr (fun k => k = g) w3 ((w3.drewN K).setCell ⟨g, 0, none⟩ (.bool true)) ∧ ((w3.drewN K).setCell ⟨g, 0, none⟩ (.bool true)).heap[g]? = some (.cells #[.bool true, .bool false, .slice none 0 0] t (0, 0)) := by
  have h1 : (w3.drewN K).heap[g]? = some (.cells #[.bool false, .bool false, .slice none 0 0] t (0, 0)) := h
  have h2 := heap_setCell_same (w3.drewN K) g 0 _ _ (.bool true) h1
  exact ⟨(Fr.drewN K).trans (Fr.setCell (S := fun k => k = g) (p := ⟨g, 0, none⟩) rfl _) (fun _ _ e => e), by simpa using h2⟩
theorem c_Take1 (h : Se w S ob ib kp 2 0 win lim miss) (hw : 1 ≤ win ∧ win ≤ 64) (hl : 0 < lim) (A : Option Addr) (n c : Nat) (b : List UInt8) (hb : Byt w A n c b) (hn : n ≤ 1000) (hp : Wire.parse b = (⟨1, 0, 1, 0, 0, []⟩, 0)) :
    Calls Try.prog 47 #[.pointer (some ⟨S, 0, none⟩), .slice A n c] w fun e w' => (∃ A2 c2, e = .returned (.tuple #[.agg #[.bool true, .bool false, .slice none 0 0], .slice A2 1 c2])) ∧ (∃ ob2 ib2, Se w' S ob2 ib2 kp 2 1 win lim 0) ∧ Fr (fun k => k = S ∨ k = kp) w w' := by
  have hB := ((Below.refl w.heap.size w).alloc (Nat.le_refl _) (.cells got0 105)).alloc (by simp) (.cells got0 105)
  have h1 := heap_alloc_new w (.cells got0 105)
  have h2 := heap_alloc_new (w.alloc (.cells got0 105)) (.cells got0 105)
  have h3 := (Below.heap_alloc (w.alloc (.cells got0 105)) (.cells got0 105) _ (heap_lt h1)).trans h1
  rw [World.size_alloc] at h2
  have H := Lib.hid (h.bel hB)
  have Hlt := Lib.hid (And.intro (heap_lt h.blk) (And.intro (heap_lt h.kee) (And.intro (heap_lt h.inb) h.ne)))
  have HB := Lib.hid hB
  have H3 := Lib.hid h3
  have H2 := Lib.hid h2
  have Hb := Lib.hid (hb.bel hB)
  have HP := Lib.hid hp
  clear h hB h1 h2 h3 hb hp
  unfold got0 at *
  go_enter Try.func47, Try.ntmps47
  go_upto_region 5 with (first
    | (go_at_call 99; (with_reducible refine (c_is H.out (by omega)).mono ?_); rintro e w' ⟨rfl, rfl⟩)
    | (go_at_call 100
       (with_reducible refine (Wire.c_Parse A n c b _ Hb.out hn).mono ?_)
       rw [HP.out]
       unfold Wire.pkV
       rintro e w2 ⟨A2, n2, c2, rfl, _, hb2⟩
       have H := Lib.hid (H.out.bel hb2)
       have H3 := Lib.hid ((hb2.block _ (heap_lt H3.out)).trans H3.out)
       have H2 := Lib.hid ((hb2.block _ (heap_lt H2.out)).trans H2.out)
       have HB := Lib.hid (HB.out.trans (hb2.mono HB.out.size))
       have HS2 := Lib.hid (heap_lt H2.out)
       have HX := Lib.hid (heap_alloc_new w2 (.cells #[.int .u32 0, .int .u32 0, .int .i64 0, .int .i64 0, .int .i64 0, .slice none 0 0] 92))
       have HXB := Lib.hid ((Below.refl w2.heap.size w2).alloc (Nat.le_refl _) (.cells #[.int .u32 0, .int .u32 0, .int .i64 0, .int .i64 0, .int .i64 0, .slice none 0 0] 92))
       clear hb2 Hb)
    | (refine wpL_store_all rfl rfl 92 (.tmp 7) (.tmp 17) rfl _ rfl _ rfl _ _ HX.out (by kernel_rfl) rfl (by simp [Value.oneCell']) ?_
       intro w3 x3 g3
       have hb3 := HXB.out.grown g3 HXB.out.size (by rintro k ⟨⟩; exact Nat.le_refl _)
       have H := Lib.hid (H.out.bel hb3)
       have H3 := Lib.hid ((hb3.block _ (heap_lt H3.out)).trans H3.out)
       have H2 := Lib.hid ((hb3.block _ (heap_lt H2.out)).trans H2.out)
       have HB := Lib.hid (HB.out.trans (hb3.mono HB.out.size))
       have HX3 := Lib.hid x3
       clear x3 g3 hb3 HX HXB))
  obtain ⟨c0, c1, c2', c3, c4, c5⟩ := H.out.cells
  obtain ⟨p0, p1⟩ := pk6 HX3.out
  obtain ⟨g0, g1, g2, gz⟩ := got3 H2.out
  go_quiet (fail)
  go_wp2_with fail
  obtain ⟨k1, hk1⟩ : ∃ k1, k1 = nq := ⟨_, rfl⟩
  subst hk1
  go_quiet (fail)
  go_upto_region 9 with (fail)
  obtain ⟨f4, x4⟩ := got_set w3 (w.heap.size + 1) 105 (k1 + nq) H2.out
  generalize (w3.drewN (k1 + nq)).setCell ⟨w.heap.size + 1, 0, none⟩ (.bool true) = W4 at *
  have hlw := HB.out.size
  have hx2 := heap_lt H2.out
  have hx3 := heap_lt HX3.out
  have H4 := Lib.hid (Se.fr H.out f4 (by have := Hlt.out; omega) (by have := Hlt.out; omega) (by have := Hlt.out; omega))
  have H34 := Lib.hid (heap_fr H3.out f4 (by omega))
  have X4 := Lib.hid x4
  have F4 := Lib.hid ((Fr.of_bel (S := fun k => k = S ∨ k = kp) HB.out).trans f4 (fun k hk e => by omega))
  have hs2 := HS2.out
  have x34 := heap_fr HX3.out f4 (by omega)
  have XP4 := Lib.hid x34
  obtain ⟨q0, q1⟩ := pk6 x34
  have l4 := Hlt.out
  clear c0 c1 c2' c3 c4 c5 p0 p1 g0 g1 g2 gz f4 x4 x34
  go_upto_region 10 with (first
    | (go_at_call 101
       (with_reducible refine (c_meets H4.out hw hl 1).mono ?_)
       rintro e w5 ⟨rfl, ⟨ob2, ib2, hs5⟩, f5⟩
       have H5 := Lib.hid hs5
       have F5 := Lib.hid (F4.out.trans f5 (fun _ _ e => e))
       have X5 := Lib.hid (heap_fr X4.out f5 (by omega))
       have H35 := Lib.hid (heap_fr H34.out f5 (by omega))
       have xp5 := heap_fr XP4.out f5 (by omega)
       clear q0 q1
       obtain ⟨q0, q1⟩ := pk6 xp5
       obtain ⟨c0, c1, c2', c3, c4, c5⟩ := hs5.cells
       clear hs5 f5 xp5))
  go_quiet (fail)
  go_wp2_with fail
  generalize hW6 : w5.drewN nq = W6 at *
  have hb6 : Below w5.heap.size w5 W6 := by rw [← hW6]; exact ⟨rfl, rfl, rfl, Nat.le_refl _, fun _ _ => rfl⟩
  have H6 := Lib.hid (H5.out.bel hb6)
  have F6 := Lib.hid (F5.out.trans (Fr.of_bel (S := fun k => k = S ∨ k = kp) hb6) (fun _ _ e => e))
  have X6 := Lib.hid ((hb6.block _ (heap_lt X5.out)).trans X5.out)
  have H36 := Lib.hid ((hb6.block _ (heap_lt H35.out)).trans H35.out)
  clear hW6 hb6 c0 c1 c2' c3 c4 c5 q0 q1
  refine wp_region_phi (by kernel_rfl) 4 none (fun _ => false) (fun i_ v wz => match i_ with
    | 0 => v = .agg #[.bool true, .bool false, .slice none 0 0]
    | 1 => v = .pointer (some ⟨S, 0, none⟩)
    | 2 => ∃ g t, v = .slice (some ⟨g, 0, none⟩) 1 1 ∧ wz.heap[g]? = some (.cells #[.int .i64 0] t (0, 0))
    | 3 => ∃ A2 c2, v = .slice A2 1 c2
    | _ => True) (by kernel_rfl) ?_ ?_ ?_
  · (repeat' (first | exact allLt_zero | refine allLt_succ ?_ ?_))
    · exact fun _ _ _ h _ => h
    · exact fun _ _ _ h _ => h
    · intro v w1 w2 h hg
      rw [show kindRow _ _ = none from by kernel_rfl] at hg
      obtain ⟨g, t, rfl, hq⟩ := h
      exact ⟨g, t, rfl, heap_grown hq hg (by simp)⟩
    · intro v w1 w2 h hg
      rw [show kindRow _ _ = none from by kernel_rfl] at hg
      exact h
  · (repeat' (first | exact allLt_zero | refine allLt_succ ?_ ?_))
    · intro a w' hf he
      have k6 : a.tmps.getD 6 undef = .pointer (some ⟨w.heap.size + 1, 0, none⟩) := hf.var (by kernel_rfl) rfl
      rw [show kindRow _ _ = none from by kernel_rfl] at hf
      have dd := got3 ((hf.bel.block _ (heap_lt X6.out)).trans X6.out)
      obtain ⟨d0, d1, d2, -⟩ := dd
      refine wpOp_step rfl (fun K hK => ?_)
      go_simp
      exact hK _ _ ⟨_, rfl, rfl, World.grownBy.refl _ _⟩
    · intro a w' hf he
      have k0 : a.tmps.getD 0 undef = .pointer (some ⟨S, 0, none⟩) := hf.var (by kernel_rfl) rfl
      refine wpOp_step rfl (fun K hK => ?_)
      go_simp
      exact hK _ _ ⟨_, rfl, rfl, World.grownBy.refl _ _⟩
    · intro a w' hf he
      rw [show kindRow _ _ = none from by kernel_rfl] at hf
      refine wpOp_step rfl (fun K hK => ?_)
      go_simp
      exact hK _ _ ⟨_, rfl, ⟨_, _, rfl, heap_alloc_new _ _⟩, grown_bel ((Below.refl _ _).alloc (Nat.le_refl _) _)⟩
    · intro a w' hf he
      have f1 : a.tmps.getD 51 undef = .pointer (some ⟨S, 0, none⟩) := he 1 (by kernel_rfl)
      obtain ⟨g2, t2, hv2, hq2⟩ := he 2 (by kernel_rfl)
      have f2 : a.tmps.getD 52 undef = _ := hv2
      rw [show kindRow _ _ = none from by kernel_rfl] at hf
      refine wpOp_step rfl (fun K hK => ?_)
      go_simp
      refine (c_all1 (m := 2) (p := 1) (H6.out.bel hf.bel) (by omega) (by omega) g2 t2 hq2).mono ?_
      rintro e w9 ⟨⟨A9, c9, rfl⟩, hb9⟩
      exact hK _ _ ⟨_, rfl, ⟨_, _, rfl⟩, grown_bel hb9⟩
  · intro a w' hf he
    have f0 : a.tmps.getD 50 undef = .agg #[.bool true, .bool false, .slice none 0 0] := he 0 (by decide)
    obtain ⟨u51, f1⟩ : ∃ u, a.tmps.getD 51 undef = u := ⟨_, rfl⟩
    obtain ⟨u52, f2⟩ : ∃ u, a.tmps.getD 52 undef = u := ⟨_, rfl⟩
    obtain ⟨A3, c3, hv3⟩ := he 3 (by decide)
    have f3 : a.tmps.getD 53 undef = _ := hv3
    have hlit := hf.lit ((50, .agg #[.bool true, .bool false, .slice none 0 0]) :: (51, u51) :: (52, u52) :: (53, _) :: []) (by kernel_rfl) ⟨f0, f1, f2, f3, trivial⟩
    have hB := hf.bel
    clear he hf f0 f1 f2 f3 hv3
    subst hlit
    simp only [putAll_nil, putAll_cons, Act.put, List.setIfInBounds_toArray, List.set_cons_zero, List.set_cons_succ]
    simp only [List.drop_succ_cons, List.drop_zero]
    have H7 := Lib.hid (H6.out.bel hB)
    have F7 := Lib.hid (F6.out.trans (Fr.of_bel (S := fun k => k = S ∨ k = kp) hB) (fun _ _ e => e))
    have H37 := Lib.hid ((hB.block _ (heap_lt H36.out)).trans H36.out)
    clear hB
    go_wp2_with (first
      | (refine wpL_store_all rfl rfl 105 (.tmp 4) (.tmp 50) rfl _ rfl _ rfl _ _ H37.out (by kernel_rfl) rfl (by simp [Value.oneCell']) ?_
         intro w8 x8 g8
         have HX8 := Lib.hid x8
         have f8 := Fr.grown (S := fun k => k = w.heap.size) g8 (by rintro k ⟨⟩; rfl)
         have H8 := Lib.hid (Se.fr H7.out f8 (by omega) (by intro e; have e2 : ib2 = w.heap.size := e; have hh := H7.out.inb; unfold In0 at hh; rw [e2, H37.out] at hh; simp at hh) (by omega))
         have F8 := Lib.hid (F7.out.trans f8 (fun k hk e => by omega))
         clear x8 g8 f8))
    refine bodyPost_ret (results_cell2 rfl _ _ w.heap.size _ _ (0, 0) _ rfl HX8.out Try.underlying105 rfl (by kernel_rfl) _ rfl) rfl ?_
    exact ⟨⟨_, _, rfl⟩, ⟨ob2, ib2, H8.out⟩, F8.out⟩
end
theorem hello_parse : Wire.parse (Wire.bytes 1 0 1 0 0 []) = (⟨1, 0, 1, 0, 0, []⟩, 0) := by
  have h : (Wire.parse (Wire.bytes 1 0 1 0 0 [])).2 = 0 ∧ (Wire.parse (Wire.bytes 1 0 1 0 0 [])).1.f = 1 ∧ (Wire.parse (Wire.bytes 1 0 1 0 0 [])).1.t = 0 ∧ (Wire.parse (Wire.bytes 1 0 1 0 0 [])).1.k = 1 ∧ (Wire.parse (Wire.bytes 1 0 1 0 0 [])).1.s = 0 ∧ (Wire.parse (Wire.bytes 1 0 1 0 0 [])).1.a = 0 ∧ (Wire.parse (Wire.bytes 1 0 1 0 0 [])).1.body = [] := by decide +kernel
  generalize Wire.parse (Wire.bytes 1 0 1 0 0 []) = r at h
  obtain ⟨⟨f, t, k, s, a, b⟩, e⟩ := r
  obtain ⟨h0, h1, h2, h3, h4, h5, h6⟩ := h
  simp only at h0 h1 h2 h3 h4 h5 h6
  subst h0 h1 h2 h3 h4 h5 h6
  rfl
theorem c_rHello (w : World) : Calls Try.prog 48 #[.agg #[.int .u32 1, .int .u32 0, .int .i64 1, .int .i64 0, .int .i64 0, .slice none 0 0]] w fun e w' => ∃ A2 n2 c2, e = .returned (.slice A2 n2 c2) ∧ Byt w' A2 n2 c2 (Wire.bytes 1 0 1 0 0 []) ∧ Below w.heap.size w w' := Wire.c_rBytes 1 0 1 0 0 none 0 0 [] w (by omega) (by omega) Rd.nil_
theorem c_lives (w : World) : Calls Try.prog 46 #[] w fun e w' => e = .returned (.bool true) ∧ Below w.heap.size w w' := by
  go_enter Try.func46, Try.ntmps46
  go_upto_region 3 with (first
    | (go_at_call 56
       (with_reducible refine (c_New 2 2 3 (by omega) (by omega) (by omega) _).mono ?_)
       rintro e w1 ⟨⟨S, ob, ib, kp, rfl, hs, hg1, hg2, hg3⟩, hb1⟩
       have H := Lib.hid hs
       have HG := Lib.hid (And.intro hg1 hg3)
       have HB := Lib.hid hb1
       clear hs hb1 hg1 hg2 hg3)
    | (go_at_call 48
       (with_reducible refine (c_rHello _).mono ?_)
       rintro e w2 ⟨A2, n2, c2, rfl, hby, hb2⟩
       have HY := Lib.hid hby
       have Hn := Lib.hid hby.blen
       have H := Lib.hid (H.out.bel hb2)
       have HB := Lib.hid (HB.out.trans (hb2.mono HB.out.size))
       clear hby hb2)
    | (go_at_call 47
       (with_reducible refine (c_Take1 H.out (by omega) (by omega) A2 n2 c2 _ HY.out (by have := Hn.out; rw [Wire.hello_len] at this; omega) hello_parse).mono ?_)
       rintro e w3 ⟨⟨A3, c3, rfl⟩, ⟨ob2, ib2, hs3⟩, f3⟩
       have H3 := Lib.hid hs3
       have HB3 := Lib.hid (HB.out.trans (f3.bel (B := w.heap.size) (fun k e => by have := HG.out; omega) HB.out.size))
       have HX := Lib.hid (heap_alloc_new w3 (.cells got0 105))
       have HXB := Lib.hid ((Below.refl w3.heap.size w3).alloc (Nat.le_refl _) (.cells got0 105))
       simp only [got0] at HX HXB
       clear hs3 f3)
    | (refine wpL_store_all rfl rfl 105 (.tmp 3) (.tmp 14) rfl _ rfl _ rfl _ _ HX.out (by kernel_rfl) rfl (by simp [Value.oneCell']) ?_
       intro w4 x4 g4
       have hb4 := HXB.out.grown g4 HXB.out.size (by rintro k ⟨⟩; exact Nat.le_refl _)
       have H4 := Lib.hid (H3.out.bel hb4)
       have HB4 := Lib.hid (HB3.out.trans (hb4.mono HB3.out.size))
       obtain ⟨d0, d1, d2, -⟩ := got3 x4
       clear x4 g4 hb4))
  go_wp2_with (first
    | (go_at_call 52; (with_reducible refine (c_Peer H4.out (by omega)).mono ?_); rintro e w' ⟨rfl, rfl⟩)
    | (go_at_call 51; (with_reducible refine (c_My H4.out (by omega)).mono ?_); rintro e w' ⟨rfl, rfl⟩)
    | (go_at_call 53; (with_reducible refine (c_Alive H4.out (by omega) (by omega)).mono ?_); rintro e w5 ⟨rfl, hb5⟩))
  go_ret
  exact ⟨by first | rfl | simp, HB4.out.trans (hb5.mono HB4.out.size)⟩
end Go.Proofs.Ytplemdgihlabgaa.Session
