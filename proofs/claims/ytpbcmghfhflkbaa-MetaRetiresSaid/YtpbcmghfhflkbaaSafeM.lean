/- The law MetaRetires, walked. Conditions: none. -/
import Derived.Test.YtpbcmghfhflkbaaMetEx
import Derived.Test.YtpbcmghfhflkbaaMeta3
import Derived.Test.YtpbcmghfhflkbaaB10
set_option linter.unusedVariables false
set_option linter.unusedSimpArgs false
namespace Go.Proofs.Ytpbcmghfhflkbaa.Meta
open Go.RowKit Tw Disk Slots
set_option maxHeartbeats 8000000
set_option maxRecDepth 100000
theorem loadG {P : Program} {ops : Array Oper} {rest : List Oper} {w : World} {o : Oper} {a : Act} {Q : Exit → Act → World → Prop} (ty : TypeId) (x : Operand) (ho : o.op = .load ty x)
    (ad : Addr) (hx : a.eval x = .pointer (some ad)) (cs : List Value) (d : TypeDesc) (hc : ∀ j v, cs[j]? = some v → w.cell? (ad.add j) = some v)
    (hu : P.underlying ty = some d) (hd : d.isRow = true) (hi : (P.info? ty).map (·.size) = some cs.length) (hgd : Region.wanted o (yielded ops a.tmps) = true) (h : wpList P ops Q rest (a.put o.dst (.agg cs.toArray)) w) : wpList P ops Q (o :: rest) a w :=
  wpList_step fun K hK => by
    rw [if_pos hgd]
    exact wp_load_rd ty x ho ad hx cs d hc hu hd hi (hK _ _ h)
theorem wanted_undef {ops : Array Oper} {o : Oper} {a : Act} {j : Nat} {want : Bool} {d : Tmp} (hg : o.guard = some (j, want)) (hd : dstOf ops j = some d) (hv : a.tmps.getD d undef = undef) : Region.wanted o (yielded ops a.tmps) = false := by
  unfold dstOf at hd
  by_cases hlt : d < a.tmps.size
  · have : a.tmps[d]? = some undef := by
      have h2 : a.tmps.getD d undef = a.tmps[d] := by simp [Array.getD, hlt]
      rw [h2] at hv
      rw [Array.getElem?_eq_getElem hlt, hv]
    simp [Region.wanted, hg, yielded, hd, this, undef]
  · have : a.tmps[d]? = none := Array.getElem?_eq_none (Nat.le_of_not_lt hlt)
    simp [Region.wanted, hg, yielded, hd, this]
/-- an operation under a guard that was itself passed -/
theorem wpL_passG {P : Program} {ops : Array Oper} {rest : List Oper} {w : World} {o : Oper} {a : Act} {Q : Exit → Act → World → Prop} (j : Nat) (want : Bool) (d : Tmp) (hg : o.guard = some (j, want)) (hd : dstOf ops j = some d) (hv : a.tmps.getD d undef = undef)
    (h : wpList P ops Q rest (a.put o.dst undef) w) : wpList P ops Q (o :: rest) a w :=
  wpList_step fun K hK => by
    rw [wanted_undef hg hd hv, if_neg (by simp)]
    exact hK _ _ h
theorem mask_bit2 {m : Nat} (h : m < 18446744073709551616) (i : Nat) : (18446744073709551615 - m).testBit i = (decide (i < 64) && !m.testBit i) := by
  have h1 := Nat.testBit_two_pow_sub_succ (n := 64) (x := m) (by simpa using h) i
  rw [← h1]
  congr 1
  omega
theorem or_lt {a b : Nat} (ha : a < 18446744073709551616) (hb : b < 18446744073709551616) : a ||| b < 18446744073709551616 := by
  have := Nat.or_lt_two_pow (n := 64) (x := a) (y := b) (by simpa using ha) (by simpa using hb)
  simpa using this
/-- a crash within a Retire -/
theorem retire3 {d d' : Dsk} {N c B H D m e : Nat} (h : St d N c B H D) (hc : c < 4294967280) (hf : 0 ≤ d.fuse) (hm : m < 18446744073709551616) (hs : mretire d m = (d', e)) (mask : Nat) :
    ∃ H' D', St (d'.crash mask) N (c + 2) B H' D' ∧ ((H' = H ∧ D' = D) ∨ (D' = m ∧ (H' = H ∨ H' = 0))) ∧ (e = 0 → H' = 0 ∧ D' = m) ∧ (4 ≤ d.fuse → e = 0) ∧ (e = 0 ∨ e = 3) := by
  unfold mretire at hs
  obtain ⟨⟨d1, e1⟩, h1⟩ : ∃ r, Slots.dput d m = r := ⟨_, rfl⟩
  rw [h1] at hs
  rcases h.dput (by omega) hm h1 with ⟨rfl, s1, _, f1⟩ | ⟨rfl, f1, s1⟩
  · simp only [if_pos] at hs
    have hf1 := f1 hf
    rcases s1.aput (by omega) (by omega) hs with ⟨rfl, s2, _, f2⟩ | ⟨rfl, f2, s2⟩
    · exact ⟨0, m, s2.crash mask, .inr ⟨rfl, .inr rfl⟩, fun _ => ⟨rfl, rfl⟩, fun _ => rfl, .inl rfl⟩
    · obtain ⟨H', ho, s3⟩ := s2 mask
      exact ⟨H', m, s3, .inr ⟨rfl, ho⟩, fun e => (by cases e), fun h4 => (by omega), .inr rfl⟩
  · simp only at hs
    rw [if_neg (by omega)] at hs
    obtain ⟨rfl, rfl⟩ := Prod.mk.inj hs
    obtain ⟨D', ho, s3⟩ := s1 mask
    refine ⟨H, D', s3.mono (by omega), ?_, fun e => (by cases e), fun h4 => (by omega), .inr rfl⟩
    rcases ho with rfl | rfl
    · exact .inl ⟨rfl, rfl⟩
    · exact .inr ⟨rfl, .inl rfl⟩
/-- what is left of a retire, as the law asks -/
theorem retires_safe {hot was more spare k : Nat} (hh : hot < 18446744073709551616) (hw : was < 18446744073709551616) (hm : more < 18446744073709551616) (hk : k ≤ 5) :
    ∃ d1 d2 d3 d5 h H' D', mstart (Dsk.new 12) = (d1, 0) ∧ boot d1 = 1 ∧ hotOf d1 = 0 ∧ dirtyOf d1 = 0 ∧ aput d1 hot = (d2, 0) ∧ dput d2 was = (d3, 0) ∧ mretire (d3.setFuse (k : Int)) ((hot ||| was) ||| more) = (d5, h) ∧
      boot (d5.crash spare) = 1 ∧ hotOf (d5.crash spare) = H' ∧ dirtyOf (d5.crash spare) = D' ∧ d1.ops ≤ 2 ∧ d2.ops ≤ 4 ∧ d3.ops ≤ 6 ∧ d5.ops ≤ 20 ∧ H' < 18446744073709551616 ∧ D' < 18446744073709551616 ∧
      (H' ||| D') &&& (hot ||| was) = hot ||| was ∧ (H' ||| D') &&& (18446744073709551615 - ((hot ||| was) ||| more)) = 0 ∧ ((h = 0 ∧ H' = 0 ∧ D' = (hot ||| was) ||| more) ∨ (h = 3 ∧ k < 4)) := by
  have h0 := st_new (N := 12) (by omega)
  have hmk := or_lt (or_lt hh hw) hm
  obtain ⟨⟨d1, m, e1⟩, h1⟩ : ∃ r, snext (Dsk.new 12) = r := ⟨_, rfl⟩
  have hsn : ∀ d, (snext d).1.ops ≤ d.ops + 2 := fun d => by
    have h := sput_ops d 0 2 (boot d + 1)
    unfold snext
    (repeat' split) <;> first | exact h | exact Nat.le_add_right _ _
  have ho1 : d1.ops ≤ 2 := by
    have := hsn (Dsk.new 12)
    rw [h1] at this
    exact this
  have hl0 : (latest (Dsk.new 12) 0 2).1 < 4294967290 := by rw [latest_new]; omega
  obtain ⟨rfl, rfl, s1, f1, _⟩ := h0.next (by simp [Dsk.new]) hl0 (by omega) h1
  obtain ⟨n1, _, l1⟩ := s1.hot
  obtain ⟨n2, _, l2⟩ := s1.dirty
  have hms : mstart (Dsk.new 12) = (d1, 0) := by
    unfold mstart
    rw [h1]
    rfl
  have hf1 : d1.fuse < 0 := by rw [f1]; simp [Dsk.new]
  obtain ⟨⟨d2, e2⟩, h2⟩ : ∃ r, aput d1 hot = r := ⟨_, rfl⟩
  have ho2 : d2.ops ≤ 4 := by
    have := rput_opsM 2 4 d1 hot sput_ops
    rw [show rput 2 4 d1 hot = (d2, e2) from h2] at this
    simp only at this
    omega
  rcases s1.aput (by omega) hh h2 with ⟨rfl, s2, f2, _⟩ | ⟨_, f2, _⟩
  · obtain ⟨⟨d3, e3⟩, h3⟩ : ∃ r, dput d2 was = r := ⟨_, rfl⟩
    have ho3 : d3.ops ≤ 6 := by
      have := rput_opsM 6 2 d2 was sput_ops
      rw [show rput 6 2 d2 was = (d3, e3) from h3] at this
      simp only at this
      omega
    have hf2 : d2.fuse < 0 := by rw [f2 hf1]; exact hf1
    rcases s2.dput (by omega) hw h3 with ⟨rfl, s3, _, _⟩ | ⟨_, f3, _⟩
    · have s4 := s3.fused (k := (k : Int)) (by omega)
      have hfu : (d3.setFuse (k : Int)).fuse = (k : Int) := by simp [Dsk.setFuse]; omega
      obtain ⟨⟨d5, h⟩, h5⟩ : ∃ r, mretire (d3.setFuse (k : Int)) ((hot ||| was) ||| more) = r := ⟨_, rfl⟩
      obtain ⟨H', D', s5, hor, hz, h4, he3⟩ := retire3 s4 (by omega) (by rw [hfu]; omega) hmk h5 spare
      have ho5 : d5.ops ≤ 20 := by
        have q1 := rput_opsM 6 2 (d3.setFuse (k : Int)) ((hot ||| was) ||| more) sput_ops
        have q2 := rput_opsM 2 4 (dput (d3.setFuse (k : Int)) ((hot ||| was) ||| more)).1 0 sput_ops
        have e : (d3.setFuse (k : Int)).ops = d3.ops := rfl
        have h6 : d5.ops ≤ (d3.setFuse (k : Int)).ops + 4 := by
          have h7 : (mretire (d3.setFuse (k : Int)) ((hot ||| was) ||| more)).1 = d5 := by rw [h5]
          rw [← h7]
          unfold mretire
          split
          · show (rput 2 4 _ 0).1.ops ≤ _
            have q1' : (dput (d3.setFuse (k : Int)) ((hot ||| was) ||| more)).1.ops ≤ (d3.setFuse (k : Int)).ops + 2 := q1
            omega
          · have q1' : (dput (d3.setFuse (k : Int)) ((hot ||| was) ||| more)).1.ops ≤ (d3.setFuse (k : Int)).ops + 2 := q1
            omega
        omega
      obtain ⟨n3, _, l3⟩ := s5.hot
      obtain ⟨n4, _, l4⟩ := s5.dirty
      have hl3 := (latest_lt (d5.crash spare) 2 4).2
      have hl4 := (latest_lt (d5.crash spare) 6 2).2
      rw [l3] at hl3
      rw [l4] at hl4
      refine ⟨d1, d2, d3, d5, h, H', D', hms, s1.boot, by show (latest d1 2 4).2 = 0; rw [l1], by show (latest d1 6 2).2 = 0; rw [l2], h2, h3, h5, s5.boot, by show (latest (d5.crash spare) 2 4).2 = H'; rw [l3], by show (latest (d5.crash spare) 6 2).2 = D'; rw [l4], ho1, ho2, ho3, ho5, hl3, hl4, ?_, ?_, ?_⟩
      · refine Nat.eq_of_testBit_eq fun i => ?_
        simp only [Nat.testBit_and]
        rcases hor with ⟨q1, q2⟩ | ⟨q2, q1 | q1⟩ <;> rw [q1, q2] <;> simp only [Nat.testBit_or, Nat.zero_testBit] <;> cases hot.testBit i <;> cases was.testBit i <;> cases more.testBit i <;> rfl
      · refine Nat.eq_of_testBit_eq fun i => ?_
        rw [Nat.testBit_and, mask_bit2 hmk, Nat.zero_testBit]
        rcases hor with ⟨q1, q2⟩ | ⟨q2, q1 | q1⟩ <;> rw [q1, q2] <;> simp only [Nat.testBit_or, Nat.zero_testBit] <;> cases hot.testBit i <;> cases was.testBit i <;> cases more.testBit i <;> simp
      · by_cases he : h = 0
        · exact .inl ⟨he, hz he⟩
        · refine .inr ⟨he3.resolve_left he, ?_⟩
          by_cases h44 : (4 : Int) ≤ (d3.setFuse (k : Int)).fuse
          · exact absurd (h4 h44) he
          · rw [hfu] at h44
            omega
    · omega
  · omega
theorem w_MetaRetires (hot was more : Nat) (k : Int) (spare : Nat) (w : World) (hh : hot < 18446744073709551616) (hw : was < 18446744073709551616) (hm : more < 18446744073709551616) (hsp : spare < 18446744073709551616) (hk : -9223372036854775808 ≤ k ∧ k ≤ 9223372036854775807) :
    Calls Try.prog 10 #[.agg #[.int .u64 (hot : Int), .int .u64 (was : Int), .int .u64 (more : Int), .int .i64 k, .int .u64 (spare : Int)]] w fun e w' => e = .returned (.bool true) ∧ Below w.heap.size w w' := by
  have hB := ((Below.refl w.heap.size w).alloc (Nat.le_refl _) (.cells #[.int .u64 (hot : Int), .int .u64 (was : Int), .int .u64 (more : Int), .int .i64 k, .int .u64 (spare : Int)] 88))
  have HX := Lib.hid (heap_alloc_new w (.cells #[.int .u64 (hot : Int), .int .u64 (was : Int), .int .u64 (more : Int), .int .i64 k, .int .u64 (spare : Int)] 88))
  have k1 := cells_at (l := [.int .u64 (hot : Int), .int .u64 (was : Int), .int .u64 (more : Int), .int .i64 k, .int .u64 (spare : Int)]) HX.out 0 _ rfl
  have k2 := cells_at (l := [.int .u64 (hot : Int), .int .u64 (was : Int), .int .u64 (more : Int), .int .i64 k, .int .u64 (spare : Int)]) HX.out 1 _ rfl
  have k3 := cells_at (l := [.int .u64 (hot : Int), .int .u64 (was : Int), .int .u64 (more : Int), .int .i64 k, .int .u64 (spare : Int)]) HX.out 2 _ rfl
  have k4 := cells_at (l := [.int .u64 (hot : Int), .int .u64 (was : Int), .int .u64 (more : Int), .int .i64 k, .int .u64 (spare : Int)]) HX.out 3 _ rfl
  have k5 := cells_at (l := [.int .u64 (hot : Int), .int .u64 (was : Int), .int .u64 (more : Int), .int .i64 k, .int .u64 (spare : Int)]) HX.out 4 _ rfl
  have HB0 := Lib.hid hB
  clear hB
  go_enter Try.func10, Try.ntmps10
  go_wp2_with fail
  go_quiet (fail)
  have HBq := Lib.hid (HB0.out.trans ((Fr.drewN (S := fun _ => False) nq).bel (fun _ e => e.elim) HB0.out.size))
  generalize (w.alloc (.cells #[.int .u64 (hot : Int), .int .u64 (was : Int), .int .u64 (more : Int), .int .i64 k, .int .u64 (spare : Int)] 88)).drewN nq = W1 at *
  clear k1 k2 k3 k4 k5 HX HB0
  by_cases h4 : k < 0
  · skip
    go_wp2_with (first
      | (go_at_call 47; (with_reducible refine (c_lives _).mono ?_); rintro e w5 ⟨rfl, b5⟩))
    go_ret
    exact ⟨rfl, HBq.out.trans (b5.mono HBq.out.size)⟩
  by_cases h5 : 5 < k
  · skip
    go_wp2_with (first
      | (go_at_call 47; (with_reducible refine (c_lives _).mono ?_); rintro e w5 ⟨rfl, b5⟩))
    go_ret
    exact ⟨rfl, HBq.out.trans (b5.mono HBq.out.size)⟩
  obtain ⟨K, rfl⟩ : ∃ K : Nat, k = (K : Int) := ⟨k.toNat, by omega⟩
  obtain ⟨d1, d2, d3, d5, hh5, H', D', h1, b1, b2, b3, h2, h3, h5', b4, b5', b6, ho1, ho2, ho3, ho5, hH, hD, hand, handn, hor⟩ := retires_safe (spare := spare) hh hw hm (by omega : K ≤ 5)
  have H1 := fun w p g mb (h : Dk w p g mb 12 (Dsk.new 12)) => c_StartE h (by simp [Dsk.new])
  rw [h1] at H1
  simp only [if_pos] at H1
  rw [b1, b2, b3] at H1
  have H2 := fun w p g mb (h : Dk w p g mb 12 d1) => Actlog.c_PutE h (by omega) (hot : Int) hot rfl hh
  rw [h2] at H2
  have H3 := fun w p g mb (h : Dk w p g mb 12 d2) => Dirty.c_PutE h (by omega) (was : Int) was rfl hw
  rw [h3] at H3
  have hmk := or_lt (or_lt hh hw) hm
  have H4 := fun w p g mb (h : Dk w p g mb 12 (d3.setFuse (K : Int))) => c_RetireE h (by show d3.ops + 3 < _; omega) sput_ops ((hot ||| was) ||| more) hmk
  rw [h5'] at H4
  have H5 := fun w p g mb (h : Dk w p g mb 12 (d5.crash spare)) => c_LookE h
  rw [b4, b5', b6] at H5
  have hmi := or_lt hH hD
  have H6 : ∀ w, Calls Try.prog 51 #[.agg #[.int .u32 1, .int .u64 (H' : Int), .int .u64 (D' : Int)]] w fun e w' => e = .returned (.int .u64 ((H' ||| D' : Nat) : Int)) ∧ Below w.heap.size w w' := fun w => c_MineE 1 H' D' w hH hD
  have o1 : bits .or .u64 (hot : Int) (was : Int) = ((hot ||| was : Nat) : Int) := u64_or_nat _ _ hh hw
  have o2 : bits .or .u64 ((hot ||| was : Nat) : Int) (more : Int) = (((hot ||| was) ||| more : Nat) : Int) := u64_or_nat _ _ (or_lt hh hw) hm
  have o3 : bits .and .u64 ((H' ||| D' : Nat) : Int) ((hot ||| was : Nat) : Int) = ((hot ||| was : Nat) : Int) := by rw [u64_and_nat _ _ hmi (or_lt hh hw), hand]
  have o4 : bits .andNot .u64 ((H' ||| D' : Nat) : Int) (((hot ||| was) ||| more : Nat) : Int) = 0 := by rw [u64_andNot_nat _ _ hmi hmk, handn]; rfl
  generalize (hot ||| was) ||| more = mk at *
  generalize (hot ||| was) = hw2 at *
  generalize H' ||| D' = mi at *
  simp only at H2 H3 H4
  unfold metV at *
  clear h1 b1 b2 b3 h2 h3 h5' b4 b5' b6 hand handn
  rcases hor with ⟨rfl, rfl, rfl⟩ | ⟨rfl, hK4⟩
  · replace H6 : ∀ w, Calls Try.prog 51 #[.agg #[.int .u32 1, .int .u64 0, .int .u64 (D' : Int)]] w fun e w' => e = .returned (.int .u64 (mi : Int)) ∧ Below w.heap.size w w' := fun w => H6 w
    go_wp2_with (first
    | (go_at_call 16
       (with_reducible refine (c_dNewI' 12 12 rfl _ (by omega) (by omega)).mono ?_)
       rintro e w1 ⟨p, g, mb, rfl, hk1, hge, hb1⟩
       have HB := Lib.hid (HBq.out.trans (hb1.mono HBq.out.size))
       have HK := Lib.hid hk1
       have HG : Hid (w.heap.size ≤ p ∧ w.heap.size ≤ g ∧ w.heap.size ≤ mb) := Lib.hid (by have := HBq.out.size; omega)
       clear hb1 hk1 hge)
    | (go_at_call 48
       (with_reducible refine (H1 _ p g mb HK.out).mono ?_)
       rintro e w2 ⟨rfl, hk2, f2⟩
       have HB2 := Lib.hid (HB.out.trans (f2.bel (B := w.heap.size) (fun k e => by have := HG.out; omega) HB.out.size))
       have HK2 := Lib.hid hk2
       have HA := Lib.hid ((Below.refl w2.heap.size w2).alloc (Nat.le_refl _) (.cells #[.int .u32 1, .int .u64 0, .int .u64 0] 90))
       have HX3 := Lib.hid (heap_alloc_new w2 (.cells #[.int .u32 1, .int .u64 0, .int .u64 0] 90))
       have HL3 := Lib.hid hk2.lts
       have HK3 := Lib.hid (hk2.bel HA.out)
       have HB3 := Lib.hid (HB2.out.trans (HA.out.mono HB2.out.size))
       clear hk2 f2 HK H1 HK2 HA)
    | (go_at_call 35
       (with_reducible refine (H2 _ p g mb HK3.out).mono ?_)
       rintro e w4 ⟨rfl, hk4, f4⟩
       have HB4 := Lib.hid (HB3.out.trans (f4.bel (B := w.heap.size) (fun k e => by have := HG.out; omega) HB3.out.size))
       have HX4 := Lib.hid (heap_fr HX3.out f4 (by have := HL3.out; omega))
       have HK4 := Lib.hid hk4
       clear hk4 f4 HK3 H2)
    | (go_at_call 42
       (with_reducible refine (H3 _ p g mb HK4.out).mono ?_)
       rintro e w5 ⟨rfl, hk5, f5⟩
       have HB5 := Lib.hid (HB4.out.trans (f5.bel (B := w.heap.size) (fun k e => by have := HG.out; omega) HB4.out.size))
       have HX5 := Lib.hid (heap_fr HX4.out f5 (by have := HL3.out; omega))
       have HK5 := Lib.hid hk5
       clear hk5 f5 HK4 H3)
    | (go_at_call 22
       (with_reducible refine (c_FuseD HK5.out (K : Int) hk).mono ?_)
       rintro e w6 ⟨rfl, hk6, f6⟩
       have HB6 := Lib.hid (HB5.out.trans (f6.bel (B := w.heap.size) (fun k e => by have := HG.out; omega) HB5.out.size))
       have HX6 := Lib.hid (heap_fr HX5.out f6 (by have := HL3.out; omega))
       have HK6 := Lib.hid hk6
       clear hk6 f6 HK5)
    | (go_at_call 49
       (with_reducible refine (H4 _ p g mb HK6.out).mono ?_)
       rintro e w7 ⟨rfl, hk7, f7⟩
       have HB7 := Lib.hid (HB6.out.trans (f7.bel (B := w.heap.size) (fun k e => by have := HG.out; omega) HB6.out.size))
       have HX7 := Lib.hid (heap_fr HX6.out f7 (by have := HL3.out; omega))
       have HK7 := Lib.hid hk7
       clear hk7 f7 HK6 H4)
    | (go_at_call 20
       (with_reducible refine (c_Crash HK7.out spare hsp).mono ?_)
       rintro e w9 ⟨rfl, hk9, f9⟩
       have HB9 := Lib.hid (HB7.out.trans (f9.bel (B := w.heap.size) (fun k e => by have := HG.out; omega) HB7.out.size))
       have HX9 := Lib.hid (heap_fr HX7.out f9 (by have := HL3.out; omega))
       have HK9 := Lib.hid hk9
       clear hk9 f9)
    | (go_at_call 50
       (with_reducible refine (H5 _ p g mb HK9.out).mono ?_)
       rintro e w10 ⟨rfl, hb10⟩
       have HB10 := Lib.hid (HB9.out.trans (hb10.mono HB9.out.size))
       have HX10 := Lib.hid ((hb10.block _ (heap_lt HX9.out)).trans HX9.out)
       have HA := Lib.hid ((Below.refl w10.heap.size w10).alloc (Nat.le_refl _) (.cells #[.int .u32 1, .int .u64 0, .int .u64 (D' : Int)] 90))
       have hx11 := heap_alloc_new w10 (.cells #[.int .u32 1, .int .u64 0, .int .u64 (D' : Int)] 90)
       have HB11 := Lib.hid (HB10.out.trans (HA.out.mono HB10.out.size))
       have X10 := Lib.hid ((HA.out.block _ (heap_lt HX10.out)).trans HX10.out)
       have X11 := Lib.hid hx11
       obtain ⟨e0, e1, e2⟩ := cells_3 hx11
       have e10 := (cells_3 X10.out).1
       clear hb10 H5 HX3 HX4 HX5 HX6 HX7 HX9 HK7 HK9 HB2 HB3 HB4 HB5 HB6 HB7 HB9 HL3 HG HB HBq HA hx11)
    | (go_at_call 51
       (with_reducible refine (H6 _).mono ?_)
       rintro e w12 ⟨rfl, hb12⟩
       have HB11 := Lib.hid (HB11.out.trans (hb12.mono HB11.out.size))
       have X10 := Lib.hid ((hb12.block _ (heap_lt X10.out)).trans X10.out)
       have X11 := Lib.hid ((hb12.block _ (heap_lt X11.out)).trans X11.out)
       clear e0 e1 e2 e10
       obtain ⟨e0, e1, e2⟩ := cells_3 X11.out
       have e10 := (cells_3 X10.out).1
       clear hb12)
    | (go_at_call 47; (with_reducible refine (c_lives _).mono ?_); rintro e w5 ⟨rfl, b5⟩)
    | (with_reducible refine loadG 90 (.tmp 16) ?ho ⟨w10.heap.size, 0, none⟩ ?hx [.int .u32 1, .int .u64 0, .int .u64 (D' : Int)] _ ((rd_of_heap (n := 3) X11.out rfl (by simp [maxLen])).cell _ rfl) Try.underlying90 ?hd ?hi ?hgd ?h
       case ho => rfl
       case hx => rfl
       case hd => rfl
       case hi => kernel_rfl
       case hgd => rfl)
    )
    all_goals
      go_ret
      exact ⟨rfl, HB11.out.trans (b5.mono HB11.out.size)⟩
  · skip
    go_wp2_with (first
    | (go_at_call 16
       (with_reducible refine (c_dNewI' 12 12 rfl _ (by omega) (by omega)).mono ?_)
       rintro e w1 ⟨p, g, mb, rfl, hk1, hge, hb1⟩
       have HB := Lib.hid (HBq.out.trans (hb1.mono HBq.out.size))
       have HK := Lib.hid hk1
       have HG : Hid (w.heap.size ≤ p ∧ w.heap.size ≤ g ∧ w.heap.size ≤ mb) := Lib.hid (by have := HBq.out.size; omega)
       clear hb1 hk1 hge)
    | (go_at_call 48
       (with_reducible refine (H1 _ p g mb HK.out).mono ?_)
       rintro e w2 ⟨rfl, hk2, f2⟩
       have HB2 := Lib.hid (HB.out.trans (f2.bel (B := w.heap.size) (fun k e => by have := HG.out; omega) HB.out.size))
       have HK2 := Lib.hid hk2
       have HA := Lib.hid ((Below.refl w2.heap.size w2).alloc (Nat.le_refl _) (.cells #[.int .u32 1, .int .u64 0, .int .u64 0] 90))
       have HX3 := Lib.hid (heap_alloc_new w2 (.cells #[.int .u32 1, .int .u64 0, .int .u64 0] 90))
       have HL3 := Lib.hid hk2.lts
       have HK3 := Lib.hid (hk2.bel HA.out)
       have HB3 := Lib.hid (HB2.out.trans (HA.out.mono HB2.out.size))
       clear hk2 f2 HK H1 HK2 HA)
    | (go_at_call 35
       (with_reducible refine (H2 _ p g mb HK3.out).mono ?_)
       rintro e w4 ⟨rfl, hk4, f4⟩
       have HB4 := Lib.hid (HB3.out.trans (f4.bel (B := w.heap.size) (fun k e => by have := HG.out; omega) HB3.out.size))
       have HX4 := Lib.hid (heap_fr HX3.out f4 (by have := HL3.out; omega))
       have HK4 := Lib.hid hk4
       clear hk4 f4 HK3 H2)
    | (go_at_call 42
       (with_reducible refine (H3 _ p g mb HK4.out).mono ?_)
       rintro e w5 ⟨rfl, hk5, f5⟩
       have HB5 := Lib.hid (HB4.out.trans (f5.bel (B := w.heap.size) (fun k e => by have := HG.out; omega) HB4.out.size))
       have HX5 := Lib.hid (heap_fr HX4.out f5 (by have := HL3.out; omega))
       have HK5 := Lib.hid hk5
       clear hk5 f5 HK4 H3)
    | (go_at_call 22
       (with_reducible refine (c_FuseD HK5.out (K : Int) hk).mono ?_)
       rintro e w6 ⟨rfl, hk6, f6⟩
       have HB6 := Lib.hid (HB5.out.trans (f6.bel (B := w.heap.size) (fun k e => by have := HG.out; omega) HB5.out.size))
       have HX6 := Lib.hid (heap_fr HX5.out f6 (by have := HL3.out; omega))
       have HK6 := Lib.hid hk6
       clear hk6 f6 HK5)
    | (go_at_call 49
       (with_reducible refine (H4 _ p g mb HK6.out).mono ?_)
       rintro e w7 ⟨rfl, hk7, f7⟩
       have HB7 := Lib.hid (HB6.out.trans (f7.bel (B := w.heap.size) (fun k e => by have := HG.out; omega) HB6.out.size))
       have HX7 := Lib.hid (heap_fr HX6.out f7 (by have := HL3.out; omega))
       have HK7 := Lib.hid hk7
       clear hk7 f7 HK6 H4)
    | (go_at_call 20
       (with_reducible refine (c_Crash HK7.out spare hsp).mono ?_)
       rintro e w9 ⟨rfl, hk9, f9⟩
       have HB9 := Lib.hid (HB7.out.trans (f9.bel (B := w.heap.size) (fun k e => by have := HG.out; omega) HB7.out.size))
       have HX9 := Lib.hid (heap_fr HX7.out f9 (by have := HL3.out; omega))
       have HK9 := Lib.hid hk9
       clear hk9 f9)
    | (go_at_call 50
       (with_reducible refine (H5 _ p g mb HK9.out).mono ?_)
       rintro e w10 ⟨rfl, hb10⟩
       have HB10 := Lib.hid (HB9.out.trans (hb10.mono HB9.out.size))
       have HX10 := Lib.hid ((hb10.block _ (heap_lt HX9.out)).trans HX9.out)
       have HA := Lib.hid ((Below.refl w10.heap.size w10).alloc (Nat.le_refl _) (.cells #[.int .u32 1, .int .u64 (H' : Int), .int .u64 (D' : Int)] 90))
       have hx11 := heap_alloc_new w10 (.cells #[.int .u32 1, .int .u64 (H' : Int), .int .u64 (D' : Int)] 90)
       have HB11 := Lib.hid (HB10.out.trans (HA.out.mono HB10.out.size))
       have X10 := Lib.hid ((HA.out.block _ (heap_lt HX10.out)).trans HX10.out)
       have X11 := Lib.hid hx11
       obtain ⟨e0, e1, e2⟩ := cells_3 hx11
       have e10 := (cells_3 X10.out).1
       clear hb10 H5 HX3 HX4 HX5 HX6 HX7 HX9 HK7 HK9 HB2 HB3 HB4 HB5 HB6 HB7 HB9 HL3 HG HB HBq HA hx11)
    | (go_at_call 51
       (with_reducible refine (H6 _).mono ?_)
       rintro e w12 ⟨rfl, hb12⟩
       have HB11 := Lib.hid (HB11.out.trans (hb12.mono HB11.out.size))
       have X10 := Lib.hid ((hb12.block _ (heap_lt X10.out)).trans X10.out)
       have X11 := Lib.hid ((hb12.block _ (heap_lt X11.out)).trans X11.out)
       clear e0 e1 e2 e10
       obtain ⟨e0, e1, e2⟩ := cells_3 X11.out
       have e10 := (cells_3 X10.out).1
       clear hb12)
    | (go_at_call 47; (with_reducible refine (c_lives _).mono ?_); rintro e w5 ⟨rfl, b5⟩)
    | (with_reducible refine loadG 90 (.tmp 16) ?ho ⟨w10.heap.size, 0, none⟩ ?hx [.int .u32 1, .int .u64 (H' : Int), .int .u64 (D' : Int)] _ ((rd_of_heap (n := 3) X11.out rfl (by simp [maxLen])).cell _ rfl) Try.underlying90 ?hd ?hi ?hgd ?h
       case ho => rfl
       case hx => rfl
       case hd => rfl
       case hi => kernel_rfl
       case hgd => rfl)
    )
    go_ret
    exact ⟨rfl, HB11.out.trans (b5.mono HB11.out.size)⟩
section
open Go.ChangeShapes Go.WideShapes Go.Deep
variable {H : Type} {enc : TypeId × Value → H} {P : Program} {W : World} {base : Nat} {spare : Nat → Bool} {held : Bool}
theorem open_pointM {r : Reach} {base2 : Nat} {t : TypeId} {v : Value} {d : DataW H} {ps : List MemPlace} (hL : flat P 4 t = some [.int .u64, .int .u64, .int .u64, .int .i64, .int .u64]) (hc : P.cellsOf t = 5) (ht : (P.underlying t).map (·.isRow) = some true)
    (hv : Value.okWide P W r base2 t v) (h : DataW.Trod enc P W base spare held t v d ps) : ∃ (a b c : Nat) (k : Int) (m : Nat), v = .agg #[.int .u64 (a : Int), .int .u64 (b : Int), .int .u64 (c : Int), .int .i64 k, .int .u64 (m : Int)] ∧ a < 18446744073709551616 ∧ b < 18446744073709551616 ∧ c < 18446744073709551616 ∧ (-9223372036854775808 ≤ k ∧ k ≤ 9223372036854775807) ∧ m < 18446744073709551616 := by
  obtain ⟨cs, rfl, hr⟩ := open_agg 4 hL hc ht hv h
  obtain ⟨v1, r1, rfl, k1, hr⟩ := rowOk_cons hr
  obtain ⟨v2, r2, rfl, k2, hr⟩ := rowOk_cons hr
  obtain ⟨v3, r3, rfl, k3, hr⟩ := rowOk_cons hr
  obtain ⟨v4, r4, rfl, k4, hr⟩ := rowOk_cons hr
  obtain ⟨v5, r5, rfl, k5, hr⟩ := rowOk_cons hr
  obtain rfl := rowOk_nil hr
  obtain ⟨z1, rfl, q1⟩ := leaf_u64 k1
  obtain ⟨z2, rfl, q2⟩ := leaf_u64 k2
  obtain ⟨z3, rfl, q3⟩ := leaf_u64 k3
  obtain ⟨z4, rfl, q4⟩ := leaf_i64 k4
  obtain ⟨z5, rfl, q5⟩ := leaf_u64 k5
  exact ⟨z1, z2, z3, z4, z5, rfl, q1, q2, q3, q4, q5⟩
end
end Go.Proofs.Ytpbcmghfhflkbaa.Meta
