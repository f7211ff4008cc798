/- The law WireBack, walked. Conditions: none. -/
import Derived.Test.YtdpggcpbgfancaaWire9
import Derived.Test.YtdpggcpbgfancaaWireLaw
namespace Go.Proofs.Ytdpggcpbgfancaa.Wire
open Go.RowKit Tw
set_option maxHeartbeats 8000000
set_option maxRecDepth 100000
theorem c_bEqual (A A' : Option Addr) (n c n' c' : Nat) (b b' : List UInt8) (w : World) (h1 : Byt w A n c b) (h2 : Byt w A' n' c' b') :
    Calls Try.prog 99 #[.slice A n c, .slice A' n' c'] w fun e w' => e = .returned (.bool (decide (b = b'))) ∧ w = w' := by
  have s1 := run_str (P := Try.prog) w 23 9 5 A n c b Try.underlying23 Try.underlying5 Try.underlying9 h1
  have s2 := run_str (P := Try.prog) w 23 9 5 A' n' c' b' Try.underlying23 Try.underlying5 Try.underlying9 h2
  go_enter Try.func99, Try.ntmps99
  go_wp2_with fail
  go_ret
  exact ⟨by simp; rw [Bool.eq_iff_iff]; simp, rfl⟩
theorem c_bEqual_yes (A A' : Option Addr) (n c n' c' : Nat) (b : List UInt8) (w : World) (h1 : Byt w A n c b) (h2 : Byt w A' n' c' b) :
    Calls Try.prog 99 #[.slice A n c, .slice A' n' c'] w fun e w' => e = .returned (.bool true) ∧ w = w' := by
  have h := c_bEqual A A' n c n' c' b b w h1 h2
  rw [decide_eq_true rfl] at h
  exact h
theorem c_Same_yes (p : Pk) (A A' : Option Addr) (n c n' c' : Nat) (w : World) (h1 : Byt w A n c p.body) (h2 : Byt w A' n' c' p.body) :
    Calls Try.prog 38 #[pkV p A n c, pkV p A' n' c'] w fun e w' => e = .returned (.bool true) ∧ Below w.heap.size w w' := by
  obtain ⟨f, t, k, s, ac, body⟩ := p
  simp only [pkV]
  obtain ⟨W2, hW2, x1, x2, hB⟩ := Actlog.two_boxes w (.cells #[.int .u32 (f : Int), .int .u32 (t : Int), .int .i64 k, .int .i64 s, .int .i64 ac, .slice A n c] 25) (.cells #[.int .u32 (f : Int), .int .u32 (t : Int), .int .i64 k, .int .i64 s, .int .i64 ac, .slice A' n' c'] 25)
  have HB := Lib.hid hB
  have he := c_bEqual_yes A A' n c n' c' body W2 (h1.bel hB) (h2.bel hB)
  obtain ⟨k0, k1, k2, k3, k4, k5⟩ := cells6 x1
  obtain ⟨l0, l1, l2, l3, l4, l5⟩ := cells6 x2
  clear x1 x2 hB h1 h2
  go_enter Try.func38, Try.ntmps38
  go_upto_region 1 with (fail)
  rw [← hW2]
  clear hW2
  go_wp2_with (first
    | (go_at_call 99
       (with_reducible refine he.mono ?_)
       rintro e w1 ⟨rfl, rfl⟩))
  go_ret
  exact ⟨rfl, HB.out⟩
theorem w_WireBack (f t : Nat) (k s ac : Int) (A : Option Addr) (n c : Nat) (body : List UInt8) (A0 : Option Addr) (n0 c0 : Nat) (b : List UInt8) (w : World) (hf : f < 4294967296) (ht : t < 4294967296) (hb : Byt w A n c body) (hb0 : Byt w A0 n0 c0 b) :
    Calls Try.prog 8 #[.agg #[.int .u32 (f : Int), .int .u32 (t : Int), .int .i64 k, .int .i64 s, .int .i64 ac, .slice A n c], .slice A0 n0 c0] w fun e w' => e = .returned (.bool true) ∧ Below w.heap.size w w' := by
  have HB := Lib.hid ((Below.refl _ _).alloc (Nat.le_refl w.heap.size) (.cells #[.int .u32 (f : Int), .int .u32 (t : Int), .int .i64 k, .int .i64 s, .int .i64 ac, .slice A n c] 25))
  have HX := Lib.hid (heap_alloc_new w (.cells #[.int .u32 (f : Int), .int .u32 (t : Int), .int .i64 k, .int .i64 s, .int .i64 ac, .slice A n c] 25))
  have Hb := Lib.hid (hb.bel HB.out)
  have Hb0 := Lib.hid (hb0.bel HB.out)
  have hlen := hb.blen
  obtain ⟨k0, k1, k2, k3, k4, k5⟩ := cells6 HX.out
  clear hb hb0
  have hby := fun w (hb : Byt w A n c body) => c_Bytes f t k s ac A n c body w hf ht hb
  go_enter Try.func8, Try.ntmps8
  go_upto_region 1 with (fail)
  generalize w.alloc (.cells #[.int .u32 (f : Int), .int .u32 (t : Int), .int .i64 k, .int .i64 s, .int .i64 ac, .slice A n c] 25) = W1 at *
  by_cases hn : 300 < n ∨ 400 < n0
  · have hn' : (decide ((300 : Int) < (n : Int)) || decide ((400 : Int) < (n0 : Int))) = true := by simp; omega
    have Hn := Lib.hid hn
    clear hn
    go_wp2_with (first
      | (go_at_call 18
         (with_reducible refine (c_lives _).mono ?_)
         rintro e w1 ⟨rfl, hb1⟩
         have HB1 := Lib.hid (HB.out.trans (hb1.mono HB.out.size))
         clear hb1))
    all_goals first
      | (go_ret; exact ⟨rfl, HB1.out⟩)
      | (exfalso; have := Hn.out; omega)
  · have hnn : n ≤ 300 := by omega
    have hnn0 : n0 ≤ 400 := by omega
    clear hn k0 k1 k2 k3 k4
    have hp2 := fun w (h : Byt w A0 n0 c0 b) => c_Parse A0 n0 c0 b w h (by omega)
    have hbp := bytes_parse (b := b)
    have hpb : (parse b).2 = 0 → (parse b).1.f < 4294967296 ∧ (parse b).1.t < 4294967296 := fun h => by
      obtain ⟨-, -, -, -, -, h5⟩ := parse_ok h
      rw [h5]
      exact ⟨Num.gv_lt 4 _, Num.gv_lt 4 _⟩
    generalize (parse b).2 = er at *
    generalize (parse b).1 = q at *
    obtain ⟨qf, qt, qk, qs, qa, qb⟩ := q
    simp only [pkV] at hp2
    simp only at hbp hpb
    by_cases hG : GoodP ⟨f, t, k, s, ac, body⟩
    · have hbi : bytes f t k s ac body = Crc.sealed (raw f t k s ac body) := if_pos hG
      have hpr := parse_bytes ⟨f, t, k, s, ac, body⟩ hf ht hG
      have hsl := sealed_raw_len ⟨f, t, k, s, ac, body⟩
      simp only at hpr hsl
      rw [hbi] at hby
      generalize Crc.sealed (raw f t k s ac body) = BY at *
      have hp1 := fun A n c w (h : Byt w A n c BY) (hn : n ≤ 1000) => c_Parse A n c BY w h hn
      rw [hpr] at hp1
      simp only [pkV] at hp1
      have hsm := fun A A' n c n' c' w => c_Same_yes ⟨f, t, k, s, ac, body⟩ A A' n c n' c' w
      have hrsm := fun A A' n c n' c' w => c_rSame_yes ⟨f, t, k, s, ac, body⟩ A A' n c n' c' w
      simp only [pkV] at hsm hrsm
      obtain ⟨k0, k1, k2, k3, k4, k5⟩ := cells6 HX.out
      clear hpr hbi
      go_upto_region 9 with (first
        | (go_at_call 21
           (with_reducible refine (hby _ Hb.out).mono ?_)
           rintro e w2 ⟨A1, n1, c1, rfl, h1, bel1⟩
           obtain rfl : n1 = 23 + n := by have := h1.blen; omega
           have H1 := Lib.hid h1
           have Lb := Lib.hid (Hb.out.bel bel1)
           have Lb0 := Lib.hid (Hb0.out.bel bel1)
           have LX := Lib.hid ((bel1.block _ (heap_lt HX.out)).trans HX.out)
           have LB := Lib.hid (HB.out.trans (bel1.mono HB.out.size))
           clear h1 bel1 hby k0 k1 k2 k3 k4 k5)
        | (go_at_call 25
           (with_reducible refine (hp1 _ _ _ _ H1.out (by omega)).mono ?_)
           rintro e w3 ⟨A3, n3, c3, rfl, h3, bel3⟩
           have H3 := Lib.hid h3
           have Mb := Lib.hid (Lb.out.bel bel3)
           have Mb0 := Lib.hid (Lb0.out.bel bel3)
           have MX := Lib.hid ((bel3.block _ (heap_lt LX.out)).trans LX.out)
           have MB := Lib.hid (LB.out.trans (bel3.mono LB.out.size))
           clear h3 bel3 hp1)
        | (refine Disk.wpL_store_all rfl rfl 25 (.tmp 6) (.tmp 28) rfl _ rfl _ rfl _ _ (heap_alloc_new w3 _) (by kernel_rfl) rfl (one6 _ _ _ _ _ _ _ _) ?_
           intro w4 x4 g4
           have F4 : Fr (fun k => k = w3.heap.size) w3 w4 := (Fr.alloc _).trans (Fr.grown (S := fun k => k = w3.heap.size) g4 (by rintro k ⟨⟩; rfl)) (fun _ _ h => h)
           have bel4 : Below w3.heap.size w3 w4 := F4.bel (fun k e => by omega) (Nat.le_refl _)
           have NX := Lib.hid ((bel4.block _ (heap_lt MX.out)).trans MX.out)
           obtain ⟨k0, k1, k2, k3, k4, k5⟩ := cells6 NX.out
           obtain ⟨l0, l1, l2, l3, l4, l5⟩ := cells6 x4
           have H4 := Lib.hid (H3.out.bel bel4)
           have NX4 := Lib.hid x4
           have Nb := Lib.hid (Mb.out.bel bel4)
           have Nb0 := Lib.hid (Mb0.out.bel bel4)
           have NB := Lib.hid (MB.out.trans (bel4.mono MB.out.size))
           clear x4 g4 F4 bel4)
        | (go_at_call 38
           (with_reducible refine (hsm _ _ _ _ _ _ _ H4.out Nb.out).mono ?_)
           rintro e w5 ⟨rfl, bel5⟩
           have H5 := Lib.hid (H4.out.bel bel5)
           have Ob := Lib.hid (Nb.out.bel bel5)
           have Ob0 := Lib.hid (Nb0.out.bel bel5)
           have OX := Lib.hid ((bel5.block _ (heap_lt NX.out)).trans NX.out)
           have OX4 := Lib.hid ((bel5.block _ (heap_lt NX4.out)).trans NX4.out)
           have OB := Lib.hid (NB.out.trans (bel5.mono NB.out.size))
           clear k0 k1 k2 k3 k4 k5 l0 l1 l2 l3 l4 l5 bel5 hsm
           obtain ⟨k0, k1, k2, k3, k4, k5⟩ := cells6 OX.out
           obtain ⟨l0, l1, l2, l3, l4, l5⟩ := cells6 OX4.out)
        | (go_at_call 27
           (with_reducible refine (hrsm _ _ _ _ _ _ _ H5.out Ob.out).mono ?_)
           rintro e w6 ⟨rfl, bel6⟩
           have Pb0 := Lib.hid (Ob0.out.bel bel6)
           have PB := Lib.hid (OB.out.trans (bel6.mono OB.out.size))
           clear k0 k1 k2 k3 k4 k5 l0 l1 l2 l3 l4 l5 bel6 hrsm)
        | (go_at_call 25
           (with_reducible refine (hp2 _ (Pb0.out)).mono ?_)
           rintro e w1 ⟨A7, n7, c7, rfl, h7, bel7⟩
           have H7 := Lib.hid h7
           have HB7 := Lib.hid (PB.out.trans (bel7.mono PB.out.size))
           have Hb7 := Lib.hid (Pb0.out.bel bel7)
           clear h7 bel7 hp2)
        | (refine Disk.wpL_store_all rfl rfl 25 (.tmp 8) (.tmp 47) rfl _ rfl _ rfl _ _ (heap_alloc_new w1 _) (by kernel_rfl) rfl (one6 _ _ _ _ _ _ _ _) ?_
           intro w8 x8 g8
           have HX8 := Lib.hid x8
           have F8 : Fr (fun k => k = w1.heap.size) w1 w8 := (Fr.alloc _).trans (Fr.grown (S := fun k => k = w1.heap.size) g8 (by rintro k ⟨⟩; rfl)) (fun _ _ h => h)
           have bel8 : Below w1.heap.size w1 w8 := F8.bel (fun k e => by omega) (Nat.le_refl _)
           have H8 := Lib.hid (H7.out.bel bel8)
           have Hb8 := Lib.hid (Hb7.out.bel bel8)
           have HB8 := Lib.hid (HB7.out.trans (bel8.mono HB7.out.size))
           clear x8 g8 F8 bel8)
        )
      by_cases her : er = 0
      · subst her
        obtain ⟨hqf, hqt⟩ := hpb rfl
        replace hbp := hbp rfl
        have hby2 := fun w (h : Byt w A7 n7 c7 qb) => c_Bytes qf qt qk qs qa A7 n7 c7 qb w hqf hqt h
        rw [hbp] at hby2
        clear hpb hbp
        refine wp_region_phi (by kernel_rfl) 13 none (fun _ => false) (fun i_ v wz => match i_ with
          | 0 => v = .int .i64 0
          | 1 => v = .bool false
          | 2 => v = .bool false
          | 3 => v = .agg #[.int .u32 (qf : Int), .int .u32 (qt : Int), .int .i64 qk, .int .i64 qs, .int .i64 qa, .slice A7 n7 c7]
          | 4 => ∃ A2 n2 c2, v = .slice A2 n2 c2 ∧ Byt wz A2 n2 c2 b
          | 5 => v = .string ⟨b.toArray⟩
          | 6 => v = .slice A0 n0 c0
          | 7 => v = .string ⟨b.toArray⟩
          | 8 => v = .bool true
          | 9 => v = .bool true
          | 10 => v = .bool true
          | 11 => v = .bool true
          | 12 => v = .bool true
          | _ => True) (by kernel_rfl) ?_ ?_ ?_
        · (repeat' (first | exact allLt_zero | refine allLt_succ ?_ ?_))
          · exact fun _ _ _ h _ => h
          · exact fun _ _ _ h _ => h
          · exact fun _ _ _ h _ => h
          · exact fun _ _ _ h _ => h
          · intro v w1 w2 h hg
            rw [show kindRow _ _ = none from by kernel_rfl] at hg
            obtain ⟨A2, n2, c2, rfl, hr⟩ := h
            exact ⟨A2, n2, c2, rfl, hr.bel (bel_grown hg)⟩
          · exact fun _ _ _ h _ => h
          · exact fun _ _ _ h _ => h
          · exact fun _ _ _ h _ => h
          · exact fun _ _ _ h _ => h
          · exact fun _ _ _ h _ => h
          · exact fun _ _ _ h _ => h
          · exact fun _ _ _ h _ => h
          · exact fun _ _ _ h _ => h
        · (repeat' (first | exact allLt_zero | refine allLt_succ ?_ ?_))
          · intro a w' hf he
            have k9 : a.tmps.getD 9 undef = .int .i64 0 := hf.var (by kernel_rfl) rfl
            refine wpOp_step rfl (fun K hK => ?_)
            go_simp
            exact hK _ _ ⟨_, rfl, rfl, World.grownBy.refl _ _⟩
          · intro a w' hf he
            have f0 : a.tmps.getD 49 undef = .int .i64 0 := he 0 (by kernel_rfl)
            rw [show kindRow _ _ = none from by kernel_rfl] at hf
            refine wpOp_step rfl (fun K hK => ?_)
            go_simp
            exact hK _ _ ⟨_, rfl, rfl, World.grownBy.refl _ _⟩
          · intro a w' hf he
            have f1 : a.tmps.getD 50 undef = .bool false := he 1 (by kernel_rfl)
            refine wpOp_step rfl (fun K hK => ?_)
            go_simp
            exact hK _ _ ⟨_, rfl, rfl, World.grownBy.refl _ _⟩
          · intro a w' hf he
            have k8 : a.tmps.getD 8 undef = .pointer (some ⟨w1.heap.size, 0, none⟩) := hf.var (by kernel_rfl) rfl
            have f2 : a.tmps.getD 51 undef = .bool false := he 2 (by kernel_rfl)
            rw [show kindRow _ _ = none from by kernel_rfl] at hf
            obtain ⟨q0, q1, q2, q3, q4, q5⟩ := cells6 ((hf.bel.block _ (heap_lt HX8.out)).trans HX8.out)
            refine wpOp_run rfl rfl rfl f2 (fun K hK => ?_)
            go_simp
            exact hK _ _ ⟨_, rfl, rfl, World.grownBy.refl _ _⟩
          · intro a w' hf he
            have f3 : a.tmps.getD 52 undef = .agg #[.int .u32 (qf : Int), .int .u32 (qt : Int), .int .i64 qk, .int .i64 qs, .int .i64 qa, .slice A7 n7 c7] := he 3 (by kernel_rfl)
            have f2 : a.tmps.getD 51 undef = .bool false := he 2 (by kernel_rfl)
            rw [show kindRow _ _ = none from by kernel_rfl] at hf
            refine wpOp_run rfl rfl rfl f2 (fun K hK => ?_)
            go_simp
            (with_reducible refine (hby2 _ (H8.out.bel hf.bel)).mono ?_)
            rintro e w2 ⟨A2, n2, c2, rfl, ho2, hb2⟩
            exact hK _ _ ⟨_, rfl, ⟨_, _, _, rfl, ho2⟩, grown_bel hb2⟩
          · intro a w' hf he
            obtain ⟨A4, n4, c4, hv4, hr4⟩ := he 4 (by kernel_rfl)
            have f4 : a.tmps.getD 53 undef = _ := hv4
            have f2 : a.tmps.getD 51 undef = .bool false := he 2 (by kernel_rfl)
            rw [show kindRow _ _ = none from by kernel_rfl] at hf
            have hcv := run_str (P := Try.prog) w' 23 9 5 A4 n4 c4 b Try.underlying23 Try.underlying5 Try.underlying9 hr4
            refine wpOp_run rfl rfl rfl f2 (fun K hK => ?_)
            go_simp
            exact hK _ _ ⟨_, rfl, rfl, World.grownBy.refl _ _⟩
          · intro a w' hf he
            have k1 : a.tmps.getD 1 undef = .slice A0 n0 c0 := hf.var (by kernel_rfl) rfl
            have f2 : a.tmps.getD 51 undef = .bool false := he 2 (by kernel_rfl)
            refine wpOp_run rfl rfl rfl f2 (fun K hK => ?_)
            go_simp
            exact hK _ _ ⟨_, rfl, rfl, World.grownBy.refl _ _⟩
          · intro a w' hf he
            have f6 : a.tmps.getD 55 undef = .slice A0 n0 c0 := he 6 (by kernel_rfl)
            have f2 : a.tmps.getD 51 undef = .bool false := he 2 (by kernel_rfl)
            rw [show kindRow _ _ = none from by kernel_rfl] at hf
            have hcv := run_str (P := Try.prog) w' 23 9 5 A0 n0 c0 b Try.underlying23 Try.underlying5 Try.underlying9 (Hb8.out.bel hf.bel)
            refine wpOp_run rfl rfl rfl f2 (fun K hK => ?_)
            go_simp
            exact hK _ _ ⟨_, rfl, rfl, World.grownBy.refl _ _⟩
          · intro a w' hf he
            have f5 : a.tmps.getD 54 undef = .string ⟨b.toArray⟩ := he 5 (by kernel_rfl)
            have f7 : a.tmps.getD 56 undef = .string ⟨b.toArray⟩ := he 7 (by kernel_rfl)
            have f2 : a.tmps.getD 51 undef = .bool false := he 2 (by kernel_rfl)
            rw [show kindRow _ _ = none from by kernel_rfl] at hf
            refine wpOp_run rfl rfl rfl f2 (fun K hK => ?_)
            go_simp
            exact hK _ _ ⟨_, rfl, by simp, World.grownBy.refl _ _⟩
          · intro a w' hf he
            have f2 : a.tmps.getD 51 undef = .bool false := he 2 (by kernel_rfl)
            have f8 : a.tmps.getD 57 undef = .bool true := he 8 (by kernel_rfl)
            refine wpOp_step rfl (fun K hK => ?_)
            go_simp
            exact hK _ _ ⟨_, rfl, rfl, World.grownBy.refl _ _⟩
          · intro a w' hf he
            have f9 : a.tmps.getD 58 undef = .bool true := he 9 (by kernel_rfl)
            refine wpOp_step rfl (fun K hK => ?_)
            go_simp
            exact hK _ _ ⟨_, rfl, rfl, World.grownBy.refl _ _⟩
          · intro a w' hf he
            have f10 : a.tmps.getD 59 undef = .bool true := he 10 (by kernel_rfl)
            rw [show kindRow _ _ = none from by kernel_rfl] at hf
            refine wpOp_run rfl rfl rfl f10 (fun K hK => ?_)
            go_simp
            refine (c_lives _).mono ?_
            rintro e w2 ⟨rfl, hb2⟩
            exact hK _ _ ⟨_, rfl, rfl, grown_bel hb2⟩
          · intro a w' hf he
            have f10 : a.tmps.getD 59 undef = .bool true := he 10 (by kernel_rfl)
            have f11 : a.tmps.getD 60 undef = .bool true := he 11 (by kernel_rfl)
            refine wpOp_step rfl (fun K hK => ?_)
            go_simp
            exact hK _ _ ⟨_, rfl, rfl, World.grownBy.refl _ _⟩
        · intro a w' hf he
          obtain ⟨u49, f0⟩ : ∃ u, a.tmps.getD 49 undef = u := ⟨_, rfl⟩
          obtain ⟨u50, f1⟩ : ∃ u, a.tmps.getD 50 undef = u := ⟨_, rfl⟩
          obtain ⟨u51, f2⟩ : ∃ u, a.tmps.getD 51 undef = u := ⟨_, rfl⟩
          obtain ⟨u52, f3⟩ : ∃ u, a.tmps.getD 52 undef = u := ⟨_, rfl⟩
          obtain ⟨u53, f4⟩ : ∃ u, a.tmps.getD 53 undef = u := ⟨_, rfl⟩
          obtain ⟨u54, f5⟩ : ∃ u, a.tmps.getD 54 undef = u := ⟨_, rfl⟩
          obtain ⟨u55, f6⟩ : ∃ u, a.tmps.getD 55 undef = u := ⟨_, rfl⟩
          obtain ⟨u56, f7⟩ : ∃ u, a.tmps.getD 56 undef = u := ⟨_, rfl⟩
          obtain ⟨u57, f8⟩ : ∃ u, a.tmps.getD 57 undef = u := ⟨_, rfl⟩
          obtain ⟨u58, f9⟩ : ∃ u, a.tmps.getD 58 undef = u := ⟨_, rfl⟩
          obtain ⟨u59, f10⟩ : ∃ u, a.tmps.getD 59 undef = u := ⟨_, rfl⟩
          obtain ⟨u60, f11⟩ : ∃ u, a.tmps.getD 60 undef = u := ⟨_, rfl⟩
          have f12 : a.tmps.getD 61 undef = .bool true := he 12 (by decide)
          have hlit := hf.lit ((49, u49) :: (50, u50) :: (51, u51) :: (52, u52) :: (53, u53) :: (54, u54) :: (55, u55) :: (56, u56) :: (57, u57) :: (58, u58) :: (59, u59) :: (60, u60) :: (61, .bool true) :: []) (by kernel_rfl) ⟨f0, f1, f2, f3, f4, f5, f6, f7, f8, f9, f10, f11, f12, trivial⟩
          have hB := hf.bel
          clear he hf f0 f1 f2 f3 f4 f5 f6 f7 f8 f9 f10 f11 f12 
          subst hlit
          simp only [putAll_nil, putAll_cons, Act.put, List.setIfInBounds_toArray, List.set_cons_zero, List.set_cons_succ]
          simp only [List.drop_succ_cons, List.drop_zero]
          go_wp2_with fail
          go_ret
          exact ⟨rfl, HB8.out.trans (hB.mono HB8.out.size)⟩
      · have hne : ((er : Int) != 0) = true := by simp; omega
        clear hpb hbp
        refine wp_region_phi (by kernel_rfl) 13 none (fun _ => false) (fun i_ v wz => match i_ with
          | 0 => v = .int .i64 (er : Int)
          | 1 => v = .bool true
          | 2 => v = .bool true
          | 3 => v = undef
          | 4 => v = undef
          | 5 => v = undef
          | 6 => v = undef
          | 7 => v = undef
          | 8 => v = undef
          | 9 => v = .bool true
          | 10 => v = .bool true
          | 11 => v = .bool true
          | 12 => v = .bool true
          | _ => True) (by kernel_rfl) ?_ ?_ ?_
        · (repeat' (first | exact allLt_zero | refine allLt_succ ?_ ?_))
          · exact fun _ _ _ h _ => h
          · exact fun _ _ _ h _ => h
          · exact fun _ _ _ h _ => h
          · exact fun _ _ _ h _ => h
          · exact fun _ _ _ h _ => h
          · exact fun _ _ _ h _ => h
          · exact fun _ _ _ h _ => h
          · exact fun _ _ _ h _ => h
          · exact fun _ _ _ h _ => h
          · exact fun _ _ _ h _ => h
          · exact fun _ _ _ h _ => h
          · exact fun _ _ _ h _ => h
          · exact fun _ _ _ h _ => h
        · (repeat' (first | exact allLt_zero | refine allLt_succ ?_ ?_))
          · intro a w' hf he
            have k9 : a.tmps.getD 9 undef = .int .i64 (er : Int) := hf.var (by kernel_rfl) rfl
            refine wpOp_step rfl (fun K hK => ?_)
            go_simp
            exact hK _ _ ⟨_, rfl, rfl, World.grownBy.refl _ _⟩
          · intro a w' hf he
            have f0 : a.tmps.getD 49 undef = .int .i64 (er : Int) := he 0 (by kernel_rfl)
            rw [show kindRow _ _ = none from by kernel_rfl] at hf
            refine wpOp_step rfl (fun K hK => ?_)
            go_simp
            (try rw [hne])
            exact hK _ _ ⟨_, rfl, rfl, World.grownBy.refl _ _⟩
          · intro a w' hf he
            have f1 : a.tmps.getD 50 undef = .bool true := he 1 (by kernel_rfl)
            refine wpOp_step rfl (fun K hK => ?_)
            go_simp
            exact hK _ _ ⟨_, rfl, rfl, World.grownBy.refl _ _⟩
          · intro a w' hf he
            have f2 : a.tmps.getD 51 undef = .bool true := he 2 (by kernel_rfl)
            exact wpOp_pass rfl rfl rfl f2 rfl ⟨_, rfl, rfl, World.grownBy.refl _ _⟩
          · intro a w' hf he
            have f2 : a.tmps.getD 51 undef = .bool true := he 2 (by kernel_rfl)
            exact wpOp_pass rfl rfl rfl f2 rfl ⟨_, rfl, rfl, World.grownBy.refl _ _⟩
          · intro a w' hf he
            have f2 : a.tmps.getD 51 undef = .bool true := he 2 (by kernel_rfl)
            exact wpOp_pass rfl rfl rfl f2 rfl ⟨_, rfl, rfl, World.grownBy.refl _ _⟩
          · intro a w' hf he
            have f2 : a.tmps.getD 51 undef = .bool true := he 2 (by kernel_rfl)
            exact wpOp_pass rfl rfl rfl f2 rfl ⟨_, rfl, rfl, World.grownBy.refl _ _⟩
          · intro a w' hf he
            have f2 : a.tmps.getD 51 undef = .bool true := he 2 (by kernel_rfl)
            exact wpOp_pass rfl rfl rfl f2 rfl ⟨_, rfl, rfl, World.grownBy.refl _ _⟩
          · intro a w' hf he
            have f2 : a.tmps.getD 51 undef = .bool true := he 2 (by kernel_rfl)
            exact wpOp_pass rfl rfl rfl f2 rfl ⟨_, rfl, rfl, World.grownBy.refl _ _⟩
          · intro a w' hf he
            have f2 : a.tmps.getD 51 undef = .bool true := he 2 (by kernel_rfl)
            have f8 : a.tmps.getD 57 undef = undef := he 8 (by kernel_rfl)
            refine wpOp_step rfl (fun K hK => ?_)
            go_simp
            exact hK _ _ ⟨_, rfl, rfl, World.grownBy.refl _ _⟩
          · intro a w' hf he
            have f9 : a.tmps.getD 58 undef = .bool true := he 9 (by kernel_rfl)
            refine wpOp_step rfl (fun K hK => ?_)
            go_simp
            exact hK _ _ ⟨_, rfl, rfl, World.grownBy.refl _ _⟩
          · intro a w' hf he
            have f10 : a.tmps.getD 59 undef = .bool true := he 10 (by kernel_rfl)
            rw [show kindRow _ _ = none from by kernel_rfl] at hf
            refine wpOp_run rfl rfl rfl f10 (fun K hK => ?_)
            go_simp
            refine (c_lives _).mono ?_
            rintro e w2 ⟨rfl, hb2⟩
            exact hK _ _ ⟨_, rfl, rfl, grown_bel hb2⟩
          · intro a w' hf he
            have f10 : a.tmps.getD 59 undef = .bool true := he 10 (by kernel_rfl)
            have f11 : a.tmps.getD 60 undef = .bool true := he 11 (by kernel_rfl)
            refine wpOp_step rfl (fun K hK => ?_)
            go_simp
            exact hK _ _ ⟨_, rfl, rfl, World.grownBy.refl _ _⟩
        · intro a w' hf he
          obtain ⟨u49, f0⟩ : ∃ u, a.tmps.getD 49 undef = u := ⟨_, rfl⟩
          obtain ⟨u50, f1⟩ : ∃ u, a.tmps.getD 50 undef = u := ⟨_, rfl⟩
          obtain ⟨u51, f2⟩ : ∃ u, a.tmps.getD 51 undef = u := ⟨_, rfl⟩
          obtain ⟨u52, f3⟩ : ∃ u, a.tmps.getD 52 undef = u := ⟨_, rfl⟩
          obtain ⟨u53, f4⟩ : ∃ u, a.tmps.getD 53 undef = u := ⟨_, rfl⟩
          obtain ⟨u54, f5⟩ : ∃ u, a.tmps.getD 54 undef = u := ⟨_, rfl⟩
          obtain ⟨u55, f6⟩ : ∃ u, a.tmps.getD 55 undef = u := ⟨_, rfl⟩
          obtain ⟨u56, f7⟩ : ∃ u, a.tmps.getD 56 undef = u := ⟨_, rfl⟩
          obtain ⟨u57, f8⟩ : ∃ u, a.tmps.getD 57 undef = u := ⟨_, rfl⟩
          obtain ⟨u58, f9⟩ : ∃ u, a.tmps.getD 58 undef = u := ⟨_, rfl⟩
          obtain ⟨u59, f10⟩ : ∃ u, a.tmps.getD 59 undef = u := ⟨_, rfl⟩
          obtain ⟨u60, f11⟩ : ∃ u, a.tmps.getD 60 undef = u := ⟨_, rfl⟩
          have f12 : a.tmps.getD 61 undef = .bool true := he 12 (by decide)
          have hlit := hf.lit ((49, u49) :: (50, u50) :: (51, u51) :: (52, u52) :: (53, u53) :: (54, u54) :: (55, u55) :: (56, u56) :: (57, u57) :: (58, u58) :: (59, u59) :: (60, u60) :: (61, .bool true) :: []) (by kernel_rfl) ⟨f0, f1, f2, f3, f4, f5, f6, f7, f8, f9, f10, f11, f12, trivial⟩
          have hB := hf.bel
          clear he hf f0 f1 f2 f3 f4 f5 f6 f7 f8 f9 f10 f11 f12 
          subst hlit
          simp only [putAll_nil, putAll_cons, Act.put, List.setIfInBounds_toArray, List.set_cons_zero, List.set_cons_succ]
          simp only [List.drop_succ_cons, List.drop_zero]
          go_wp2_with fail
          go_ret
          exact ⟨rfl, HB8.out.trans (hB.mono HB8.out.size)⟩
    · have hbi : bytes f t k s ac body = [] := if_neg hG
      rw [hbi] at hby
      obtain ⟨k0, k1, k2, k3, k4, k5⟩ := cells6 HX.out
      clear hbi
      go_upto_region 9 with (first
        | (go_at_call 21
           (with_reducible refine (hby _ Hb.out).mono ?_)
           rintro e w2 ⟨A1, n1, c1, rfl, h1, bel1⟩
           obtain rfl : n1 = 0 := by have := h1.blen; simp at this; omega
           have Pb0 := Lib.hid (Hb0.out.bel bel1)
           have PB := Lib.hid (HB.out.trans (bel1.mono HB.out.size))
           clear h1 bel1 hby k0 k1 k2 k3 k4 k5)
        | (go_at_call 25
           (with_reducible refine (hp2 _ (Pb0.out)).mono ?_)
           rintro e w1 ⟨A7, n7, c7, rfl, h7, bel7⟩
           have H7 := Lib.hid h7
           have HB7 := Lib.hid (PB.out.trans (bel7.mono PB.out.size))
           have Hb7 := Lib.hid (Pb0.out.bel bel7)
           clear h7 bel7 hp2)
        | (refine Disk.wpL_store_all rfl rfl 25 (.tmp 8) (.tmp 47) rfl _ rfl _ rfl _ _ (heap_alloc_new w1 _) (by kernel_rfl) rfl (one6 _ _ _ _ _ _ _ _) ?_
           intro w8 x8 g8
           have HX8 := Lib.hid x8
           have F8 : Fr (fun k => k = w1.heap.size) w1 w8 := (Fr.alloc _).trans (Fr.grown (S := fun k => k = w1.heap.size) g8 (by rintro k ⟨⟩; rfl)) (fun _ _ h => h)
           have bel8 : Below w1.heap.size w1 w8 := F8.bel (fun k e => by omega) (Nat.le_refl _)
           have H8 := Lib.hid (H7.out.bel bel8)
           have Hb8 := Lib.hid (Hb7.out.bel bel8)
           have HB8 := Lib.hid (HB7.out.trans (bel8.mono HB7.out.size))
           clear x8 g8 F8 bel8)
        )
      by_cases her : er = 0
      · subst her
        obtain ⟨hqf, hqt⟩ := hpb rfl
        replace hbp := hbp rfl
        have hby2 := fun w (h : Byt w A7 n7 c7 qb) => c_Bytes qf qt qk qs qa A7 n7 c7 qb w hqf hqt h
        rw [hbp] at hby2
        clear hpb hbp
        refine wp_region_phi (by kernel_rfl) 13 none (fun _ => false) (fun i_ v wz => match i_ with
          | 0 => v = .int .i64 0
          | 1 => v = .bool false
          | 2 => v = .bool false
          | 3 => v = .agg #[.int .u32 (qf : Int), .int .u32 (qt : Int), .int .i64 qk, .int .i64 qs, .int .i64 qa, .slice A7 n7 c7]
          | 4 => ∃ A2 n2 c2, v = .slice A2 n2 c2 ∧ Byt wz A2 n2 c2 b
          | 5 => v = .string ⟨b.toArray⟩
          | 6 => v = .slice A0 n0 c0
          | 7 => v = .string ⟨b.toArray⟩
          | 8 => v = .bool true
          | 9 => v = .bool true
          | 10 => v = .bool true
          | 11 => v = .bool true
          | 12 => v = .bool true
          | _ => True) (by kernel_rfl) ?_ ?_ ?_
        · (repeat' (first | exact allLt_zero | refine allLt_succ ?_ ?_))
          · exact fun _ _ _ h _ => h
          · exact fun _ _ _ h _ => h
          · exact fun _ _ _ h _ => h
          · exact fun _ _ _ h _ => h
          · intro v w1 w2 h hg
            rw [show kindRow _ _ = none from by kernel_rfl] at hg
            obtain ⟨A2, n2, c2, rfl, hr⟩ := h
            exact ⟨A2, n2, c2, rfl, hr.bel (bel_grown hg)⟩
          · exact fun _ _ _ h _ => h
          · exact fun _ _ _ h _ => h
          · exact fun _ _ _ h _ => h
          · exact fun _ _ _ h _ => h
          · exact fun _ _ _ h _ => h
          · exact fun _ _ _ h _ => h
          · exact fun _ _ _ h _ => h
          · exact fun _ _ _ h _ => h
        · (repeat' (first | exact allLt_zero | refine allLt_succ ?_ ?_))
          · intro a w' hf he
            have k9 : a.tmps.getD 9 undef = .int .i64 0 := hf.var (by kernel_rfl) rfl
            refine wpOp_step rfl (fun K hK => ?_)
            go_simp
            exact hK _ _ ⟨_, rfl, rfl, World.grownBy.refl _ _⟩
          · intro a w' hf he
            have f0 : a.tmps.getD 49 undef = .int .i64 0 := he 0 (by kernel_rfl)
            rw [show kindRow _ _ = none from by kernel_rfl] at hf
            refine wpOp_step rfl (fun K hK => ?_)
            go_simp
            exact hK _ _ ⟨_, rfl, rfl, World.grownBy.refl _ _⟩
          · intro a w' hf he
            have f1 : a.tmps.getD 50 undef = .bool false := he 1 (by kernel_rfl)
            refine wpOp_step rfl (fun K hK => ?_)
            go_simp
            exact hK _ _ ⟨_, rfl, rfl, World.grownBy.refl _ _⟩
          · intro a w' hf he
            have k8 : a.tmps.getD 8 undef = .pointer (some ⟨w1.heap.size, 0, none⟩) := hf.var (by kernel_rfl) rfl
            have f2 : a.tmps.getD 51 undef = .bool false := he 2 (by kernel_rfl)
            rw [show kindRow _ _ = none from by kernel_rfl] at hf
            obtain ⟨q0, q1, q2, q3, q4, q5⟩ := cells6 ((hf.bel.block _ (heap_lt HX8.out)).trans HX8.out)
            refine wpOp_run rfl rfl rfl f2 (fun K hK => ?_)
            go_simp
            exact hK _ _ ⟨_, rfl, rfl, World.grownBy.refl _ _⟩
          · intro a w' hf he
            have f3 : a.tmps.getD 52 undef = .agg #[.int .u32 (qf : Int), .int .u32 (qt : Int), .int .i64 qk, .int .i64 qs, .int .i64 qa, .slice A7 n7 c7] := he 3 (by kernel_rfl)
            have f2 : a.tmps.getD 51 undef = .bool false := he 2 (by kernel_rfl)
            rw [show kindRow _ _ = none from by kernel_rfl] at hf
            refine wpOp_run rfl rfl rfl f2 (fun K hK => ?_)
            go_simp
            (with_reducible refine (hby2 _ (H8.out.bel hf.bel)).mono ?_)
            rintro e w2 ⟨A2, n2, c2, rfl, ho2, hb2⟩
            exact hK _ _ ⟨_, rfl, ⟨_, _, _, rfl, ho2⟩, grown_bel hb2⟩
          · intro a w' hf he
            obtain ⟨A4, n4, c4, hv4, hr4⟩ := he 4 (by kernel_rfl)
            have f4 : a.tmps.getD 53 undef = _ := hv4
            have f2 : a.tmps.getD 51 undef = .bool false := he 2 (by kernel_rfl)
            rw [show kindRow _ _ = none from by kernel_rfl] at hf
            have hcv := run_str (P := Try.prog) w' 23 9 5 A4 n4 c4 b Try.underlying23 Try.underlying5 Try.underlying9 hr4
            refine wpOp_run rfl rfl rfl f2 (fun K hK => ?_)
            go_simp
            exact hK _ _ ⟨_, rfl, rfl, World.grownBy.refl _ _⟩
          · intro a w' hf he
            have k1 : a.tmps.getD 1 undef = .slice A0 n0 c0 := hf.var (by kernel_rfl) rfl
            have f2 : a.tmps.getD 51 undef = .bool false := he 2 (by kernel_rfl)
            refine wpOp_run rfl rfl rfl f2 (fun K hK => ?_)
            go_simp
            exact hK _ _ ⟨_, rfl, rfl, World.grownBy.refl _ _⟩
          · intro a w' hf he
            have f6 : a.tmps.getD 55 undef = .slice A0 n0 c0 := he 6 (by kernel_rfl)
            have f2 : a.tmps.getD 51 undef = .bool false := he 2 (by kernel_rfl)
            rw [show kindRow _ _ = none from by kernel_rfl] at hf
            have hcv := run_str (P := Try.prog) w' 23 9 5 A0 n0 c0 b Try.underlying23 Try.underlying5 Try.underlying9 (Hb8.out.bel hf.bel)
            refine wpOp_run rfl rfl rfl f2 (fun K hK => ?_)
            go_simp
            exact hK _ _ ⟨_, rfl, rfl, World.grownBy.refl _ _⟩
          · intro a w' hf he
            have f5 : a.tmps.getD 54 undef = .string ⟨b.toArray⟩ := he 5 (by kernel_rfl)
            have f7 : a.tmps.getD 56 undef = .string ⟨b.toArray⟩ := he 7 (by kernel_rfl)
            have f2 : a.tmps.getD 51 undef = .bool false := he 2 (by kernel_rfl)
            rw [show kindRow _ _ = none from by kernel_rfl] at hf
            refine wpOp_run rfl rfl rfl f2 (fun K hK => ?_)
            go_simp
            exact hK _ _ ⟨_, rfl, by simp, World.grownBy.refl _ _⟩
          · intro a w' hf he
            have f2 : a.tmps.getD 51 undef = .bool false := he 2 (by kernel_rfl)
            have f8 : a.tmps.getD 57 undef = .bool true := he 8 (by kernel_rfl)
            refine wpOp_step rfl (fun K hK => ?_)
            go_simp
            exact hK _ _ ⟨_, rfl, rfl, World.grownBy.refl _ _⟩
          · intro a w' hf he
            have f9 : a.tmps.getD 58 undef = .bool true := he 9 (by kernel_rfl)
            refine wpOp_step rfl (fun K hK => ?_)
            go_simp
            exact hK _ _ ⟨_, rfl, rfl, World.grownBy.refl _ _⟩
          · intro a w' hf he
            have f10 : a.tmps.getD 59 undef = .bool true := he 10 (by kernel_rfl)
            rw [show kindRow _ _ = none from by kernel_rfl] at hf
            refine wpOp_run rfl rfl rfl f10 (fun K hK => ?_)
            go_simp
            refine (c_lives _).mono ?_
            rintro e w2 ⟨rfl, hb2⟩
            exact hK _ _ ⟨_, rfl, rfl, grown_bel hb2⟩
          · intro a w' hf he
            have f10 : a.tmps.getD 59 undef = .bool true := he 10 (by kernel_rfl)
            have f11 : a.tmps.getD 60 undef = .bool true := he 11 (by kernel_rfl)
            refine wpOp_step rfl (fun K hK => ?_)
            go_simp
            exact hK _ _ ⟨_, rfl, rfl, World.grownBy.refl _ _⟩
        · intro a w' hf he
          obtain ⟨u49, f0⟩ : ∃ u, a.tmps.getD 49 undef = u := ⟨_, rfl⟩
          obtain ⟨u50, f1⟩ : ∃ u, a.tmps.getD 50 undef = u := ⟨_, rfl⟩
          obtain ⟨u51, f2⟩ : ∃ u, a.tmps.getD 51 undef = u := ⟨_, rfl⟩
          obtain ⟨u52, f3⟩ : ∃ u, a.tmps.getD 52 undef = u := ⟨_, rfl⟩
          obtain ⟨u53, f4⟩ : ∃ u, a.tmps.getD 53 undef = u := ⟨_, rfl⟩
          obtain ⟨u54, f5⟩ : ∃ u, a.tmps.getD 54 undef = u := ⟨_, rfl⟩
          obtain ⟨u55, f6⟩ : ∃ u, a.tmps.getD 55 undef = u := ⟨_, rfl⟩
          obtain ⟨u56, f7⟩ : ∃ u, a.tmps.getD 56 undef = u := ⟨_, rfl⟩
          obtain ⟨u57, f8⟩ : ∃ u, a.tmps.getD 57 undef = u := ⟨_, rfl⟩
          obtain ⟨u58, f9⟩ : ∃ u, a.tmps.getD 58 undef = u := ⟨_, rfl⟩
          obtain ⟨u59, f10⟩ : ∃ u, a.tmps.getD 59 undef = u := ⟨_, rfl⟩
          obtain ⟨u60, f11⟩ : ∃ u, a.tmps.getD 60 undef = u := ⟨_, rfl⟩
          have f12 : a.tmps.getD 61 undef = .bool true := he 12 (by decide)
          have hlit := hf.lit ((49, u49) :: (50, u50) :: (51, u51) :: (52, u52) :: (53, u53) :: (54, u54) :: (55, u55) :: (56, u56) :: (57, u57) :: (58, u58) :: (59, u59) :: (60, u60) :: (61, .bool true) :: []) (by kernel_rfl) ⟨f0, f1, f2, f3, f4, f5, f6, f7, f8, f9, f10, f11, f12, trivial⟩
          have hB := hf.bel
          clear he hf f0 f1 f2 f3 f4 f5 f6 f7 f8 f9 f10 f11 f12 
          subst hlit
          simp only [putAll_nil, putAll_cons, Act.put, List.setIfInBounds_toArray, List.set_cons_zero, List.set_cons_succ]
          simp only [List.drop_succ_cons, List.drop_zero]
          go_wp2_with fail
          go_ret
          exact ⟨rfl, HB8.out.trans (hB.mono HB8.out.size)⟩
      · have hne : ((er : Int) != 0) = true := by simp; omega
        clear hpb hbp
        refine wp_region_phi (by kernel_rfl) 13 none (fun _ => false) (fun i_ v wz => match i_ with
          | 0 => v = .int .i64 (er : Int)
          | 1 => v = .bool true
          | 2 => v = .bool true
          | 3 => v = undef
          | 4 => v = undef
          | 5 => v = undef
          | 6 => v = undef
          | 7 => v = undef
          | 8 => v = undef
          | 9 => v = .bool true
          | 10 => v = .bool true
          | 11 => v = .bool true
          | 12 => v = .bool true
          | _ => True) (by kernel_rfl) ?_ ?_ ?_
        · (repeat' (first | exact allLt_zero | refine allLt_succ ?_ ?_))
          · exact fun _ _ _ h _ => h
          · exact fun _ _ _ h _ => h
          · exact fun _ _ _ h _ => h
          · exact fun _ _ _ h _ => h
          · exact fun _ _ _ h _ => h
          · exact fun _ _ _ h _ => h
          · exact fun _ _ _ h _ => h
          · exact fun _ _ _ h _ => h
          · exact fun _ _ _ h _ => h
          · exact fun _ _ _ h _ => h
          · exact fun _ _ _ h _ => h
          · exact fun _ _ _ h _ => h
          · exact fun _ _ _ h _ => h
        · (repeat' (first | exact allLt_zero | refine allLt_succ ?_ ?_))
          · intro a w' hf he
            have k9 : a.tmps.getD 9 undef = .int .i64 (er : Int) := hf.var (by kernel_rfl) rfl
            refine wpOp_step rfl (fun K hK => ?_)
            go_simp
            exact hK _ _ ⟨_, rfl, rfl, World.grownBy.refl _ _⟩
          · intro a w' hf he
            have f0 : a.tmps.getD 49 undef = .int .i64 (er : Int) := he 0 (by kernel_rfl)
            rw [show kindRow _ _ = none from by kernel_rfl] at hf
            refine wpOp_step rfl (fun K hK => ?_)
            go_simp
            (try rw [hne])
            exact hK _ _ ⟨_, rfl, rfl, World.grownBy.refl _ _⟩
          · intro a w' hf he
            have f1 : a.tmps.getD 50 undef = .bool true := he 1 (by kernel_rfl)
            refine wpOp_step rfl (fun K hK => ?_)
            go_simp
            exact hK _ _ ⟨_, rfl, rfl, World.grownBy.refl _ _⟩
          · intro a w' hf he
            have f2 : a.tmps.getD 51 undef = .bool true := he 2 (by kernel_rfl)
            exact wpOp_pass rfl rfl rfl f2 rfl ⟨_, rfl, rfl, World.grownBy.refl _ _⟩
          · intro a w' hf he
            have f2 : a.tmps.getD 51 undef = .bool true := he 2 (by kernel_rfl)
            exact wpOp_pass rfl rfl rfl f2 rfl ⟨_, rfl, rfl, World.grownBy.refl _ _⟩
          · intro a w' hf he
            have f2 : a.tmps.getD 51 undef = .bool true := he 2 (by kernel_rfl)
            exact wpOp_pass rfl rfl rfl f2 rfl ⟨_, rfl, rfl, World.grownBy.refl _ _⟩
          · intro a w' hf he
            have f2 : a.tmps.getD 51 undef = .bool true := he 2 (by kernel_rfl)
            exact wpOp_pass rfl rfl rfl f2 rfl ⟨_, rfl, rfl, World.grownBy.refl _ _⟩
          · intro a w' hf he
            have f2 : a.tmps.getD 51 undef = .bool true := he 2 (by kernel_rfl)
            exact wpOp_pass rfl rfl rfl f2 rfl ⟨_, rfl, rfl, World.grownBy.refl _ _⟩
          · intro a w' hf he
            have f2 : a.tmps.getD 51 undef = .bool true := he 2 (by kernel_rfl)
            exact wpOp_pass rfl rfl rfl f2 rfl ⟨_, rfl, rfl, World.grownBy.refl _ _⟩
          · intro a w' hf he
            have f2 : a.tmps.getD 51 undef = .bool true := he 2 (by kernel_rfl)
            have f8 : a.tmps.getD 57 undef = undef := he 8 (by kernel_rfl)
            refine wpOp_step rfl (fun K hK => ?_)
            go_simp
            exact hK _ _ ⟨_, rfl, rfl, World.grownBy.refl _ _⟩
          · intro a w' hf he
            have f9 : a.tmps.getD 58 undef = .bool true := he 9 (by kernel_rfl)
            refine wpOp_step rfl (fun K hK => ?_)
            go_simp
            exact hK _ _ ⟨_, rfl, rfl, World.grownBy.refl _ _⟩
          · intro a w' hf he
            have f10 : a.tmps.getD 59 undef = .bool true := he 10 (by kernel_rfl)
            rw [show kindRow _ _ = none from by kernel_rfl] at hf
            refine wpOp_run rfl rfl rfl f10 (fun K hK => ?_)
            go_simp
            refine (c_lives _).mono ?_
            rintro e w2 ⟨rfl, hb2⟩
            exact hK _ _ ⟨_, rfl, rfl, grown_bel hb2⟩
          · intro a w' hf he
            have f10 : a.tmps.getD 59 undef = .bool true := he 10 (by kernel_rfl)
            have f11 : a.tmps.getD 60 undef = .bool true := he 11 (by kernel_rfl)
            refine wpOp_step rfl (fun K hK => ?_)
            go_simp
            exact hK _ _ ⟨_, rfl, rfl, World.grownBy.refl _ _⟩
        · intro a w' hf he
          obtain ⟨u49, f0⟩ : ∃ u, a.tmps.getD 49 undef = u := ⟨_, rfl⟩
          obtain ⟨u50, f1⟩ : ∃ u, a.tmps.getD 50 undef = u := ⟨_, rfl⟩
          obtain ⟨u51, f2⟩ : ∃ u, a.tmps.getD 51 undef = u := ⟨_, rfl⟩
          obtain ⟨u52, f3⟩ : ∃ u, a.tmps.getD 52 undef = u := ⟨_, rfl⟩
          obtain ⟨u53, f4⟩ : ∃ u, a.tmps.getD 53 undef = u := ⟨_, rfl⟩
          obtain ⟨u54, f5⟩ : ∃ u, a.tmps.getD 54 undef = u := ⟨_, rfl⟩
          obtain ⟨u55, f6⟩ : ∃ u, a.tmps.getD 55 undef = u := ⟨_, rfl⟩
          obtain ⟨u56, f7⟩ : ∃ u, a.tmps.getD 56 undef = u := ⟨_, rfl⟩
          obtain ⟨u57, f8⟩ : ∃ u, a.tmps.getD 57 undef = u := ⟨_, rfl⟩
          obtain ⟨u58, f9⟩ : ∃ u, a.tmps.getD 58 undef = u := ⟨_, rfl⟩
          obtain ⟨u59, f10⟩ : ∃ u, a.tmps.getD 59 undef = u := ⟨_, rfl⟩
          obtain ⟨u60, f11⟩ : ∃ u, a.tmps.getD 60 undef = u := ⟨_, rfl⟩
          have f12 : a.tmps.getD 61 undef = .bool true := he 12 (by decide)
          have hlit := hf.lit ((49, u49) :: (50, u50) :: (51, u51) :: (52, u52) :: (53, u53) :: (54, u54) :: (55, u55) :: (56, u56) :: (57, u57) :: (58, u58) :: (59, u59) :: (60, u60) :: (61, .bool true) :: []) (by kernel_rfl) ⟨f0, f1, f2, f3, f4, f5, f6, f7, f8, f9, f10, f11, f12, trivial⟩
          have hB := hf.bel
          clear he hf f0 f1 f2 f3 f4 f5 f6 f7 f8 f9 f10 f11 f12 
          subst hlit
          simp only [putAll_nil, putAll_cons, Act.put, List.setIfInBounds_toArray, List.set_cons_zero, List.set_cons_succ]
          simp only [List.drop_succ_cons, List.drop_zero]
          go_wp2_with fail
          go_ret
          exact ⟨rfl, HB8.out.trans (hB.mono HB8.out.size)⟩
end Go.Proofs.Ytdpggcpbgfancaa.Wire
