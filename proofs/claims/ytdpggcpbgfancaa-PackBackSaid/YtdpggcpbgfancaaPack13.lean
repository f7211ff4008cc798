/- The law PackBack, walked. Conditions: none. -/
import Derived.Test.YtdpggcpbgfancaaPack12
set_option linter.unusedVariables false
set_option linter.unusedSimpArgs false
namespace Go.Proofs.Ytdpggcpbgfancaa.Tw
open Go.RowKit
theorem wanted_undef {ops : Array Oper} {o : Oper} {a : Act} {j : Nat} {want : Bool} {d : Tmp} (hg : o.guard = some (j, want)) (hd : dstOf ops j = some d) (hv : a.tmps.getD d undef = undef) : Region.wanted o (yielded ops a.tmps) = false := by
  unfold dstOf at hd
  by_cases hlt : d < a.tmps.size
  · have : a.tmps[d]? = some undef := by
      have h2 : a.tmps.getD d undef = a.tmps[d] := by simp [Array.getD, hlt]
      rw [h2] at hv
      rw [Array.getElem?_eq_getElem hlt, hv]
    simp [Region.wanted, hg, yielded, hd, this, undef]
  · have : a.tmps[d]? = none := Array.getElem?_eq_none (Nat.le_of_not_lt hlt)
    simp [Region.wanted, hg, yielded, hd, this]
/-- an operation under a guard that was itself passed -/
theorem wpOp_pass2 {P : Program} {ops : Array Oper} {Q : Exit → Act → World → Prop} {i : Nat} {o : Oper} {K : Act → World → Prop} {a : Act} {w : World} {j : Nat} {want : Bool} {d : Tmp} (ho : ops[i]? = some o) (hg : o.guard = some (j, want)) (hd : dstOf ops j = some d) (hv : a.tmps.getD d undef = undef)
    (h : K (a.put o.dst undef) w) : wpOp P ops Q i K a w :=
  wpOp_step ho fun K' hK => by
    rw [wanted_undef hg hd hv, if_neg (by simp)]
    exact hK _ _ h
end Go.Proofs.Ytdpggcpbgfancaa.Tw
namespace Go.Proofs.Ytdpggcpbgfancaa.Pack
open Go.RowKit Tw
set_option maxHeartbeats 8000000
set_option maxRecDepth 100000
theorem parse_m (b : List UInt8) : (parse b).1.m < 18446744073709551616 := by
  have h0 : zm.m < 18446744073709551616 := by show (0 : Nat) < 18446744073709551616; omega
  unfold parse
  split
  · exact h0
  · split
    · exact h0
    · split
      · exact h0
      · split
        · exact h0
        · split
          · show fM _ _ < _
            unfold fM
            split
            · exact Num.gv_lt 8 _
            · omega
          · exact h0
theorem w_PackBack (p : Ms) (A : Option Addr) (n c : Nat) (A0 : Option Addr) (n0 c0 : Nat) (b : List UInt8) (y : Int) (w : World) (hm : p.m < 18446744073709551616) (hb : Byt w A n c p.d) (hb0 : Byt w A0 n0 c0 b) :
    Calls Try.prog 9 #[msV p A n c, .slice A0 n0 c0, .int .i64 y] w fun e w' => e = .returned (.bool true) ∧ Below w.heap.size w w' := by
  have hgl := fun h => len_good (p := p) hm h
  have hpb := fun h => parse_bytes (p := p) hm h
  have hbad := bytesM_bad (p := p)
  have hcutl : ∀ (x : List UInt8) (k : Nat), k < x.length → bytesM p = x → (parse (x.take k)).2 = 0 → ¬SameP (parse (x.take k)).1 p := fun x k hk hx h1 h2 => by
    have h3 := (bytes_parse h1).2
    rw [sameP_iff.1 h2, hx] at h3
    have h4 := congrArg List.length h3
    rw [List.length_take] at h4
    omega
  have hlen := hb.blen
  have hby := fun w (hb : Byt w A n c p.d) => c_Bytes p.k p.i p.o p.m p.w A n c p.d w hm hb
  have hsm := fun A' n' c' w h1 h2 => c_Same p p A' A n' c' n c w h1 h2
  have hrsm := fun A' n' c' w h1 h2 => c_rSame p p A' A n' c' n c w h1 h2
  rw [show decide (SameP p p) = true from decide_eq_true (sameP_iff.2 rfl)] at hsm hrsm
  have hzs := fun q A' n' c' w h1 h2 => c_Same q p A' A n' c' n c w h1 h2
  obtain ⟨BY, hBY⟩ : ∃ l, bytesM p = l := ⟨_, rfl⟩
  have hBY' : bytes p.k p.i p.o p.m p.w p.d = BY := hBY
  rw [hBY'] at hby
  rw [hBY] at hgl hpb hbad
  replace hcutl := fun k hk => hcutl BY k hk hBY
  have hp2 := fun w (h : Byt w A0 n0 c0 b) (hn : n0 ≤ 1000) => c_Parse A0 n0 c0 b w h hn
  have hbp := bytes_parse (b := b)
  have hp2m := parse_m b
  generalize (parse b).2 = er at *
  generalize (parse b).1 = q at *
  have hqy := fun A' n' c' w h => c_Bytes q.k q.i q.o q.m q.w A' n' c' q.d w hp2m h
  have hqg := fun A' n' c' w => c_Good q.k q.i q.o q.m q.w A' n' c' w
  have hqG : er = 0 → decide (Good q.k q.i q.o q.m q.w q.d.length) = true := fun h => decide_eq_true (hbp h).1
  have hqB : er = 0 → bytes q.k q.i q.o q.m q.w q.d = b := fun h => (hbp h).2
  clear hbp hBY hBY' hp2m
  have hpc := fun A' c' k w (h : Byt w A' k c' (BY.take k)) (hk : k ≤ 1000) => c_Parse A' k c' (BY.take k) w h hk
  have hGD : Decidable (GoodM p) := inferInstance
  obtain ⟨pk, pi, po, pm, pw, pd⟩ := p
  obtain ⟨qk, qi, qo, qm, qw, qd⟩ := q
  simp only [msV] at *
  obtain ⟨P, hP⟩ : ∃ P : Int, (pm : Int) = P := ⟨_, rfl⟩
  obtain ⟨Q, hQ⟩ : ∃ Q : Int, (qm : Int) = Q := ⟨_, rfl⟩
  rw [hP] at hby hsm hrsm hzs ⊢
  rw [hQ] at hqy hqg hp2
  have Hgl := Lib.hid hgl
  have Hpb := Lib.hid hpb
  have Hbad := Lib.hid hbad
  have Hcutl := Lib.hid hcutl
  have HqG := Lib.hid hqG
  have HqB := Lib.hid hqB
  have HP := Lib.hid hP
  have Hm := Lib.hid hm
  have Hzs := Lib.hid hzs
  clear hgl hpb hbad hcutl hqG hqB hP hQ hm hzs
  have HB := Lib.hid ((Below.refl _ _).alloc (Nat.le_refl w.heap.size) (.cells #[.int .i64 pk, .int .i64 pi, .int .i64 po, .int .u64 P, .bool pw, .slice A n c] 42))
  have HX := Lib.hid (heap_alloc_new w (.cells #[.int .i64 pk, .int .i64 pi, .int .i64 po, .int .u64 P, .bool pw, .slice A n c] 42))
  have Hb := Lib.hid (hb.bel HB.out)
  have Hb0 := Lib.hid (hb0.bel HB.out)
  obtain ⟨k0, k1, k2, k3, k4, k5⟩ := Bx.cells6 HX.out
  clear hb hb0
  go_enter Try.func9, Try.ntmps9
  go_upto_region 1 with (fail)
  generalize w.alloc (.cells #[.int .i64 pk, .int .i64 pi, .int .i64 po, .int .u64 P, .bool pw, .slice A n c] 42) = W1 at *
  by_cases hn : 300 < n ∨ 400 < n0
  · have hn' : (decide ((300 : Int) < (n : Int)) || decide ((400 : Int) < (n0 : Int))) = true := by simp; omega
    have Hn := Lib.hid hn
    clear hn
    go_wp2_with (first
      | (go_at_call 28
         (with_reducible refine (c_lives _).mono ?_)
         rintro e w1 ⟨rfl, hb1⟩
         have HB1 := Lib.hid (HB.out.trans (hb1.mono HB.out.size))
         clear hb1))
    all_goals first
      | (go_ret; exact ⟨rfl, HB1.out⟩)
      | (exfalso; have := Hn.out; omega)
  · have hnn : n ≤ 300 := by omega
    have hnn0 : n0 ≤ 400 := by omega
    clear hn
    by_cases hG : GoodM ⟨pk, pi, po, pm, pw, pd⟩
    · obtain ⟨hl0, hl2⟩ := Hgl.out hG
      have hpr := Hpb.out hG
      have hp1 := fun A n c w (h : Byt w A n c BY) (hn : n ≤ 1000) => c_Parse A n c BY w h hn
      rw [hpr] at hp1
      simp only [msV] at hp1
      rw [HP.out] at hp1
      clear hpr hG
      go_upto_region 8 with (first
        | (go_at_call 31
           (with_reducible refine (hby _ Hb.out).mono ?_)
           rintro e w2 ⟨A1, n1, c1, rfl, h1, bel1⟩
           have hn1 : 0 < n1 ∧ n1 ≤ 200 ∧ BY.length = n1 := by have := h1.blen; omega
           obtain ⟨hn1a, hn1b, hn1c⟩ := hn1
           have hn1d : decide ((200 : Int) < (n1 : Int)) = false := by simp; omega
           have H1 := Lib.hid h1
           have Lb := Lib.hid (Hb.out.bel bel1)
           have Lb0 := Lib.hid (Hb0.out.bel bel1)
           have LX := Lib.hid ((bel1.block _ (heap_lt HX.out)).trans HX.out)
           have LB := Lib.hid (HB.out.trans (bel1.mono HB.out.size))
           clear h1 bel1 hby k0 k1 k2 k3 k4 k5)
        | (go_at_call 35
           (with_reducible refine (hp1 _ _ _ _ H1.out (by omega)).mono ?_)
           rintro e w3 ⟨A3, n3, c3, rfl, h3, bel3⟩
           have H3 := Lib.hid h3
           have M1 := Lib.hid (H1.out.bel bel3)
           have Mb := Lib.hid (Lb.out.bel bel3)
           have Mb0 := Lib.hid (Lb0.out.bel bel3)
           have MX := Lib.hid ((bel3.block _ (heap_lt LX.out)).trans LX.out)
           have MB := Lib.hid (LB.out.trans (bel3.mono LB.out.size))
           clear h3 bel3 hp1)
        | (refine Bx.wpL_store_all rfl rfl 42 (.tmp 8) (.tmp 32) rfl _ rfl _ rfl _ _ (heap_alloc_new w3 _) (by kernel_rfl) rfl (one6 _ _ _ _ _ _ _ _) ?_
           intro w4 x4 g4
           have F4 : Fr (fun k => k = w3.heap.size) w3 w4 := (Fr.alloc _).trans (Fr.grown (S := fun k => k = w3.heap.size) g4 (by rintro k ⟨⟩; rfl)) (fun _ _ h => h)
           have bel4 : Below w3.heap.size w3 w4 := F4.bel (fun k e => by omega) (Nat.le_refl _)
           have NX := Lib.hid ((bel4.block _ (heap_lt MX.out)).trans MX.out)
           obtain ⟨k0, k1, k2, k3, k4, k5⟩ := Bx.cells6 NX.out
           obtain ⟨l0, l1, l2, l3, l4, l5⟩ := Bx.cells6 x4
           have H4 := Lib.hid (H3.out.bel bel4)
           have NX4 := Lib.hid x4
           have N1 := Lib.hid (M1.out.bel bel4)
           have Nb := Lib.hid (Mb.out.bel bel4)
           have Nb0 := Lib.hid (Mb0.out.bel bel4)
           have NB := Lib.hid (MB.out.trans (bel4.mono MB.out.size))
           clear x4 g4 F4 bel4)
        | (go_at_call 39
           (with_reducible refine (hsm _ _ _ _ H4.out Nb.out).mono ?_)
           rintro e w5 ⟨rfl, bel5⟩
           have H5 := Lib.hid (H4.out.bel bel5)
           have O1 := Lib.hid (N1.out.bel bel5)
           have Ob := Lib.hid (Nb.out.bel bel5)
           have Ob0 := Lib.hid (Nb0.out.bel bel5)
           have OX := Lib.hid ((bel5.block _ (heap_lt NX.out)).trans NX.out)
           have OX4 := Lib.hid ((bel5.block _ (heap_lt NX4.out)).trans NX4.out)
           have OB := Lib.hid (NB.out.trans (bel5.mono NB.out.size))
           clear k0 k1 k2 k3 k4 k5 l0 l1 l2 l3 l4 l5 bel5 hsm
           obtain ⟨k0, k1, k2, k3, k4, k5⟩ := Bx.cells6 OX.out
           obtain ⟨l0, l1, l2, l3, l4, l5⟩ := Bx.cells6 OX4.out)
        | (go_at_call 37
           (with_reducible refine (hrsm _ _ _ _ H5.out Ob.out).mono ?_)
           rintro e w6 ⟨rfl, bel6⟩
           have P1 := Lib.hid (O1.out.bel bel6)
           have Pb := Lib.hid (Ob.out.bel bel6)
           have Pb0 := Lib.hid (Ob0.out.bel bel6)
           have PX := Lib.hid ((bel6.block _ (heap_lt OX.out)).trans OX.out)
           have PB := Lib.hid (OB.out.trans (bel6.mono OB.out.size))
           clear k0 k1 k2 k3 k4 k5 l0 l1 l2 l3 l4 l5 bel6 hrsm)
        | fail)
      by_cases hyc : 0 ≤ y ∧ y < n1
      · obtain ⟨k, rfl⟩ : ∃ k : Nat, y = (k : Int) := ⟨y.toNat, by omega⟩
        have hk : k < n1 := by omega
        have hcn := Hcutl.out k (by omega)
        have hpc2 := fun w h => hpc A1 c1 k w h (by omega)
        have hzs2 := fun A n c w h => Hzs.out (parse (BY.take k)).1 A n c w h
        have hkc : k ≤ c1 := by have := P1.out.le; omega
        generalize (parse (BY.take k)).1 = z at *
        generalize (parse (BY.take k)).2 = ez at *
        obtain ⟨zk, zi, zo, zm', zw, zd⟩ := z
        simp only at *
        obtain ⟨Z, hZ⟩ : ∃ Z : Int, (zm' : Int) = Z := ⟨_, rfl⟩
        rw [hZ] at hpc2 hzs2
        clear hyc hpc hZ
        by_cases hez : ez = 0
        · subst hez
          rw [decide_eq_false (hcn rfl)] at hzs2
          clear hcn
          go_upto_region 12 with (first
            | (go_at_call 35
               (with_reducible refine (hpc2 _ (P1.out.uptoB (k := k) (by omega))).mono ?_)
               rintro e w9 ⟨A9, n9, c9, rfl, h9, bel9⟩
               have H9 := Lib.hid h9
               have Qb := Lib.hid (Pb.out.bel bel9)
               have Qb0 := Lib.hid (Pb0.out.bel bel9)
               have QX := Lib.hid ((bel9.block _ (heap_lt PX.out)).trans PX.out)
               have QB := Lib.hid (PB.out.trans (bel9.mono PB.out.size))
               clear h9 bel9 hpc2 P1 PX PB Pb0 Pb)
            | (refine Bx.wpL_store_all rfl rfl 42 (.tmp 10) (.tmp 66) rfl _ rfl _ rfl _ _ (heap_alloc_new w9 _) (by kernel_rfl) rfl (one6 _ _ _ _ _ _ _ _) ?_
               intro w10 x10 g10
               have F10 : Fr (fun k => k = w9.heap.size) w9 w10 := (Fr.alloc _).trans (Fr.grown (S := fun k => k = w9.heap.size) g10 (by rintro k ⟨⟩; rfl)) (fun _ _ h => h)
               have bel10 : Below w9.heap.size w9 w10 := F10.bel (fun k e => by omega) (Nat.le_refl _)
               have RX := (bel10.block _ (heap_lt QX.out)).trans QX.out
               obtain ⟨k0, k1, k2, k3, k4, k5⟩ := Bx.cells6 RX
               obtain ⟨l0, l1, l2, l3, l4, l5⟩ := Bx.cells6 x10
               have H10 := Lib.hid (H9.out.bel bel10)
               have Rb := Lib.hid (Qb.out.bel bel10)
               have Pb0 := Lib.hid (Qb0.out.bel bel10)
               have PB := Lib.hid (QB.out.trans (bel10.mono QB.out.size))
               clear x10 g10 F10 bel10 RX)
            | (go_at_call 39
               (with_reducible refine (hzs2 _ _ _ _ H10.out Rb.out).mono ?_)
               rintro e w11 ⟨rfl, bel11⟩
               replace Pb0 := Lib.hid (Pb0.out.bel bel11)
               replace PB := Lib.hid (PB.out.trans (bel11.mono PB.out.size))
               clear bel11 hzs2 k0 k1 k2 k3 k4 k5 l0 l1 l2 l3 l4 l5)
            | fail)
          go_upto_region 13 with (first
            | (go_at_call 35
               (with_reducible refine (hp2 _ Pb0.out (by omega)).mono ?_)
               rintro e w1 ⟨A7, n7, c7, rfl, h7, bel7⟩
               have H7 := Lib.hid h7
               have HB7 := Lib.hid (PB.out.trans (bel7.mono PB.out.size))
               have Hb7 := Lib.hid (Pb0.out.bel bel7)
               clear h7 bel7 hp2)
            | (refine Bx.wpL_store_all rfl rfl 42 (.tmp 12) (.tmp 78) rfl _ rfl _ rfl _ _ (heap_alloc_new w1 _) (by kernel_rfl) rfl (one6 _ _ _ _ _ _ _ _) ?_
               intro w8 x8 g8
               have HX8 := Lib.hid x8
               have F8 : Fr (fun k => k = w1.heap.size) w1 w8 := (Fr.alloc _).trans (Fr.grown (S := fun k => k = w1.heap.size) g8 (by rintro k ⟨⟩; rfl)) (fun _ _ h => h)
               have bel8 : Below w1.heap.size w1 w8 := F8.bel (fun k e => by omega) (Nat.le_refl _)
               have H8 := Lib.hid (H7.out.bel bel8)
               have Hb8 := Lib.hid (Hb7.out.bel bel8)
               have HB8 := Lib.hid (HB7.out.trans (bel8.mono HB7.out.size))
               clear x8 g8 F8 bel8)
            | fail)
          by_cases her : er = 0
          · subst her
            have hqB := HqB.out rfl
            have hqG := HqG.out rfl
            have hby2 := fun w (h : Byt w A7 n7 c7 qd) => hqy A7 n7 c7 w h
            rw [hqB] at hby2
            have hgd2 := fun w => hqg A7 n7 c7 w
            rw [show n7 = qd.length from H7.out.blen.symm] at hgd2
            rw [hqG] at hgd2
            rw [show qd.length = n7 from H7.out.blen] at hgd2
            clear hqB hqG
            refine wp_region_phi (by kernel_rfl) 17 none (fun _ => false) (fun i_ v wz => match i_ with
              | 0 => v = .int .i64 0
              | 1 => v = .bool false
              | 2 => v = .bool false
              | 3 => v = .agg #[.int .i64 qk, .int .i64 qi, .int .i64 qo, .int .u64 Q, .bool qw, .slice A7 n7 c7]
              | 4 => ∃ A2 n2 c2, v = .slice A2 n2 c2 ∧ Byt wz A2 n2 c2 b
              | 5 => v = .string ⟨b.toArray⟩
              | 6 => v = .slice A0 n0 c0
              | 7 => v = .string ⟨b.toArray⟩
              | 8 => v = .bool true
              | 9 => v = .bool true
              | 10 => v = .agg #[.int .i64 qk, .int .i64 qi, .int .i64 qo, .int .u64 Q, .bool qw, .slice A7 n7 c7]
              | 11 => v = .bool true
              | 12 => v = .bool true
              | 13 => v = .bool true
              | 14 => v = .bool true
              | 15 => v = .bool true
              | 16 => v = .bool true
              | _ => True) (by kernel_rfl) ?_ ?_ ?_
            · (repeat' (first | exact allLt_zero | refine allLt_succ ?_ ?_))
              · exact fun _ _ _ h _ => h
              · exact fun _ _ _ h _ => h
              · exact fun _ _ _ h _ => h
              · exact fun _ _ _ h _ => h
              · intro v w1 w2 h hg
                rw [show kindRow _ _ = none from by kernel_rfl] at hg
                obtain ⟨A2, n2, c2, rfl, hr⟩ := h
                exact ⟨A2, n2, c2, rfl, hr.bel (bel_grown hg)⟩
              · exact fun _ _ _ h _ => h
              · exact fun _ _ _ h _ => h
              · exact fun _ _ _ h _ => h
              · exact fun _ _ _ h _ => h
              · exact fun _ _ _ h _ => h
              · exact fun _ _ _ h _ => h
              · exact fun _ _ _ h _ => h
              · exact fun _ _ _ h _ => h
              · exact fun _ _ _ h _ => h
              · exact fun _ _ _ h _ => h
              · exact fun _ _ _ h _ => h
              · exact fun _ _ _ h _ => h
            · (repeat' (first | exact allLt_zero | refine allLt_succ ?_ ?_))
              · intro a w' hf he
                have k13 : a.tmps.getD 13 undef = .int .i64 0 := hf.var (by kernel_rfl) rfl
                refine wpOp_step rfl (fun K hK => ?_)
                go_simp
                exact hK _ _ ⟨_, rfl, rfl, World.grownBy.refl _ _⟩
              · intro a w' hf he
                have f0 : a.tmps.getD 80 undef = .int .i64 0 := he 0 (by kernel_rfl)
                rw [show kindRow _ _ = none from by kernel_rfl] at hf
                refine wpOp_step rfl (fun K hK => ?_)
                go_simp
                exact hK _ _ ⟨_, rfl, rfl, World.grownBy.refl _ _⟩
              · intro a w' hf he
                have f1 : a.tmps.getD 81 undef = .bool false := he 1 (by kernel_rfl)
                refine wpOp_step rfl (fun K hK => ?_)
                go_simp
                exact hK _ _ ⟨_, rfl, rfl, World.grownBy.refl _ _⟩
              · intro a w' hf he
                have k12 : a.tmps.getD 12 undef = .pointer (some ⟨w1.heap.size, 0, none⟩) := hf.var (by kernel_rfl) rfl
                have f2 : a.tmps.getD 82 undef = .bool false := he 2 (by kernel_rfl)
                rw [show kindRow _ _ = none from by kernel_rfl] at hf
                obtain ⟨q0, q1, q2, q3, q4, q5⟩ := Bx.cells6 ((hf.bel.block _ (heap_lt HX8.out)).trans HX8.out)
                refine wpOp_run rfl rfl rfl f2 (fun K hK => ?_)
                go_simp
                exact hK _ _ ⟨_, rfl, rfl, World.grownBy.refl _ _⟩
              · intro a w' hf he
                have f3 : a.tmps.getD 83 undef = .agg #[.int .i64 qk, .int .i64 qi, .int .i64 qo, .int .u64 Q, .bool qw, .slice A7 n7 c7] := he 3 (by kernel_rfl)
                have f2 : a.tmps.getD 82 undef = .bool false := he 2 (by kernel_rfl)
                rw [show kindRow _ _ = none from by kernel_rfl] at hf
                refine wpOp_run rfl rfl rfl f2 (fun K hK => ?_)
                go_simp
                (with_reducible refine (hby2 _ (H8.out.bel hf.bel)).mono ?_)
                rintro e w2 ⟨A2, n2, c2, rfl, ho2, hb2⟩
                exact hK _ _ ⟨_, rfl, ⟨_, _, _, rfl, ho2⟩, grown_bel hb2⟩
              · intro a w' hf he
                obtain ⟨A4, n4, c4, hv4, hr4⟩ := he 4 (by kernel_rfl)
                have f4 : a.tmps.getD 84 undef = _ := hv4
                have f2 : a.tmps.getD 82 undef = .bool false := he 2 (by kernel_rfl)
                rw [show kindRow _ _ = none from by kernel_rfl] at hf
                have hcv := run_str (P := Try.prog) w' 23 9 5 A4 n4 c4 b Try.underlying23 Try.underlying5 Try.underlying9 hr4
                refine wpOp_run rfl rfl rfl f2 (fun K hK => ?_)
                go_simp
                exact hK _ _ ⟨_, rfl, rfl, World.grownBy.refl _ _⟩
              · intro a w' hf he
                have k1 : a.tmps.getD 1 undef = .slice A0 n0 c0 := hf.var (by kernel_rfl) rfl
                have f2 : a.tmps.getD 82 undef = .bool false := he 2 (by kernel_rfl)
                refine wpOp_run rfl rfl rfl f2 (fun K hK => ?_)
                go_simp
                exact hK _ _ ⟨_, rfl, rfl, World.grownBy.refl _ _⟩
              · intro a w' hf he
                have f6 : a.tmps.getD 86 undef = .slice A0 n0 c0 := he 6 (by kernel_rfl)
                have f2 : a.tmps.getD 82 undef = .bool false := he 2 (by kernel_rfl)
                rw [show kindRow _ _ = none from by kernel_rfl] at hf
                have hcv := run_str (P := Try.prog) w' 23 9 5 A0 n0 c0 b Try.underlying23 Try.underlying5 Try.underlying9 (Hb8.out.bel hf.bel)
                refine wpOp_run rfl rfl rfl f2 (fun K hK => ?_)
                go_simp
                exact hK _ _ ⟨_, rfl, rfl, World.grownBy.refl _ _⟩
              · intro a w' hf he
                have f5 : a.tmps.getD 85 undef = .string ⟨b.toArray⟩ := he 5 (by kernel_rfl)
                have f7 : a.tmps.getD 87 undef = .string ⟨b.toArray⟩ := he 7 (by kernel_rfl)
                have f2 : a.tmps.getD 82 undef = .bool false := he 2 (by kernel_rfl)
                rw [show kindRow _ _ = none from by kernel_rfl] at hf
                refine wpOp_run rfl rfl rfl f2 (fun K hK => ?_)
                go_simp
                exact hK _ _ ⟨_, rfl, by simp, World.grownBy.refl _ _⟩
              · intro a w' hf he
                have f8 : a.tmps.getD 88 undef = .bool true := he 8 (by kernel_rfl)
                have f2 : a.tmps.getD 82 undef = .bool false := he 2 (by kernel_rfl)
                refine wpOp_run rfl rfl rfl f2 (fun K hK => ?_)
                go_simp
                exact hK _ _ ⟨_, rfl, rfl, World.grownBy.refl _ _⟩
              · intro a w' hf he
                have k12 : a.tmps.getD 12 undef = .pointer (some ⟨w1.heap.size, 0, none⟩) := hf.var (by kernel_rfl) rfl
                have f9 : a.tmps.getD 89 undef = .bool true := he 9 (by kernel_rfl)
                rw [show kindRow _ _ = none from by kernel_rfl] at hf
                obtain ⟨q0, q1, q2, q3, q4, q5⟩ := Bx.cells6 ((hf.bel.block _ (heap_lt HX8.out)).trans HX8.out)
                refine wpOp_run rfl rfl rfl f9 (fun K hK => ?_)
                go_simp
                exact hK _ _ ⟨_, rfl, rfl, World.grownBy.refl _ _⟩
              · intro a w' hf he
                have f10 : a.tmps.getD 90 undef = .agg #[.int .i64 qk, .int .i64 qi, .int .i64 qo, .int .u64 Q, .bool qw, .slice A7 n7 c7] := he 10 (by kernel_rfl)
                have f9 : a.tmps.getD 89 undef = .bool true := he 9 (by kernel_rfl)
                rw [show kindRow _ _ = none from by kernel_rfl] at hf
                refine wpOp_run rfl rfl rfl f9 (fun K hK => ?_)
                go_simp
                (with_reducible refine (hgd2 _).mono ?_)
                rintro e w2 ⟨rfl, hb2⟩
                exact hK _ _ ⟨_, rfl, rfl, grown_bel hb2⟩
              · intro a w' hf he
                have f9 : a.tmps.getD 89 undef = .bool true := he 9 (by kernel_rfl)
                have f11 : a.tmps.getD 91 undef = .bool true := he 11 (by kernel_rfl)
                have f2 : a.tmps.getD 82 undef = .bool false := he 2 (by kernel_rfl)
                refine wpOp_run rfl rfl rfl f2 (fun K hK => ?_)
                go_simp
                exact hK _ _ ⟨_, rfl, rfl, World.grownBy.refl _ _⟩
              · intro a w' hf he
                have f2 : a.tmps.getD 82 undef = .bool false := he 2 (by kernel_rfl)
                have f12 : a.tmps.getD 92 undef = .bool true := he 12 (by kernel_rfl)
                refine wpOp_step rfl (fun K hK => ?_)
                go_simp
                exact hK _ _ ⟨_, rfl, rfl, World.grownBy.refl _ _⟩
              · intro a w' hf he
                have f13 : a.tmps.getD 93 undef = .bool true := he 13 (by kernel_rfl)
                refine wpOp_step rfl (fun K hK => ?_)
                go_simp
                exact hK _ _ ⟨_, rfl, rfl, World.grownBy.refl _ _⟩
              · intro a w' hf he
                have f14 : a.tmps.getD 94 undef = .bool true := he 14 (by kernel_rfl)
                rw [show kindRow _ _ = none from by kernel_rfl] at hf
                refine wpOp_run rfl rfl rfl f14 (fun K hK => ?_)
                go_simp
                refine (c_lives _).mono ?_
                rintro e w2 ⟨rfl, hb2⟩
                exact hK _ _ ⟨_, rfl, rfl, grown_bel hb2⟩
              · intro a w' hf he
                have f14 : a.tmps.getD 94 undef = .bool true := he 14 (by kernel_rfl)
                have f15 : a.tmps.getD 95 undef = .bool true := he 15 (by kernel_rfl)
                refine wpOp_step rfl (fun K hK => ?_)
                go_simp
                exact hK _ _ ⟨_, rfl, rfl, World.grownBy.refl _ _⟩
            · intro a w' hf he
              obtain ⟨u80, f0⟩ : ∃ u, a.tmps.getD 80 undef = u := ⟨_, rfl⟩
              obtain ⟨u81, f1⟩ : ∃ u, a.tmps.getD 81 undef = u := ⟨_, rfl⟩
              obtain ⟨u82, f2⟩ : ∃ u, a.tmps.getD 82 undef = u := ⟨_, rfl⟩
              obtain ⟨u83, f3⟩ : ∃ u, a.tmps.getD 83 undef = u := ⟨_, rfl⟩
              obtain ⟨u84, f4⟩ : ∃ u, a.tmps.getD 84 undef = u := ⟨_, rfl⟩
              obtain ⟨u85, f5⟩ : ∃ u, a.tmps.getD 85 undef = u := ⟨_, rfl⟩
              obtain ⟨u86, f6⟩ : ∃ u, a.tmps.getD 86 undef = u := ⟨_, rfl⟩
              obtain ⟨u87, f7⟩ : ∃ u, a.tmps.getD 87 undef = u := ⟨_, rfl⟩
              obtain ⟨u88, f8⟩ : ∃ u, a.tmps.getD 88 undef = u := ⟨_, rfl⟩
              obtain ⟨u89, f9⟩ : ∃ u, a.tmps.getD 89 undef = u := ⟨_, rfl⟩
              obtain ⟨u90, f10⟩ : ∃ u, a.tmps.getD 90 undef = u := ⟨_, rfl⟩
              obtain ⟨u91, f11⟩ : ∃ u, a.tmps.getD 91 undef = u := ⟨_, rfl⟩
              obtain ⟨u92, f12⟩ : ∃ u, a.tmps.getD 92 undef = u := ⟨_, rfl⟩
              obtain ⟨u93, f13⟩ : ∃ u, a.tmps.getD 93 undef = u := ⟨_, rfl⟩
              obtain ⟨u94, f14⟩ : ∃ u, a.tmps.getD 94 undef = u := ⟨_, rfl⟩
              obtain ⟨u95, f15⟩ : ∃ u, a.tmps.getD 95 undef = u := ⟨_, rfl⟩
              have f16 : a.tmps.getD 96 undef = .bool true := he 16 (by decide)
              have hlit := hf.lit ((80, u80) :: (81, u81) :: (82, u82) :: (83, u83) :: (84, u84) :: (85, u85) :: (86, u86) :: (87, u87) :: (88, u88) :: (89, u89) :: (90, u90) :: (91, u91) :: (92, u92) :: (93, u93) :: (94, u94) :: (95, u95) :: (96, .bool true) :: []) (by kernel_rfl) ⟨f0, f1, f2, f3, f4, f5, f6, f7, f8, f9, f10, f11, f12, f13, f14, f15, f16, trivial⟩
              have hB := hf.bel
              clear he hf f0 f1 f2 f3 f4 f5 f6 f7 f8 f9 f10 f11 f12 f13 f14 f15 f16 
              subst hlit
              simp only [putAll_nil, putAll_cons, Act.put, List.setIfInBounds_toArray, List.set_cons_zero, List.set_cons_succ]
              simp only [List.drop_succ_cons, List.drop_zero]
              go_wp2_with fail
              go_ret
              exact ⟨rfl, HB8.out.trans (hB.mono HB8.out.size)⟩
          · have hne : ((er : Int) != 0) = true := by simp; omega
            refine wp_region_phi (by kernel_rfl) 17 none (fun _ => false) (fun i_ v wz => match i_ with
              | 0 => v = .int .i64 (er : Int)
              | 1 => v = .bool true
              | 2 => v = .bool true
              | 3 => v = undef
              | 4 => v = undef
              | 5 => v = undef
              | 6 => v = undef
              | 7 => v = undef
              | 8 => v = undef
              | 9 => v = undef
              | 10 => v = undef
              | 11 => v = undef
              | 12 => v = undef
              | 13 => v = .bool true
              | 14 => v = .bool true
              | 15 => v = .bool true
              | 16 => v = .bool true
              | _ => True) (by kernel_rfl) ?_ ?_ ?_
            · (repeat' (first | exact allLt_zero | refine allLt_succ ?_ ?_))
              · exact fun _ _ _ h _ => h
              · exact fun _ _ _ h _ => h
              · exact fun _ _ _ h _ => h
              · exact fun _ _ _ h _ => h
              · exact fun _ _ _ h _ => h
              · exact fun _ _ _ h _ => h
              · exact fun _ _ _ h _ => h
              · exact fun _ _ _ h _ => h
              · exact fun _ _ _ h _ => h
              · exact fun _ _ _ h _ => h
              · exact fun _ _ _ h _ => h
              · exact fun _ _ _ h _ => h
              · exact fun _ _ _ h _ => h
              · exact fun _ _ _ h _ => h
              · exact fun _ _ _ h _ => h
              · exact fun _ _ _ h _ => h
              · exact fun _ _ _ h _ => h
            · (repeat' (first | exact allLt_zero | refine allLt_succ ?_ ?_))
              · intro a w' hf he
                have k13 : a.tmps.getD 13 undef = .int .i64 (er : Int) := hf.var (by kernel_rfl) rfl
                refine wpOp_step rfl (fun K hK => ?_)
                go_simp
                exact hK _ _ ⟨_, rfl, rfl, World.grownBy.refl _ _⟩
              · intro a w' hf he
                have f0 : a.tmps.getD 80 undef = .int .i64 (er : Int) := he 0 (by kernel_rfl)
                rw [show kindRow _ _ = none from by kernel_rfl] at hf
                refine wpOp_step rfl (fun K hK => ?_)
                go_simp
                (try rw [hne])
                exact hK _ _ ⟨_, rfl, rfl, World.grownBy.refl _ _⟩
              · intro a w' hf he
                have f1 : a.tmps.getD 81 undef = .bool true := he 1 (by kernel_rfl)
                refine wpOp_step rfl (fun K hK => ?_)
                go_simp
                exact hK _ _ ⟨_, rfl, rfl, World.grownBy.refl _ _⟩
              · intro a w' hf he
                have f2 : a.tmps.getD 82 undef = .bool true := he 2 (by kernel_rfl)
                exact wpOp_pass rfl rfl rfl f2 rfl ⟨_, rfl, rfl, World.grownBy.refl _ _⟩
              · intro a w' hf he
                have f2 : a.tmps.getD 82 undef = .bool true := he 2 (by kernel_rfl)
                exact wpOp_pass rfl rfl rfl f2 rfl ⟨_, rfl, rfl, World.grownBy.refl _ _⟩
              · intro a w' hf he
                have f2 : a.tmps.getD 82 undef = .bool true := he 2 (by kernel_rfl)
                exact wpOp_pass rfl rfl rfl f2 rfl ⟨_, rfl, rfl, World.grownBy.refl _ _⟩
              · intro a w' hf he
                have f2 : a.tmps.getD 82 undef = .bool true := he 2 (by kernel_rfl)
                exact wpOp_pass rfl rfl rfl f2 rfl ⟨_, rfl, rfl, World.grownBy.refl _ _⟩
              · intro a w' hf he
                have f2 : a.tmps.getD 82 undef = .bool true := he 2 (by kernel_rfl)
                exact wpOp_pass rfl rfl rfl f2 rfl ⟨_, rfl, rfl, World.grownBy.refl _ _⟩
              · intro a w' hf he
                have f2 : a.tmps.getD 82 undef = .bool true := he 2 (by kernel_rfl)
                exact wpOp_pass rfl rfl rfl f2 rfl ⟨_, rfl, rfl, World.grownBy.refl _ _⟩
              · intro a w' hf he
                have f2 : a.tmps.getD 82 undef = .bool true := he 2 (by kernel_rfl)
                exact wpOp_pass rfl rfl rfl f2 rfl ⟨_, rfl, rfl, World.grownBy.refl _ _⟩
              · intro a w' hf he
                have f9 : a.tmps.getD 89 undef = undef := he 9 (by kernel_rfl)
                exact wpOp_pass2 rfl rfl rfl f9 ⟨_, rfl, rfl, World.grownBy.refl _ _⟩
              · intro a w' hf he
                have f9 : a.tmps.getD 89 undef = undef := he 9 (by kernel_rfl)
                exact wpOp_pass2 rfl rfl rfl f9 ⟨_, rfl, rfl, World.grownBy.refl _ _⟩
              · intro a w' hf he
                have f2 : a.tmps.getD 82 undef = .bool true := he 2 (by kernel_rfl)
                exact wpOp_pass rfl rfl rfl f2 rfl ⟨_, rfl, rfl, World.grownBy.refl _ _⟩
              · intro a w' hf he
                have f2 : a.tmps.getD 82 undef = .bool true := he 2 (by kernel_rfl)
                have f12 : a.tmps.getD 92 undef = undef := he 12 (by kernel_rfl)
                refine wpOp_step rfl (fun K hK => ?_)
                go_simp
                exact hK _ _ ⟨_, rfl, rfl, World.grownBy.refl _ _⟩
              · intro a w' hf he
                have f13 : a.tmps.getD 93 undef = .bool true := he 13 (by kernel_rfl)
                refine wpOp_step rfl (fun K hK => ?_)
                go_simp
                exact hK _ _ ⟨_, rfl, rfl, World.grownBy.refl _ _⟩
              · intro a w' hf he
                have f14 : a.tmps.getD 94 undef = .bool true := he 14 (by kernel_rfl)
                rw [show kindRow _ _ = none from by kernel_rfl] at hf
                refine wpOp_run rfl rfl rfl f14 (fun K hK => ?_)
                go_simp
                refine (c_lives _).mono ?_
                rintro e w2 ⟨rfl, hb2⟩
                exact hK _ _ ⟨_, rfl, rfl, grown_bel hb2⟩
              · intro a w' hf he
                have f14 : a.tmps.getD 94 undef = .bool true := he 14 (by kernel_rfl)
                have f15 : a.tmps.getD 95 undef = .bool true := he 15 (by kernel_rfl)
                refine wpOp_step rfl (fun K hK => ?_)
                go_simp
                exact hK _ _ ⟨_, rfl, rfl, World.grownBy.refl _ _⟩
            · intro a w' hf he
              obtain ⟨u80, f0⟩ : ∃ u, a.tmps.getD 80 undef = u := ⟨_, rfl⟩
              obtain ⟨u81, f1⟩ : ∃ u, a.tmps.getD 81 undef = u := ⟨_, rfl⟩
              obtain ⟨u82, f2⟩ : ∃ u, a.tmps.getD 82 undef = u := ⟨_, rfl⟩
              obtain ⟨u83, f3⟩ : ∃ u, a.tmps.getD 83 undef = u := ⟨_, rfl⟩
              obtain ⟨u84, f4⟩ : ∃ u, a.tmps.getD 84 undef = u := ⟨_, rfl⟩
              obtain ⟨u85, f5⟩ : ∃ u, a.tmps.getD 85 undef = u := ⟨_, rfl⟩
              obtain ⟨u86, f6⟩ : ∃ u, a.tmps.getD 86 undef = u := ⟨_, rfl⟩
              obtain ⟨u87, f7⟩ : ∃ u, a.tmps.getD 87 undef = u := ⟨_, rfl⟩
              obtain ⟨u88, f8⟩ : ∃ u, a.tmps.getD 88 undef = u := ⟨_, rfl⟩
              obtain ⟨u89, f9⟩ : ∃ u, a.tmps.getD 89 undef = u := ⟨_, rfl⟩
              obtain ⟨u90, f10⟩ : ∃ u, a.tmps.getD 90 undef = u := ⟨_, rfl⟩
              obtain ⟨u91, f11⟩ : ∃ u, a.tmps.getD 91 undef = u := ⟨_, rfl⟩
              obtain ⟨u92, f12⟩ : ∃ u, a.tmps.getD 92 undef = u := ⟨_, rfl⟩
              obtain ⟨u93, f13⟩ : ∃ u, a.tmps.getD 93 undef = u := ⟨_, rfl⟩
              obtain ⟨u94, f14⟩ : ∃ u, a.tmps.getD 94 undef = u := ⟨_, rfl⟩
              obtain ⟨u95, f15⟩ : ∃ u, a.tmps.getD 95 undef = u := ⟨_, rfl⟩
              have f16 : a.tmps.getD 96 undef = .bool true := he 16 (by decide)
              have hlit := hf.lit ((80, u80) :: (81, u81) :: (82, u82) :: (83, u83) :: (84, u84) :: (85, u85) :: (86, u86) :: (87, u87) :: (88, u88) :: (89, u89) :: (90, u90) :: (91, u91) :: (92, u92) :: (93, u93) :: (94, u94) :: (95, u95) :: (96, .bool true) :: []) (by kernel_rfl) ⟨f0, f1, f2, f3, f4, f5, f6, f7, f8, f9, f10, f11, f12, f13, f14, f15, f16, trivial⟩
              have hB := hf.bel
              clear he hf f0 f1 f2 f3 f4 f5 f6 f7 f8 f9 f10 f11 f12 f13 f14 f15 f16 
              subst hlit
              simp only [putAll_nil, putAll_cons, Act.put, List.setIfInBounds_toArray, List.set_cons_zero, List.set_cons_succ]
              simp only [List.drop_succ_cons, List.drop_zero]
              go_wp2_with fail
              go_ret
              exact ⟨rfl, HB8.out.trans (hB.mono HB8.out.size)⟩
        · have hze : ((ez : Int) == 0) = false := by simp; omega
          clear hcn hzs2 hez
          go_upto_region 12 with (first
            | (go_at_call 35
               (with_reducible refine (hpc2 _ (P1.out.uptoB (k := k) (by omega))).mono ?_)
               rintro e w9 ⟨A9, n9, c9, rfl, h9, bel9⟩
               have H9 := Lib.hid h9
               have Qb := Lib.hid (Pb.out.bel bel9)
               have Qb0 := Lib.hid (Pb0.out.bel bel9)
               have QX := Lib.hid ((bel9.block _ (heap_lt PX.out)).trans PX.out)
               have QB := Lib.hid (PB.out.trans (bel9.mono PB.out.size))
               clear h9 bel9 hpc2 P1 PX PB Pb0 Pb)
            | (refine Bx.wpL_store_all rfl rfl 42 (.tmp 10) (.tmp 66) rfl _ rfl _ rfl _ _ (heap_alloc_new w9 _) (by kernel_rfl) rfl (one6 _ _ _ _ _ _ _ _) ?_
               intro w10 x10 g10
               have F10 : Fr (fun k => k = w9.heap.size) w9 w10 := (Fr.alloc _).trans (Fr.grown (S := fun k => k = w9.heap.size) g10 (by rintro k ⟨⟩; rfl)) (fun _ _ h => h)
               have bel10 : Below w9.heap.size w9 w10 := F10.bel (fun k e => by omega) (Nat.le_refl _)
               have RX := (bel10.block _ (heap_lt QX.out)).trans QX.out
               obtain ⟨k0, k1, k2, k3, k4, k5⟩ := Bx.cells6 RX
               obtain ⟨l0, l1, l2, l3, l4, l5⟩ := Bx.cells6 x10
               have H10 := Lib.hid (H9.out.bel bel10)
               have Rb := Lib.hid (Qb.out.bel bel10)
               have Pb0 := Lib.hid (Qb0.out.bel bel10)
               have PB := Lib.hid (QB.out.trans (bel10.mono QB.out.size))
               clear x10 g10 F10 bel10 RX)
            | (go_at_call 39
               (with_reducible refine (hzs2 _ _ _ _ H10.out Rb.out).mono ?_)
               rintro e w11 ⟨rfl, bel11⟩
               replace Pb0 := Lib.hid (Pb0.out.bel bel11)
               replace PB := Lib.hid (PB.out.trans (bel11.mono PB.out.size))
               clear bel11 hzs2 k0 k1 k2 k3 k4 k5 l0 l1 l2 l3 l4 l5)
            | fail)
          go_upto_region 13 with (first
            | (go_at_call 35
               (with_reducible refine (hp2 _ Pb0.out (by omega)).mono ?_)
               rintro e w1 ⟨A7, n7, c7, rfl, h7, bel7⟩
               have H7 := Lib.hid h7
               have HB7 := Lib.hid (PB.out.trans (bel7.mono PB.out.size))
               have Hb7 := Lib.hid (Pb0.out.bel bel7)
               clear h7 bel7 hp2)
            | (refine Bx.wpL_store_all rfl rfl 42 (.tmp 12) (.tmp 78) rfl _ rfl _ rfl _ _ (heap_alloc_new w1 _) (by kernel_rfl) rfl (one6 _ _ _ _ _ _ _ _) ?_
               intro w8 x8 g8
               have HX8 := Lib.hid x8
               have F8 : Fr (fun k => k = w1.heap.size) w1 w8 := (Fr.alloc _).trans (Fr.grown (S := fun k => k = w1.heap.size) g8 (by rintro k ⟨⟩; rfl)) (fun _ _ h => h)
               have bel8 : Below w1.heap.size w1 w8 := F8.bel (fun k e => by omega) (Nat.le_refl _)
               have H8 := Lib.hid (H7.out.bel bel8)
               have Hb8 := Lib.hid (Hb7.out.bel bel8)
               have HB8 := Lib.hid (HB7.out.trans (bel8.mono HB7.out.size))
               clear x8 g8 F8 bel8)
            | fail)
          by_cases her : er = 0
          · subst her
            have hqB := HqB.out rfl
            have hqG := HqG.out rfl
            have hby2 := fun w (h : Byt w A7 n7 c7 qd) => hqy A7 n7 c7 w h
            rw [hqB] at hby2
            have hgd2 := fun w => hqg A7 n7 c7 w
            rw [show n7 = qd.length from H7.out.blen.symm] at hgd2
            rw [hqG] at hgd2
            rw [show qd.length = n7 from H7.out.blen] at hgd2
            clear hqB hqG
            refine wp_region_phi (by kernel_rfl) 17 none (fun _ => false) (fun i_ v wz => match i_ with
              | 0 => v = .int .i64 0
              | 1 => v = .bool false
              | 2 => v = .bool false
              | 3 => v = .agg #[.int .i64 qk, .int .i64 qi, .int .i64 qo, .int .u64 Q, .bool qw, .slice A7 n7 c7]
              | 4 => ∃ A2 n2 c2, v = .slice A2 n2 c2 ∧ Byt wz A2 n2 c2 b
              | 5 => v = .string ⟨b.toArray⟩
              | 6 => v = .slice A0 n0 c0
              | 7 => v = .string ⟨b.toArray⟩
              | 8 => v = .bool true
              | 9 => v = .bool true
              | 10 => v = .agg #[.int .i64 qk, .int .i64 qi, .int .i64 qo, .int .u64 Q, .bool qw, .slice A7 n7 c7]
              | 11 => v = .bool true
              | 12 => v = .bool true
              | 13 => v = .bool true
              | 14 => v = .bool true
              | 15 => v = .bool true
              | 16 => v = .bool true
              | _ => True) (by kernel_rfl) ?_ ?_ ?_
            · (repeat' (first | exact allLt_zero | refine allLt_succ ?_ ?_))
              · exact fun _ _ _ h _ => h
              · exact fun _ _ _ h _ => h
              · exact fun _ _ _ h _ => h
              · exact fun _ _ _ h _ => h
              · intro v w1 w2 h hg
                rw [show kindRow _ _ = none from by kernel_rfl] at hg
                obtain ⟨A2, n2, c2, rfl, hr⟩ := h
                exact ⟨A2, n2, c2, rfl, hr.bel (bel_grown hg)⟩
              · exact fun _ _ _ h _ => h
              · exact fun _ _ _ h _ => h
              · exact fun _ _ _ h _ => h
              · exact fun _ _ _ h _ => h
              · exact fun _ _ _ h _ => h
              · exact fun _ _ _ h _ => h
              · exact fun _ _ _ h _ => h
              · exact fun _ _ _ h _ => h
              · exact fun _ _ _ h _ => h
              · exact fun _ _ _ h _ => h
              · exact fun _ _ _ h _ => h
              · exact fun _ _ _ h _ => h
            · (repeat' (first | exact allLt_zero | refine allLt_succ ?_ ?_))
              · intro a w' hf he
                have k13 : a.tmps.getD 13 undef = .int .i64 0 := hf.var (by kernel_rfl) rfl
                refine wpOp_step rfl (fun K hK => ?_)
                go_simp
                exact hK _ _ ⟨_, rfl, rfl, World.grownBy.refl _ _⟩
              · intro a w' hf he
                have f0 : a.tmps.getD 80 undef = .int .i64 0 := he 0 (by kernel_rfl)
                rw [show kindRow _ _ = none from by kernel_rfl] at hf
                refine wpOp_step rfl (fun K hK => ?_)
                go_simp
                exact hK _ _ ⟨_, rfl, rfl, World.grownBy.refl _ _⟩
              · intro a w' hf he
                have f1 : a.tmps.getD 81 undef = .bool false := he 1 (by kernel_rfl)
                refine wpOp_step rfl (fun K hK => ?_)
                go_simp
                exact hK _ _ ⟨_, rfl, rfl, World.grownBy.refl _ _⟩
              · intro a w' hf he
                have k12 : a.tmps.getD 12 undef = .pointer (some ⟨w1.heap.size, 0, none⟩) := hf.var (by kernel_rfl) rfl
                have f2 : a.tmps.getD 82 undef = .bool false := he 2 (by kernel_rfl)
                rw [show kindRow _ _ = none from by kernel_rfl] at hf
                obtain ⟨q0, q1, q2, q3, q4, q5⟩ := Bx.cells6 ((hf.bel.block _ (heap_lt HX8.out)).trans HX8.out)
                refine wpOp_run rfl rfl rfl f2 (fun K hK => ?_)
                go_simp
                exact hK _ _ ⟨_, rfl, rfl, World.grownBy.refl _ _⟩
              · intro a w' hf he
                have f3 : a.tmps.getD 83 undef = .agg #[.int .i64 qk, .int .i64 qi, .int .i64 qo, .int .u64 Q, .bool qw, .slice A7 n7 c7] := he 3 (by kernel_rfl)
                have f2 : a.tmps.getD 82 undef = .bool false := he 2 (by kernel_rfl)
                rw [show kindRow _ _ = none from by kernel_rfl] at hf
                refine wpOp_run rfl rfl rfl f2 (fun K hK => ?_)
                go_simp
                (with_reducible refine (hby2 _ (H8.out.bel hf.bel)).mono ?_)
                rintro e w2 ⟨A2, n2, c2, rfl, ho2, hb2⟩
                exact hK _ _ ⟨_, rfl, ⟨_, _, _, rfl, ho2⟩, grown_bel hb2⟩
              · intro a w' hf he
                obtain ⟨A4, n4, c4, hv4, hr4⟩ := he 4 (by kernel_rfl)
                have f4 : a.tmps.getD 84 undef = _ := hv4
                have f2 : a.tmps.getD 82 undef = .bool false := he 2 (by kernel_rfl)
                rw [show kindRow _ _ = none from by kernel_rfl] at hf
                have hcv := run_str (P := Try.prog) w' 23 9 5 A4 n4 c4 b Try.underlying23 Try.underlying5 Try.underlying9 hr4
                refine wpOp_run rfl rfl rfl f2 (fun K hK => ?_)
                go_simp
                exact hK _ _ ⟨_, rfl, rfl, World.grownBy.refl _ _⟩
              · intro a w' hf he
                have k1 : a.tmps.getD 1 undef = .slice A0 n0 c0 := hf.var (by kernel_rfl) rfl
                have f2 : a.tmps.getD 82 undef = .bool false := he 2 (by kernel_rfl)
                refine wpOp_run rfl rfl rfl f2 (fun K hK => ?_)
                go_simp
                exact hK _ _ ⟨_, rfl, rfl, World.grownBy.refl _ _⟩
              · intro a w' hf he
                have f6 : a.tmps.getD 86 undef = .slice A0 n0 c0 := he 6 (by kernel_rfl)
                have f2 : a.tmps.getD 82 undef = .bool false := he 2 (by kernel_rfl)
                rw [show kindRow _ _ = none from by kernel_rfl] at hf
                have hcv := run_str (P := Try.prog) w' 23 9 5 A0 n0 c0 b Try.underlying23 Try.underlying5 Try.underlying9 (Hb8.out.bel hf.bel)
                refine wpOp_run rfl rfl rfl f2 (fun K hK => ?_)
                go_simp
                exact hK _ _ ⟨_, rfl, rfl, World.grownBy.refl _ _⟩
              · intro a w' hf he
                have f5 : a.tmps.getD 85 undef = .string ⟨b.toArray⟩ := he 5 (by kernel_rfl)
                have f7 : a.tmps.getD 87 undef = .string ⟨b.toArray⟩ := he 7 (by kernel_rfl)
                have f2 : a.tmps.getD 82 undef = .bool false := he 2 (by kernel_rfl)
                rw [show kindRow _ _ = none from by kernel_rfl] at hf
                refine wpOp_run rfl rfl rfl f2 (fun K hK => ?_)
                go_simp
                exact hK _ _ ⟨_, rfl, by simp, World.grownBy.refl _ _⟩
              · intro a w' hf he
                have f8 : a.tmps.getD 88 undef = .bool true := he 8 (by kernel_rfl)
                have f2 : a.tmps.getD 82 undef = .bool false := he 2 (by kernel_rfl)
                refine wpOp_run rfl rfl rfl f2 (fun K hK => ?_)
                go_simp
                exact hK _ _ ⟨_, rfl, rfl, World.grownBy.refl _ _⟩
              · intro a w' hf he
                have k12 : a.tmps.getD 12 undef = .pointer (some ⟨w1.heap.size, 0, none⟩) := hf.var (by kernel_rfl) rfl
                have f9 : a.tmps.getD 89 undef = .bool true := he 9 (by kernel_rfl)
                rw [show kindRow _ _ = none from by kernel_rfl] at hf
                obtain ⟨q0, q1, q2, q3, q4, q5⟩ := Bx.cells6 ((hf.bel.block _ (heap_lt HX8.out)).trans HX8.out)
                refine wpOp_run rfl rfl rfl f9 (fun K hK => ?_)
                go_simp
                exact hK _ _ ⟨_, rfl, rfl, World.grownBy.refl _ _⟩
              · intro a w' hf he
                have f10 : a.tmps.getD 90 undef = .agg #[.int .i64 qk, .int .i64 qi, .int .i64 qo, .int .u64 Q, .bool qw, .slice A7 n7 c7] := he 10 (by kernel_rfl)
                have f9 : a.tmps.getD 89 undef = .bool true := he 9 (by kernel_rfl)
                rw [show kindRow _ _ = none from by kernel_rfl] at hf
                refine wpOp_run rfl rfl rfl f9 (fun K hK => ?_)
                go_simp
                (with_reducible refine (hgd2 _).mono ?_)
                rintro e w2 ⟨rfl, hb2⟩
                exact hK _ _ ⟨_, rfl, rfl, grown_bel hb2⟩
              · intro a w' hf he
                have f9 : a.tmps.getD 89 undef = .bool true := he 9 (by kernel_rfl)
                have f11 : a.tmps.getD 91 undef = .bool true := he 11 (by kernel_rfl)
                have f2 : a.tmps.getD 82 undef = .bool false := he 2 (by kernel_rfl)
                refine wpOp_run rfl rfl rfl f2 (fun K hK => ?_)
                go_simp
                exact hK _ _ ⟨_, rfl, rfl, World.grownBy.refl _ _⟩
              · intro a w' hf he
                have f2 : a.tmps.getD 82 undef = .bool false := he 2 (by kernel_rfl)
                have f12 : a.tmps.getD 92 undef = .bool true := he 12 (by kernel_rfl)
                refine wpOp_step rfl (fun K hK => ?_)
                go_simp
                exact hK _ _ ⟨_, rfl, rfl, World.grownBy.refl _ _⟩
              · intro a w' hf he
                have f13 : a.tmps.getD 93 undef = .bool true := he 13 (by kernel_rfl)
                refine wpOp_step rfl (fun K hK => ?_)
                go_simp
                exact hK _ _ ⟨_, rfl, rfl, World.grownBy.refl _ _⟩
              · intro a w' hf he
                have f14 : a.tmps.getD 94 undef = .bool true := he 14 (by kernel_rfl)
                rw [show kindRow _ _ = none from by kernel_rfl] at hf
                refine wpOp_run rfl rfl rfl f14 (fun K hK => ?_)
                go_simp
                refine (c_lives _).mono ?_
                rintro e w2 ⟨rfl, hb2⟩
                exact hK _ _ ⟨_, rfl, rfl, grown_bel hb2⟩
              · intro a w' hf he
                have f14 : a.tmps.getD 94 undef = .bool true := he 14 (by kernel_rfl)
                have f15 : a.tmps.getD 95 undef = .bool true := he 15 (by kernel_rfl)
                refine wpOp_step rfl (fun K hK => ?_)
                go_simp
                exact hK _ _ ⟨_, rfl, rfl, World.grownBy.refl _ _⟩
            · intro a w' hf he
              obtain ⟨u80, f0⟩ : ∃ u, a.tmps.getD 80 undef = u := ⟨_, rfl⟩
              obtain ⟨u81, f1⟩ : ∃ u, a.tmps.getD 81 undef = u := ⟨_, rfl⟩
              obtain ⟨u82, f2⟩ : ∃ u, a.tmps.getD 82 undef = u := ⟨_, rfl⟩
              obtain ⟨u83, f3⟩ : ∃ u, a.tmps.getD 83 undef = u := ⟨_, rfl⟩
              obtain ⟨u84, f4⟩ : ∃ u, a.tmps.getD 84 undef = u := ⟨_, rfl⟩
              obtain ⟨u85, f5⟩ : ∃ u, a.tmps.getD 85 undef = u := ⟨_, rfl⟩
              obtain ⟨u86, f6⟩ : ∃ u, a.tmps.getD 86 undef = u := ⟨_, rfl⟩
              obtain ⟨u87, f7⟩ : ∃ u, a.tmps.getD 87 undef = u := ⟨_, rfl⟩
              obtain ⟨u88, f8⟩ : ∃ u, a.tmps.getD 88 undef = u := ⟨_, rfl⟩
              obtain ⟨u89, f9⟩ : ∃ u, a.tmps.getD 89 undef = u := ⟨_, rfl⟩
              obtain ⟨u90, f10⟩ : ∃ u, a.tmps.getD 90 undef = u := ⟨_, rfl⟩
              obtain ⟨u91, f11⟩ : ∃ u, a.tmps.getD 91 undef = u := ⟨_, rfl⟩
              obtain ⟨u92, f12⟩ : ∃ u, a.tmps.getD 92 undef = u := ⟨_, rfl⟩
              obtain ⟨u93, f13⟩ : ∃ u, a.tmps.getD 93 undef = u := ⟨_, rfl⟩
              obtain ⟨u94, f14⟩ : ∃ u, a.tmps.getD 94 undef = u := ⟨_, rfl⟩
              obtain ⟨u95, f15⟩ : ∃ u, a.tmps.getD 95 undef = u := ⟨_, rfl⟩
              have f16 : a.tmps.getD 96 undef = .bool true := he 16 (by decide)
              have hlit := hf.lit ((80, u80) :: (81, u81) :: (82, u82) :: (83, u83) :: (84, u84) :: (85, u85) :: (86, u86) :: (87, u87) :: (88, u88) :: (89, u89) :: (90, u90) :: (91, u91) :: (92, u92) :: (93, u93) :: (94, u94) :: (95, u95) :: (96, .bool true) :: []) (by kernel_rfl) ⟨f0, f1, f2, f3, f4, f5, f6, f7, f8, f9, f10, f11, f12, f13, f14, f15, f16, trivial⟩
              have hB := hf.bel
              clear he hf f0 f1 f2 f3 f4 f5 f6 f7 f8 f9 f10 f11 f12 f13 f14 f15 f16 
              subst hlit
              simp only [putAll_nil, putAll_cons, Act.put, List.setIfInBounds_toArray, List.set_cons_zero, List.set_cons_succ]
              simp only [List.drop_succ_cons, List.drop_zero]
              go_wp2_with fail
              go_ret
              exact ⟨rfl, HB8.out.trans (hB.mono HB8.out.size)⟩
          · have hne : ((er : Int) != 0) = true := by simp; omega
            refine wp_region_phi (by kernel_rfl) 17 none (fun _ => false) (fun i_ v wz => match i_ with
              | 0 => v = .int .i64 (er : Int)
              | 1 => v = .bool true
              | 2 => v = .bool true
              | 3 => v = undef
              | 4 => v = undef
              | 5 => v = undef
              | 6 => v = undef
              | 7 => v = undef
              | 8 => v = undef
              | 9 => v = undef
              | 10 => v = undef
              | 11 => v = undef
              | 12 => v = undef
              | 13 => v = .bool true
              | 14 => v = .bool true
              | 15 => v = .bool true
              | 16 => v = .bool true
              | _ => True) (by kernel_rfl) ?_ ?_ ?_
            · (repeat' (first | exact allLt_zero | refine allLt_succ ?_ ?_))
              · exact fun _ _ _ h _ => h
              · exact fun _ _ _ h _ => h
              · exact fun _ _ _ h _ => h
              · exact fun _ _ _ h _ => h
              · exact fun _ _ _ h _ => h
              · exact fun _ _ _ h _ => h
              · exact fun _ _ _ h _ => h
              · exact fun _ _ _ h _ => h
              · exact fun _ _ _ h _ => h
              · exact fun _ _ _ h _ => h
              · exact fun _ _ _ h _ => h
              · exact fun _ _ _ h _ => h
              · exact fun _ _ _ h _ => h
              · exact fun _ _ _ h _ => h
              · exact fun _ _ _ h _ => h
              · exact fun _ _ _ h _ => h
              · exact fun _ _ _ h _ => h
            · (repeat' (first | exact allLt_zero | refine allLt_succ ?_ ?_))
              · intro a w' hf he
                have k13 : a.tmps.getD 13 undef = .int .i64 (er : Int) := hf.var (by kernel_rfl) rfl
                refine wpOp_step rfl (fun K hK => ?_)
                go_simp
                exact hK _ _ ⟨_, rfl, rfl, World.grownBy.refl _ _⟩
              · intro a w' hf he
                have f0 : a.tmps.getD 80 undef = .int .i64 (er : Int) := he 0 (by kernel_rfl)
                rw [show kindRow _ _ = none from by kernel_rfl] at hf
                refine wpOp_step rfl (fun K hK => ?_)
                go_simp
                (try rw [hne])
                exact hK _ _ ⟨_, rfl, rfl, World.grownBy.refl _ _⟩
              · intro a w' hf he
                have f1 : a.tmps.getD 81 undef = .bool true := he 1 (by kernel_rfl)
                refine wpOp_step rfl (fun K hK => ?_)
                go_simp
                exact hK _ _ ⟨_, rfl, rfl, World.grownBy.refl _ _⟩
              · intro a w' hf he
                have f2 : a.tmps.getD 82 undef = .bool true := he 2 (by kernel_rfl)
                exact wpOp_pass rfl rfl rfl f2 rfl ⟨_, rfl, rfl, World.grownBy.refl _ _⟩
              · intro a w' hf he
                have f2 : a.tmps.getD 82 undef = .bool true := he 2 (by kernel_rfl)
                exact wpOp_pass rfl rfl rfl f2 rfl ⟨_, rfl, rfl, World.grownBy.refl _ _⟩
              · intro a w' hf he
                have f2 : a.tmps.getD 82 undef = .bool true := he 2 (by kernel_rfl)
                exact wpOp_pass rfl rfl rfl f2 rfl ⟨_, rfl, rfl, World.grownBy.refl _ _⟩
              · intro a w' hf he
                have f2 : a.tmps.getD 82 undef = .bool true := he 2 (by kernel_rfl)
                exact wpOp_pass rfl rfl rfl f2 rfl ⟨_, rfl, rfl, World.grownBy.refl _ _⟩
              · intro a w' hf he
                have f2 : a.tmps.getD 82 undef = .bool true := he 2 (by kernel_rfl)
                exact wpOp_pass rfl rfl rfl f2 rfl ⟨_, rfl, rfl, World.grownBy.refl _ _⟩
              · intro a w' hf he
                have f2 : a.tmps.getD 82 undef = .bool true := he 2 (by kernel_rfl)
                exact wpOp_pass rfl rfl rfl f2 rfl ⟨_, rfl, rfl, World.grownBy.refl _ _⟩
              · intro a w' hf he
                have f2 : a.tmps.getD 82 undef = .bool true := he 2 (by kernel_rfl)
                exact wpOp_pass rfl rfl rfl f2 rfl ⟨_, rfl, rfl, World.grownBy.refl _ _⟩
              · intro a w' hf he
                have f9 : a.tmps.getD 89 undef = undef := he 9 (by kernel_rfl)
                exact wpOp_pass2 rfl rfl rfl f9 ⟨_, rfl, rfl, World.grownBy.refl _ _⟩
              · intro a w' hf he
                have f9 : a.tmps.getD 89 undef = undef := he 9 (by kernel_rfl)
                exact wpOp_pass2 rfl rfl rfl f9 ⟨_, rfl, rfl, World.grownBy.refl _ _⟩
              · intro a w' hf he
                have f2 : a.tmps.getD 82 undef = .bool true := he 2 (by kernel_rfl)
                exact wpOp_pass rfl rfl rfl f2 rfl ⟨_, rfl, rfl, World.grownBy.refl _ _⟩
              · intro a w' hf he
                have f2 : a.tmps.getD 82 undef = .bool true := he 2 (by kernel_rfl)
                have f12 : a.tmps.getD 92 undef = undef := he 12 (by kernel_rfl)
                refine wpOp_step rfl (fun K hK => ?_)
                go_simp
                exact hK _ _ ⟨_, rfl, rfl, World.grownBy.refl _ _⟩
              · intro a w' hf he
                have f13 : a.tmps.getD 93 undef = .bool true := he 13 (by kernel_rfl)
                refine wpOp_step rfl (fun K hK => ?_)
                go_simp
                exact hK _ _ ⟨_, rfl, rfl, World.grownBy.refl _ _⟩
              · intro a w' hf he
                have f14 : a.tmps.getD 94 undef = .bool true := he 14 (by kernel_rfl)
                rw [show kindRow _ _ = none from by kernel_rfl] at hf
                refine wpOp_run rfl rfl rfl f14 (fun K hK => ?_)
                go_simp
                refine (c_lives _).mono ?_
                rintro e w2 ⟨rfl, hb2⟩
                exact hK _ _ ⟨_, rfl, rfl, grown_bel hb2⟩
              · intro a w' hf he
                have f14 : a.tmps.getD 94 undef = .bool true := he 14 (by kernel_rfl)
                have f15 : a.tmps.getD 95 undef = .bool true := he 15 (by kernel_rfl)
                refine wpOp_step rfl (fun K hK => ?_)
                go_simp
                exact hK _ _ ⟨_, rfl, rfl, World.grownBy.refl _ _⟩
            · intro a w' hf he
              obtain ⟨u80, f0⟩ : ∃ u, a.tmps.getD 80 undef = u := ⟨_, rfl⟩
              obtain ⟨u81, f1⟩ : ∃ u, a.tmps.getD 81 undef = u := ⟨_, rfl⟩
              obtain ⟨u82, f2⟩ : ∃ u, a.tmps.getD 82 undef = u := ⟨_, rfl⟩
              obtain ⟨u83, f3⟩ : ∃ u, a.tmps.getD 83 undef = u := ⟨_, rfl⟩
              obtain ⟨u84, f4⟩ : ∃ u, a.tmps.getD 84 undef = u := ⟨_, rfl⟩
              obtain ⟨u85, f5⟩ : ∃ u, a.tmps.getD 85 undef = u := ⟨_, rfl⟩
              obtain ⟨u86, f6⟩ : ∃ u, a.tmps.getD 86 undef = u := ⟨_, rfl⟩
              obtain ⟨u87, f7⟩ : ∃ u, a.tmps.getD 87 undef = u := ⟨_, rfl⟩
              obtain ⟨u88, f8⟩ : ∃ u, a.tmps.getD 88 undef = u := ⟨_, rfl⟩
              obtain ⟨u89, f9⟩ : ∃ u, a.tmps.getD 89 undef = u := ⟨_, rfl⟩
              obtain ⟨u90, f10⟩ : ∃ u, a.tmps.getD 90 undef = u := ⟨_, rfl⟩
              obtain ⟨u91, f11⟩ : ∃ u, a.tmps.getD 91 undef = u := ⟨_, rfl⟩
              obtain ⟨u92, f12⟩ : ∃ u, a.tmps.getD 92 undef = u := ⟨_, rfl⟩
              obtain ⟨u93, f13⟩ : ∃ u, a.tmps.getD 93 undef = u := ⟨_, rfl⟩
              obtain ⟨u94, f14⟩ : ∃ u, a.tmps.getD 94 undef = u := ⟨_, rfl⟩
              obtain ⟨u95, f15⟩ : ∃ u, a.tmps.getD 95 undef = u := ⟨_, rfl⟩
              have f16 : a.tmps.getD 96 undef = .bool true := he 16 (by decide)
              have hlit := hf.lit ((80, u80) :: (81, u81) :: (82, u82) :: (83, u83) :: (84, u84) :: (85, u85) :: (86, u86) :: (87, u87) :: (88, u88) :: (89, u89) :: (90, u90) :: (91, u91) :: (92, u92) :: (93, u93) :: (94, u94) :: (95, u95) :: (96, .bool true) :: []) (by kernel_rfl) ⟨f0, f1, f2, f3, f4, f5, f6, f7, f8, f9, f10, f11, f12, f13, f14, f15, f16, trivial⟩
              have hB := hf.bel
              clear he hf f0 f1 f2 f3 f4 f5 f6 f7 f8 f9 f10 f11 f12 f13 f14 f15 f16 
              subst hlit
              simp only [putAll_nil, putAll_cons, Act.put, List.setIfInBounds_toArray, List.set_cons_zero, List.set_cons_succ]
              simp only [List.drop_succ_cons, List.drop_zero]
              go_wp2_with fail
              go_ret
              exact ⟨rfl, HB8.out.trans (hB.mono HB8.out.size)⟩
      · have Hyc := Lib.hid hyc
        clear hyc
        go_upto_region 12 with (fail)
        all_goals first
          | (exfalso; have := Hyc.out; omega)
          | skip
        all_goals
          go_upto_region 13 with (first
            | (go_at_call 35
               (with_reducible refine (hp2 _ Pb0.out (by omega)).mono ?_)
               rintro e w1 ⟨A7, n7, c7, rfl, h7, bel7⟩
               have H7 := Lib.hid h7
               have HB7 := Lib.hid (PB.out.trans (bel7.mono PB.out.size))
               have Hb7 := Lib.hid (Pb0.out.bel bel7)
               clear h7 bel7 hp2)
            | (refine Bx.wpL_store_all rfl rfl 42 (.tmp 12) (.tmp 78) rfl _ rfl _ rfl _ _ (heap_alloc_new w1 _) (by kernel_rfl) rfl (one6 _ _ _ _ _ _ _ _) ?_
               intro w8 x8 g8
               have HX8 := Lib.hid x8
               have F8 : Fr (fun k => k = w1.heap.size) w1 w8 := (Fr.alloc _).trans (Fr.grown (S := fun k => k = w1.heap.size) g8 (by rintro k ⟨⟩; rfl)) (fun _ _ h => h)
               have bel8 : Below w1.heap.size w1 w8 := F8.bel (fun k e => by omega) (Nat.le_refl _)
               have H8 := Lib.hid (H7.out.bel bel8)
               have Hb8 := Lib.hid (Hb7.out.bel bel8)
               have HB8 := Lib.hid (HB7.out.trans (bel8.mono HB7.out.size))
               clear x8 g8 F8 bel8)
            | fail)
          by_cases her : er = 0
          · subst her
            have hqB := HqB.out rfl
            have hqG := HqG.out rfl
            have hby2 := fun w (h : Byt w A7 n7 c7 qd) => hqy A7 n7 c7 w h
            rw [hqB] at hby2
            have hgd2 := fun w => hqg A7 n7 c7 w
            rw [show n7 = qd.length from H7.out.blen.symm] at hgd2
            rw [hqG] at hgd2
            rw [show qd.length = n7 from H7.out.blen] at hgd2
            clear hqB hqG
            refine wp_region_phi (by kernel_rfl) 17 none (fun _ => false) (fun i_ v wz => match i_ with
              | 0 => v = .int .i64 0
              | 1 => v = .bool false
              | 2 => v = .bool false
              | 3 => v = .agg #[.int .i64 qk, .int .i64 qi, .int .i64 qo, .int .u64 Q, .bool qw, .slice A7 n7 c7]
              | 4 => ∃ A2 n2 c2, v = .slice A2 n2 c2 ∧ Byt wz A2 n2 c2 b
              | 5 => v = .string ⟨b.toArray⟩
              | 6 => v = .slice A0 n0 c0
              | 7 => v = .string ⟨b.toArray⟩
              | 8 => v = .bool true
              | 9 => v = .bool true
              | 10 => v = .agg #[.int .i64 qk, .int .i64 qi, .int .i64 qo, .int .u64 Q, .bool qw, .slice A7 n7 c7]
              | 11 => v = .bool true
              | 12 => v = .bool true
              | 13 => v = .bool true
              | 14 => v = .bool true
              | 15 => v = .bool true
              | 16 => v = .bool true
              | _ => True) (by kernel_rfl) ?_ ?_ ?_
            · (repeat' (first | exact allLt_zero | refine allLt_succ ?_ ?_))
              · exact fun _ _ _ h _ => h
              · exact fun _ _ _ h _ => h
              · exact fun _ _ _ h _ => h
              · exact fun _ _ _ h _ => h
              · intro v w1 w2 h hg
                rw [show kindRow _ _ = none from by kernel_rfl] at hg
                obtain ⟨A2, n2, c2, rfl, hr⟩ := h
                exact ⟨A2, n2, c2, rfl, hr.bel (bel_grown hg)⟩
              · exact fun _ _ _ h _ => h
              · exact fun _ _ _ h _ => h
              · exact fun _ _ _ h _ => h
              · exact fun _ _ _ h _ => h
              · exact fun _ _ _ h _ => h
              · exact fun _ _ _ h _ => h
              · exact fun _ _ _ h _ => h
              · exact fun _ _ _ h _ => h
              · exact fun _ _ _ h _ => h
              · exact fun _ _ _ h _ => h
              · exact fun _ _ _ h _ => h
              · exact fun _ _ _ h _ => h
            · (repeat' (first | exact allLt_zero | refine allLt_succ ?_ ?_))
              · intro a w' hf he
                have k13 : a.tmps.getD 13 undef = .int .i64 0 := hf.var (by kernel_rfl) rfl
                refine wpOp_step rfl (fun K hK => ?_)
                go_simp
                exact hK _ _ ⟨_, rfl, rfl, World.grownBy.refl _ _⟩
              · intro a w' hf he
                have f0 : a.tmps.getD 80 undef = .int .i64 0 := he 0 (by kernel_rfl)
                rw [show kindRow _ _ = none from by kernel_rfl] at hf
                refine wpOp_step rfl (fun K hK => ?_)
                go_simp
                exact hK _ _ ⟨_, rfl, rfl, World.grownBy.refl _ _⟩
              · intro a w' hf he
                have f1 : a.tmps.getD 81 undef = .bool false := he 1 (by kernel_rfl)
                refine wpOp_step rfl (fun K hK => ?_)
                go_simp
                exact hK _ _ ⟨_, rfl, rfl, World.grownBy.refl _ _⟩
              · intro a w' hf he
                have k12 : a.tmps.getD 12 undef = .pointer (some ⟨w1.heap.size, 0, none⟩) := hf.var (by kernel_rfl) rfl
                have f2 : a.tmps.getD 82 undef = .bool false := he 2 (by kernel_rfl)
                rw [show kindRow _ _ = none from by kernel_rfl] at hf
                obtain ⟨q0, q1, q2, q3, q4, q5⟩ := Bx.cells6 ((hf.bel.block _ (heap_lt HX8.out)).trans HX8.out)
                refine wpOp_run rfl rfl rfl f2 (fun K hK => ?_)
                go_simp
                exact hK _ _ ⟨_, rfl, rfl, World.grownBy.refl _ _⟩
              · intro a w' hf he
                have f3 : a.tmps.getD 83 undef = .agg #[.int .i64 qk, .int .i64 qi, .int .i64 qo, .int .u64 Q, .bool qw, .slice A7 n7 c7] := he 3 (by kernel_rfl)
                have f2 : a.tmps.getD 82 undef = .bool false := he 2 (by kernel_rfl)
                rw [show kindRow _ _ = none from by kernel_rfl] at hf
                refine wpOp_run rfl rfl rfl f2 (fun K hK => ?_)
                go_simp
                (with_reducible refine (hby2 _ (H8.out.bel hf.bel)).mono ?_)
                rintro e w2 ⟨A2, n2, c2, rfl, ho2, hb2⟩
                exact hK _ _ ⟨_, rfl, ⟨_, _, _, rfl, ho2⟩, grown_bel hb2⟩
              · intro a w' hf he
                obtain ⟨A4, n4, c4, hv4, hr4⟩ := he 4 (by kernel_rfl)
                have f4 : a.tmps.getD 84 undef = _ := hv4
                have f2 : a.tmps.getD 82 undef = .bool false := he 2 (by kernel_rfl)
                rw [show kindRow _ _ = none from by kernel_rfl] at hf
                have hcv := run_str (P := Try.prog) w' 23 9 5 A4 n4 c4 b Try.underlying23 Try.underlying5 Try.underlying9 hr4
                refine wpOp_run rfl rfl rfl f2 (fun K hK => ?_)
                go_simp
                exact hK _ _ ⟨_, rfl, rfl, World.grownBy.refl _ _⟩
              · intro a w' hf he
                have k1 : a.tmps.getD 1 undef = .slice A0 n0 c0 := hf.var (by kernel_rfl) rfl
                have f2 : a.tmps.getD 82 undef = .bool false := he 2 (by kernel_rfl)
                refine wpOp_run rfl rfl rfl f2 (fun K hK => ?_)
                go_simp
                exact hK _ _ ⟨_, rfl, rfl, World.grownBy.refl _ _⟩
              · intro a w' hf he
                have f6 : a.tmps.getD 86 undef = .slice A0 n0 c0 := he 6 (by kernel_rfl)
                have f2 : a.tmps.getD 82 undef = .bool false := he 2 (by kernel_rfl)
                rw [show kindRow _ _ = none from by kernel_rfl] at hf
                have hcv := run_str (P := Try.prog) w' 23 9 5 A0 n0 c0 b Try.underlying23 Try.underlying5 Try.underlying9 (Hb8.out.bel hf.bel)
                refine wpOp_run rfl rfl rfl f2 (fun K hK => ?_)
                go_simp
                exact hK _ _ ⟨_, rfl, rfl, World.grownBy.refl _ _⟩
              · intro a w' hf he
                have f5 : a.tmps.getD 85 undef = .string ⟨b.toArray⟩ := he 5 (by kernel_rfl)
                have f7 : a.tmps.getD 87 undef = .string ⟨b.toArray⟩ := he 7 (by kernel_rfl)
                have f2 : a.tmps.getD 82 undef = .bool false := he 2 (by kernel_rfl)
                rw [show kindRow _ _ = none from by kernel_rfl] at hf
                refine wpOp_run rfl rfl rfl f2 (fun K hK => ?_)
                go_simp
                exact hK _ _ ⟨_, rfl, by simp, World.grownBy.refl _ _⟩
              · intro a w' hf he
                have f8 : a.tmps.getD 88 undef = .bool true := he 8 (by kernel_rfl)
                have f2 : a.tmps.getD 82 undef = .bool false := he 2 (by kernel_rfl)
                refine wpOp_run rfl rfl rfl f2 (fun K hK => ?_)
                go_simp
                exact hK _ _ ⟨_, rfl, rfl, World.grownBy.refl _ _⟩
              · intro a w' hf he
                have k12 : a.tmps.getD 12 undef = .pointer (some ⟨w1.heap.size, 0, none⟩) := hf.var (by kernel_rfl) rfl
                have f9 : a.tmps.getD 89 undef = .bool true := he 9 (by kernel_rfl)
                rw [show kindRow _ _ = none from by kernel_rfl] at hf
                obtain ⟨q0, q1, q2, q3, q4, q5⟩ := Bx.cells6 ((hf.bel.block _ (heap_lt HX8.out)).trans HX8.out)
                refine wpOp_run rfl rfl rfl f9 (fun K hK => ?_)
                go_simp
                exact hK _ _ ⟨_, rfl, rfl, World.grownBy.refl _ _⟩
              · intro a w' hf he
                have f10 : a.tmps.getD 90 undef = .agg #[.int .i64 qk, .int .i64 qi, .int .i64 qo, .int .u64 Q, .bool qw, .slice A7 n7 c7] := he 10 (by kernel_rfl)
                have f9 : a.tmps.getD 89 undef = .bool true := he 9 (by kernel_rfl)
                rw [show kindRow _ _ = none from by kernel_rfl] at hf
                refine wpOp_run rfl rfl rfl f9 (fun K hK => ?_)
                go_simp
                (with_reducible refine (hgd2 _).mono ?_)
                rintro e w2 ⟨rfl, hb2⟩
                exact hK _ _ ⟨_, rfl, rfl, grown_bel hb2⟩
              · intro a w' hf he
                have f9 : a.tmps.getD 89 undef = .bool true := he 9 (by kernel_rfl)
                have f11 : a.tmps.getD 91 undef = .bool true := he 11 (by kernel_rfl)
                have f2 : a.tmps.getD 82 undef = .bool false := he 2 (by kernel_rfl)
                refine wpOp_run rfl rfl rfl f2 (fun K hK => ?_)
                go_simp
                exact hK _ _ ⟨_, rfl, rfl, World.grownBy.refl _ _⟩
              · intro a w' hf he
                have f2 : a.tmps.getD 82 undef = .bool false := he 2 (by kernel_rfl)
                have f12 : a.tmps.getD 92 undef = .bool true := he 12 (by kernel_rfl)
                refine wpOp_step rfl (fun K hK => ?_)
                go_simp
                exact hK _ _ ⟨_, rfl, rfl, World.grownBy.refl _ _⟩
              · intro a w' hf he
                have f13 : a.tmps.getD 93 undef = .bool true := he 13 (by kernel_rfl)
                refine wpOp_step rfl (fun K hK => ?_)
                go_simp
                exact hK _ _ ⟨_, rfl, rfl, World.grownBy.refl _ _⟩
              · intro a w' hf he
                have f14 : a.tmps.getD 94 undef = .bool true := he 14 (by kernel_rfl)
                rw [show kindRow _ _ = none from by kernel_rfl] at hf
                refine wpOp_run rfl rfl rfl f14 (fun K hK => ?_)
                go_simp
                refine (c_lives _).mono ?_
                rintro e w2 ⟨rfl, hb2⟩
                exact hK _ _ ⟨_, rfl, rfl, grown_bel hb2⟩
              · intro a w' hf he
                have f14 : a.tmps.getD 94 undef = .bool true := he 14 (by kernel_rfl)
                have f15 : a.tmps.getD 95 undef = .bool true := he 15 (by kernel_rfl)
                refine wpOp_step rfl (fun K hK => ?_)
                go_simp
                exact hK _ _ ⟨_, rfl, rfl, World.grownBy.refl _ _⟩
            · intro a w' hf he
              obtain ⟨u80, f0⟩ : ∃ u, a.tmps.getD 80 undef = u := ⟨_, rfl⟩
              obtain ⟨u81, f1⟩ : ∃ u, a.tmps.getD 81 undef = u := ⟨_, rfl⟩
              obtain ⟨u82, f2⟩ : ∃ u, a.tmps.getD 82 undef = u := ⟨_, rfl⟩
              obtain ⟨u83, f3⟩ : ∃ u, a.tmps.getD 83 undef = u := ⟨_, rfl⟩
              obtain ⟨u84, f4⟩ : ∃ u, a.tmps.getD 84 undef = u := ⟨_, rfl⟩
              obtain ⟨u85, f5⟩ : ∃ u, a.tmps.getD 85 undef = u := ⟨_, rfl⟩
              obtain ⟨u86, f6⟩ : ∃ u, a.tmps.getD 86 undef = u := ⟨_, rfl⟩
              obtain ⟨u87, f7⟩ : ∃ u, a.tmps.getD 87 undef = u := ⟨_, rfl⟩
              obtain ⟨u88, f8⟩ : ∃ u, a.tmps.getD 88 undef = u := ⟨_, rfl⟩
              obtain ⟨u89, f9⟩ : ∃ u, a.tmps.getD 89 undef = u := ⟨_, rfl⟩
              obtain ⟨u90, f10⟩ : ∃ u, a.tmps.getD 90 undef = u := ⟨_, rfl⟩
              obtain ⟨u91, f11⟩ : ∃ u, a.tmps.getD 91 undef = u := ⟨_, rfl⟩
              obtain ⟨u92, f12⟩ : ∃ u, a.tmps.getD 92 undef = u := ⟨_, rfl⟩
              obtain ⟨u93, f13⟩ : ∃ u, a.tmps.getD 93 undef = u := ⟨_, rfl⟩
              obtain ⟨u94, f14⟩ : ∃ u, a.tmps.getD 94 undef = u := ⟨_, rfl⟩
              obtain ⟨u95, f15⟩ : ∃ u, a.tmps.getD 95 undef = u := ⟨_, rfl⟩
              have f16 : a.tmps.getD 96 undef = .bool true := he 16 (by decide)
              have hlit := hf.lit ((80, u80) :: (81, u81) :: (82, u82) :: (83, u83) :: (84, u84) :: (85, u85) :: (86, u86) :: (87, u87) :: (88, u88) :: (89, u89) :: (90, u90) :: (91, u91) :: (92, u92) :: (93, u93) :: (94, u94) :: (95, u95) :: (96, .bool true) :: []) (by kernel_rfl) ⟨f0, f1, f2, f3, f4, f5, f6, f7, f8, f9, f10, f11, f12, f13, f14, f15, f16, trivial⟩
              have hB := hf.bel
              clear he hf f0 f1 f2 f3 f4 f5 f6 f7 f8 f9 f10 f11 f12 f13 f14 f15 f16 
              subst hlit
              simp only [putAll_nil, putAll_cons, Act.put, List.setIfInBounds_toArray, List.set_cons_zero, List.set_cons_succ]
              simp only [List.drop_succ_cons, List.drop_zero]
              go_wp2_with fail
              go_ret
              exact ⟨rfl, HB8.out.trans (hB.mono HB8.out.size)⟩
          · have hne : ((er : Int) != 0) = true := by simp; omega
            refine wp_region_phi (by kernel_rfl) 17 none (fun _ => false) (fun i_ v wz => match i_ with
              | 0 => v = .int .i64 (er : Int)
              | 1 => v = .bool true
              | 2 => v = .bool true
              | 3 => v = undef
              | 4 => v = undef
              | 5 => v = undef
              | 6 => v = undef
              | 7 => v = undef
              | 8 => v = undef
              | 9 => v = undef
              | 10 => v = undef
              | 11 => v = undef
              | 12 => v = undef
              | 13 => v = .bool true
              | 14 => v = .bool true
              | 15 => v = .bool true
              | 16 => v = .bool true
              | _ => True) (by kernel_rfl) ?_ ?_ ?_
            · (repeat' (first | exact allLt_zero | refine allLt_succ ?_ ?_))
              · exact fun _ _ _ h _ => h
              · exact fun _ _ _ h _ => h
              · exact fun _ _ _ h _ => h
              · exact fun _ _ _ h _ => h
              · exact fun _ _ _ h _ => h
              · exact fun _ _ _ h _ => h
              · exact fun _ _ _ h _ => h
              · exact fun _ _ _ h _ => h
              · exact fun _ _ _ h _ => h
              · exact fun _ _ _ h _ => h
              · exact fun _ _ _ h _ => h
              · exact fun _ _ _ h _ => h
              · exact fun _ _ _ h _ => h
              · exact fun _ _ _ h _ => h
              · exact fun _ _ _ h _ => h
              · exact fun _ _ _ h _ => h
              · exact fun _ _ _ h _ => h
            · (repeat' (first | exact allLt_zero | refine allLt_succ ?_ ?_))
              · intro a w' hf he
                have k13 : a.tmps.getD 13 undef = .int .i64 (er : Int) := hf.var (by kernel_rfl) rfl
                refine wpOp_step rfl (fun K hK => ?_)
                go_simp
                exact hK _ _ ⟨_, rfl, rfl, World.grownBy.refl _ _⟩
              · intro a w' hf he
                have f0 : a.tmps.getD 80 undef = .int .i64 (er : Int) := he 0 (by kernel_rfl)
                rw [show kindRow _ _ = none from by kernel_rfl] at hf
                refine wpOp_step rfl (fun K hK => ?_)
                go_simp
                (try rw [hne])
                exact hK _ _ ⟨_, rfl, rfl, World.grownBy.refl _ _⟩
              · intro a w' hf he
                have f1 : a.tmps.getD 81 undef = .bool true := he 1 (by kernel_rfl)
                refine wpOp_step rfl (fun K hK => ?_)
                go_simp
                exact hK _ _ ⟨_, rfl, rfl, World.grownBy.refl _ _⟩
              · intro a w' hf he
                have f2 : a.tmps.getD 82 undef = .bool true := he 2 (by kernel_rfl)
                exact wpOp_pass rfl rfl rfl f2 rfl ⟨_, rfl, rfl, World.grownBy.refl _ _⟩
              · intro a w' hf he
                have f2 : a.tmps.getD 82 undef = .bool true := he 2 (by kernel_rfl)
                exact wpOp_pass rfl rfl rfl f2 rfl ⟨_, rfl, rfl, World.grownBy.refl _ _⟩
              · intro a w' hf he
                have f2 : a.tmps.getD 82 undef = .bool true := he 2 (by kernel_rfl)
                exact wpOp_pass rfl rfl rfl f2 rfl ⟨_, rfl, rfl, World.grownBy.refl _ _⟩
              · intro a w' hf he
                have f2 : a.tmps.getD 82 undef = .bool true := he 2 (by kernel_rfl)
                exact wpOp_pass rfl rfl rfl f2 rfl ⟨_, rfl, rfl, World.grownBy.refl _ _⟩
              · intro a w' hf he
                have f2 : a.tmps.getD 82 undef = .bool true := he 2 (by kernel_rfl)
                exact wpOp_pass rfl rfl rfl f2 rfl ⟨_, rfl, rfl, World.grownBy.refl _ _⟩
              · intro a w' hf he
                have f2 : a.tmps.getD 82 undef = .bool true := he 2 (by kernel_rfl)
                exact wpOp_pass rfl rfl rfl f2 rfl ⟨_, rfl, rfl, World.grownBy.refl _ _⟩
              · intro a w' hf he
                have f2 : a.tmps.getD 82 undef = .bool true := he 2 (by kernel_rfl)
                exact wpOp_pass rfl rfl rfl f2 rfl ⟨_, rfl, rfl, World.grownBy.refl _ _⟩
              · intro a w' hf he
                have f9 : a.tmps.getD 89 undef = undef := he 9 (by kernel_rfl)
                exact wpOp_pass2 rfl rfl rfl f9 ⟨_, rfl, rfl, World.grownBy.refl _ _⟩
              · intro a w' hf he
                have f9 : a.tmps.getD 89 undef = undef := he 9 (by kernel_rfl)
                exact wpOp_pass2 rfl rfl rfl f9 ⟨_, rfl, rfl, World.grownBy.refl _ _⟩
              · intro a w' hf he
                have f2 : a.tmps.getD 82 undef = .bool true := he 2 (by kernel_rfl)
                exact wpOp_pass rfl rfl rfl f2 rfl ⟨_, rfl, rfl, World.grownBy.refl _ _⟩
              · intro a w' hf he
                have f2 : a.tmps.getD 82 undef = .bool true := he 2 (by kernel_rfl)
                have f12 : a.tmps.getD 92 undef = undef := he 12 (by kernel_rfl)
                refine wpOp_step rfl (fun K hK => ?_)
                go_simp
                exact hK _ _ ⟨_, rfl, rfl, World.grownBy.refl _ _⟩
              · intro a w' hf he
                have f13 : a.tmps.getD 93 undef = .bool true := he 13 (by kernel_rfl)
                refine wpOp_step rfl (fun K hK => ?_)
                go_simp
                exact hK _ _ ⟨_, rfl, rfl, World.grownBy.refl _ _⟩
              · intro a w' hf he
                have f14 : a.tmps.getD 94 undef = .bool true := he 14 (by kernel_rfl)
                rw [show kindRow _ _ = none from by kernel_rfl] at hf
                refine wpOp_run rfl rfl rfl f14 (fun K hK => ?_)
                go_simp
                refine (c_lives _).mono ?_
                rintro e w2 ⟨rfl, hb2⟩
                exact hK _ _ ⟨_, rfl, rfl, grown_bel hb2⟩
              · intro a w' hf he
                have f14 : a.tmps.getD 94 undef = .bool true := he 14 (by kernel_rfl)
                have f15 : a.tmps.getD 95 undef = .bool true := he 15 (by kernel_rfl)
                refine wpOp_step rfl (fun K hK => ?_)
                go_simp
                exact hK _ _ ⟨_, rfl, rfl, World.grownBy.refl _ _⟩
            · intro a w' hf he
              obtain ⟨u80, f0⟩ : ∃ u, a.tmps.getD 80 undef = u := ⟨_, rfl⟩
              obtain ⟨u81, f1⟩ : ∃ u, a.tmps.getD 81 undef = u := ⟨_, rfl⟩
              obtain ⟨u82, f2⟩ : ∃ u, a.tmps.getD 82 undef = u := ⟨_, rfl⟩
              obtain ⟨u83, f3⟩ : ∃ u, a.tmps.getD 83 undef = u := ⟨_, rfl⟩
              obtain ⟨u84, f4⟩ : ∃ u, a.tmps.getD 84 undef = u := ⟨_, rfl⟩
              obtain ⟨u85, f5⟩ : ∃ u, a.tmps.getD 85 undef = u := ⟨_, rfl⟩
              obtain ⟨u86, f6⟩ : ∃ u, a.tmps.getD 86 undef = u := ⟨_, rfl⟩
              obtain ⟨u87, f7⟩ : ∃ u, a.tmps.getD 87 undef = u := ⟨_, rfl⟩
              obtain ⟨u88, f8⟩ : ∃ u, a.tmps.getD 88 undef = u := ⟨_, rfl⟩
              obtain ⟨u89, f9⟩ : ∃ u, a.tmps.getD 89 undef = u := ⟨_, rfl⟩
              obtain ⟨u90, f10⟩ : ∃ u, a.tmps.getD 90 undef = u := ⟨_, rfl⟩
              obtain ⟨u91, f11⟩ : ∃ u, a.tmps.getD 91 undef = u := ⟨_, rfl⟩
              obtain ⟨u92, f12⟩ : ∃ u, a.tmps.getD 92 undef = u := ⟨_, rfl⟩
              obtain ⟨u93, f13⟩ : ∃ u, a.tmps.getD 93 undef = u := ⟨_, rfl⟩
              obtain ⟨u94, f14⟩ : ∃ u, a.tmps.getD 94 undef = u := ⟨_, rfl⟩
              obtain ⟨u95, f15⟩ : ∃ u, a.tmps.getD 95 undef = u := ⟨_, rfl⟩
              have f16 : a.tmps.getD 96 undef = .bool true := he 16 (by decide)
              have hlit := hf.lit ((80, u80) :: (81, u81) :: (82, u82) :: (83, u83) :: (84, u84) :: (85, u85) :: (86, u86) :: (87, u87) :: (88, u88) :: (89, u89) :: (90, u90) :: (91, u91) :: (92, u92) :: (93, u93) :: (94, u94) :: (95, u95) :: (96, .bool true) :: []) (by kernel_rfl) ⟨f0, f1, f2, f3, f4, f5, f6, f7, f8, f9, f10, f11, f12, f13, f14, f15, f16, trivial⟩
              have hB := hf.bel
              clear he hf f0 f1 f2 f3 f4 f5 f6 f7 f8 f9 f10 f11 f12 f13 f14 f15 f16 
              subst hlit
              simp only [putAll_nil, putAll_cons, Act.put, List.setIfInBounds_toArray, List.set_cons_zero, List.set_cons_succ]
              simp only [List.drop_succ_cons, List.drop_zero]
              go_wp2_with fail
              go_ret
              exact ⟨rfl, HB8.out.trans (hB.mono HB8.out.size)⟩
    · have hbi := Hbad.out hG
      rw [hbi] at hby
      clear hbi
      go_upto_region 12 with (first
        | (go_at_call 31
           (with_reducible refine (hby _ Hb.out).mono ?_)
           rintro e w2 ⟨A1, n1, c1, rfl, h1, bel1⟩
           obtain rfl : n1 = 0 := by have := h1.blen; simp at this; omega
           have Pb0 := Lib.hid (Hb0.out.bel bel1)
           have PB := Lib.hid (HB.out.trans (bel1.mono HB.out.size))
           clear h1 bel1 hby k0 k1 k2 k3 k4 k5)
        | fail)
      go_upto_region 13 with (first
        | (go_at_call 35
           (with_reducible refine (hp2 _ Pb0.out (by omega)).mono ?_)
           rintro e w1 ⟨A7, n7, c7, rfl, h7, bel7⟩
           have H7 := Lib.hid h7
           have HB7 := Lib.hid (PB.out.trans (bel7.mono PB.out.size))
           have Hb7 := Lib.hid (Pb0.out.bel bel7)
           clear h7 bel7 hp2)
        | (refine Bx.wpL_store_all rfl rfl 42 (.tmp 12) (.tmp 78) rfl _ rfl _ rfl _ _ (heap_alloc_new w1 _) (by kernel_rfl) rfl (one6 _ _ _ _ _ _ _ _) ?_
           intro w8 x8 g8
           have HX8 := Lib.hid x8
           have F8 : Fr (fun k => k = w1.heap.size) w1 w8 := (Fr.alloc _).trans (Fr.grown (S := fun k => k = w1.heap.size) g8 (by rintro k ⟨⟩; rfl)) (fun _ _ h => h)
           have bel8 : Below w1.heap.size w1 w8 := F8.bel (fun k e => by omega) (Nat.le_refl _)
           have H8 := Lib.hid (H7.out.bel bel8)
           have Hb8 := Lib.hid (Hb7.out.bel bel8)
           have HB8 := Lib.hid (HB7.out.trans (bel8.mono HB7.out.size))
           clear x8 g8 F8 bel8)
        | fail)
      by_cases her : er = 0
      · subst her
        have hqB := HqB.out rfl
        have hqG := HqG.out rfl
        have hby2 := fun w (h : Byt w A7 n7 c7 qd) => hqy A7 n7 c7 w h
        rw [hqB] at hby2
        have hgd2 := fun w => hqg A7 n7 c7 w
        rw [show n7 = qd.length from H7.out.blen.symm] at hgd2
        rw [hqG] at hgd2
        rw [show qd.length = n7 from H7.out.blen] at hgd2
        clear hqB hqG
        refine wp_region_phi (by kernel_rfl) 17 none (fun _ => false) (fun i_ v wz => match i_ with
          | 0 => v = .int .i64 0
          | 1 => v = .bool false
          | 2 => v = .bool false
          | 3 => v = .agg #[.int .i64 qk, .int .i64 qi, .int .i64 qo, .int .u64 Q, .bool qw, .slice A7 n7 c7]
          | 4 => ∃ A2 n2 c2, v = .slice A2 n2 c2 ∧ Byt wz A2 n2 c2 b
          | 5 => v = .string ⟨b.toArray⟩
          | 6 => v = .slice A0 n0 c0
          | 7 => v = .string ⟨b.toArray⟩
          | 8 => v = .bool true
          | 9 => v = .bool true
          | 10 => v = .agg #[.int .i64 qk, .int .i64 qi, .int .i64 qo, .int .u64 Q, .bool qw, .slice A7 n7 c7]
          | 11 => v = .bool true
          | 12 => v = .bool true
          | 13 => v = .bool true
          | 14 => v = .bool true
          | 15 => v = .bool true
          | 16 => v = .bool true
          | _ => True) (by kernel_rfl) ?_ ?_ ?_
        · (repeat' (first | exact allLt_zero | refine allLt_succ ?_ ?_))
          · exact fun _ _ _ h _ => h
          · exact fun _ _ _ h _ => h
          · exact fun _ _ _ h _ => h
          · exact fun _ _ _ h _ => h
          · intro v w1 w2 h hg
            rw [show kindRow _ _ = none from by kernel_rfl] at hg
            obtain ⟨A2, n2, c2, rfl, hr⟩ := h
            exact ⟨A2, n2, c2, rfl, hr.bel (bel_grown hg)⟩
          · exact fun _ _ _ h _ => h
          · exact fun _ _ _ h _ => h
          · exact fun _ _ _ h _ => h
          · exact fun _ _ _ h _ => h
          · exact fun _ _ _ h _ => h
          · exact fun _ _ _ h _ => h
          · exact fun _ _ _ h _ => h
          · exact fun _ _ _ h _ => h
          · exact fun _ _ _ h _ => h
          · exact fun _ _ _ h _ => h
          · exact fun _ _ _ h _ => h
          · exact fun _ _ _ h _ => h
        · (repeat' (first | exact allLt_zero | refine allLt_succ ?_ ?_))
          · intro a w' hf he
            have k13 : a.tmps.getD 13 undef = .int .i64 0 := hf.var (by kernel_rfl) rfl
            refine wpOp_step rfl (fun K hK => ?_)
            go_simp
            exact hK _ _ ⟨_, rfl, rfl, World.grownBy.refl _ _⟩
          · intro a w' hf he
            have f0 : a.tmps.getD 80 undef = .int .i64 0 := he 0 (by kernel_rfl)
            rw [show kindRow _ _ = none from by kernel_rfl] at hf
            refine wpOp_step rfl (fun K hK => ?_)
            go_simp
            exact hK _ _ ⟨_, rfl, rfl, World.grownBy.refl _ _⟩
          · intro a w' hf he
            have f1 : a.tmps.getD 81 undef = .bool false := he 1 (by kernel_rfl)
            refine wpOp_step rfl (fun K hK => ?_)
            go_simp
            exact hK _ _ ⟨_, rfl, rfl, World.grownBy.refl _ _⟩
          · intro a w' hf he
            have k12 : a.tmps.getD 12 undef = .pointer (some ⟨w1.heap.size, 0, none⟩) := hf.var (by kernel_rfl) rfl
            have f2 : a.tmps.getD 82 undef = .bool false := he 2 (by kernel_rfl)
            rw [show kindRow _ _ = none from by kernel_rfl] at hf
            obtain ⟨q0, q1, q2, q3, q4, q5⟩ := Bx.cells6 ((hf.bel.block _ (heap_lt HX8.out)).trans HX8.out)
            refine wpOp_run rfl rfl rfl f2 (fun K hK => ?_)
            go_simp
            exact hK _ _ ⟨_, rfl, rfl, World.grownBy.refl _ _⟩
          · intro a w' hf he
            have f3 : a.tmps.getD 83 undef = .agg #[.int .i64 qk, .int .i64 qi, .int .i64 qo, .int .u64 Q, .bool qw, .slice A7 n7 c7] := he 3 (by kernel_rfl)
            have f2 : a.tmps.getD 82 undef = .bool false := he 2 (by kernel_rfl)
            rw [show kindRow _ _ = none from by kernel_rfl] at hf
            refine wpOp_run rfl rfl rfl f2 (fun K hK => ?_)
            go_simp
            (with_reducible refine (hby2 _ (H8.out.bel hf.bel)).mono ?_)
            rintro e w2 ⟨A2, n2, c2, rfl, ho2, hb2⟩
            exact hK _ _ ⟨_, rfl, ⟨_, _, _, rfl, ho2⟩, grown_bel hb2⟩
          · intro a w' hf he
            obtain ⟨A4, n4, c4, hv4, hr4⟩ := he 4 (by kernel_rfl)
            have f4 : a.tmps.getD 84 undef = _ := hv4
            have f2 : a.tmps.getD 82 undef = .bool false := he 2 (by kernel_rfl)
            rw [show kindRow _ _ = none from by kernel_rfl] at hf
            have hcv := run_str (P := Try.prog) w' 23 9 5 A4 n4 c4 b Try.underlying23 Try.underlying5 Try.underlying9 hr4
            refine wpOp_run rfl rfl rfl f2 (fun K hK => ?_)
            go_simp
            exact hK _ _ ⟨_, rfl, rfl, World.grownBy.refl _ _⟩
          · intro a w' hf he
            have k1 : a.tmps.getD 1 undef = .slice A0 n0 c0 := hf.var (by kernel_rfl) rfl
            have f2 : a.tmps.getD 82 undef = .bool false := he 2 (by kernel_rfl)
            refine wpOp_run rfl rfl rfl f2 (fun K hK => ?_)
            go_simp
            exact hK _ _ ⟨_, rfl, rfl, World.grownBy.refl _ _⟩
          · intro a w' hf he
            have f6 : a.tmps.getD 86 undef = .slice A0 n0 c0 := he 6 (by kernel_rfl)
            have f2 : a.tmps.getD 82 undef = .bool false := he 2 (by kernel_rfl)
            rw [show kindRow _ _ = none from by kernel_rfl] at hf
            have hcv := run_str (P := Try.prog) w' 23 9 5 A0 n0 c0 b Try.underlying23 Try.underlying5 Try.underlying9 (Hb8.out.bel hf.bel)
            refine wpOp_run rfl rfl rfl f2 (fun K hK => ?_)
            go_simp
            exact hK _ _ ⟨_, rfl, rfl, World.grownBy.refl _ _⟩
          · intro a w' hf he
            have f5 : a.tmps.getD 85 undef = .string ⟨b.toArray⟩ := he 5 (by kernel_rfl)
            have f7 : a.tmps.getD 87 undef = .string ⟨b.toArray⟩ := he 7 (by kernel_rfl)
            have f2 : a.tmps.getD 82 undef = .bool false := he 2 (by kernel_rfl)
            rw [show kindRow _ _ = none from by kernel_rfl] at hf
            refine wpOp_run rfl rfl rfl f2 (fun K hK => ?_)
            go_simp
            exact hK _ _ ⟨_, rfl, by simp, World.grownBy.refl _ _⟩
          · intro a w' hf he
            have f8 : a.tmps.getD 88 undef = .bool true := he 8 (by kernel_rfl)
            have f2 : a.tmps.getD 82 undef = .bool false := he 2 (by kernel_rfl)
            refine wpOp_run rfl rfl rfl f2 (fun K hK => ?_)
            go_simp
            exact hK _ _ ⟨_, rfl, rfl, World.grownBy.refl _ _⟩
          · intro a w' hf he
            have k12 : a.tmps.getD 12 undef = .pointer (some ⟨w1.heap.size, 0, none⟩) := hf.var (by kernel_rfl) rfl
            have f9 : a.tmps.getD 89 undef = .bool true := he 9 (by kernel_rfl)
            rw [show kindRow _ _ = none from by kernel_rfl] at hf
            obtain ⟨q0, q1, q2, q3, q4, q5⟩ := Bx.cells6 ((hf.bel.block _ (heap_lt HX8.out)).trans HX8.out)
            refine wpOp_run rfl rfl rfl f9 (fun K hK => ?_)
            go_simp
            exact hK _ _ ⟨_, rfl, rfl, World.grownBy.refl _ _⟩
          · intro a w' hf he
            have f10 : a.tmps.getD 90 undef = .agg #[.int .i64 qk, .int .i64 qi, .int .i64 qo, .int .u64 Q, .bool qw, .slice A7 n7 c7] := he 10 (by kernel_rfl)
            have f9 : a.tmps.getD 89 undef = .bool true := he 9 (by kernel_rfl)
            rw [show kindRow _ _ = none from by kernel_rfl] at hf
            refine wpOp_run rfl rfl rfl f9 (fun K hK => ?_)
            go_simp
            (with_reducible refine (hgd2 _).mono ?_)
            rintro e w2 ⟨rfl, hb2⟩
            exact hK _ _ ⟨_, rfl, rfl, grown_bel hb2⟩
          · intro a w' hf he
            have f9 : a.tmps.getD 89 undef = .bool true := he 9 (by kernel_rfl)
            have f11 : a.tmps.getD 91 undef = .bool true := he 11 (by kernel_rfl)
            have f2 : a.tmps.getD 82 undef = .bool false := he 2 (by kernel_rfl)
            refine wpOp_run rfl rfl rfl f2 (fun K hK => ?_)
            go_simp
            exact hK _ _ ⟨_, rfl, rfl, World.grownBy.refl _ _⟩
          · intro a w' hf he
            have f2 : a.tmps.getD 82 undef = .bool false := he 2 (by kernel_rfl)
            have f12 : a.tmps.getD 92 undef = .bool true := he 12 (by kernel_rfl)
            refine wpOp_step rfl (fun K hK => ?_)
            go_simp
            exact hK _ _ ⟨_, rfl, rfl, World.grownBy.refl _ _⟩
          · intro a w' hf he
            have f13 : a.tmps.getD 93 undef = .bool true := he 13 (by kernel_rfl)
            refine wpOp_step rfl (fun K hK => ?_)
            go_simp
            exact hK _ _ ⟨_, rfl, rfl, World.grownBy.refl _ _⟩
          · intro a w' hf he
            have f14 : a.tmps.getD 94 undef = .bool true := he 14 (by kernel_rfl)
            rw [show kindRow _ _ = none from by kernel_rfl] at hf
            refine wpOp_run rfl rfl rfl f14 (fun K hK => ?_)
            go_simp
            refine (c_lives _).mono ?_
            rintro e w2 ⟨rfl, hb2⟩
            exact hK _ _ ⟨_, rfl, rfl, grown_bel hb2⟩
          · intro a w' hf he
            have f14 : a.tmps.getD 94 undef = .bool true := he 14 (by kernel_rfl)
            have f15 : a.tmps.getD 95 undef = .bool true := he 15 (by kernel_rfl)
            refine wpOp_step rfl (fun K hK => ?_)
            go_simp
            exact hK _ _ ⟨_, rfl, rfl, World.grownBy.refl _ _⟩
        · intro a w' hf he
          obtain ⟨u80, f0⟩ : ∃ u, a.tmps.getD 80 undef = u := ⟨_, rfl⟩
          obtain ⟨u81, f1⟩ : ∃ u, a.tmps.getD 81 undef = u := ⟨_, rfl⟩
          obtain ⟨u82, f2⟩ : ∃ u, a.tmps.getD 82 undef = u := ⟨_, rfl⟩
          obtain ⟨u83, f3⟩ : ∃ u, a.tmps.getD 83 undef = u := ⟨_, rfl⟩
          obtain ⟨u84, f4⟩ : ∃ u, a.tmps.getD 84 undef = u := ⟨_, rfl⟩
          obtain ⟨u85, f5⟩ : ∃ u, a.tmps.getD 85 undef = u := ⟨_, rfl⟩
          obtain ⟨u86, f6⟩ : ∃ u, a.tmps.getD 86 undef = u := ⟨_, rfl⟩
          obtain ⟨u87, f7⟩ : ∃ u, a.tmps.getD 87 undef = u := ⟨_, rfl⟩
          obtain ⟨u88, f8⟩ : ∃ u, a.tmps.getD 88 undef = u := ⟨_, rfl⟩
          obtain ⟨u89, f9⟩ : ∃ u, a.tmps.getD 89 undef = u := ⟨_, rfl⟩
          obtain ⟨u90, f10⟩ : ∃ u, a.tmps.getD 90 undef = u := ⟨_, rfl⟩
          obtain ⟨u91, f11⟩ : ∃ u, a.tmps.getD 91 undef = u := ⟨_, rfl⟩
          obtain ⟨u92, f12⟩ : ∃ u, a.tmps.getD 92 undef = u := ⟨_, rfl⟩
          obtain ⟨u93, f13⟩ : ∃ u, a.tmps.getD 93 undef = u := ⟨_, rfl⟩
          obtain ⟨u94, f14⟩ : ∃ u, a.tmps.getD 94 undef = u := ⟨_, rfl⟩
          obtain ⟨u95, f15⟩ : ∃ u, a.tmps.getD 95 undef = u := ⟨_, rfl⟩
          have f16 : a.tmps.getD 96 undef = .bool true := he 16 (by decide)
          have hlit := hf.lit ((80, u80) :: (81, u81) :: (82, u82) :: (83, u83) :: (84, u84) :: (85, u85) :: (86, u86) :: (87, u87) :: (88, u88) :: (89, u89) :: (90, u90) :: (91, u91) :: (92, u92) :: (93, u93) :: (94, u94) :: (95, u95) :: (96, .bool true) :: []) (by kernel_rfl) ⟨f0, f1, f2, f3, f4, f5, f6, f7, f8, f9, f10, f11, f12, f13, f14, f15, f16, trivial⟩
          have hB := hf.bel
          clear he hf f0 f1 f2 f3 f4 f5 f6 f7 f8 f9 f10 f11 f12 f13 f14 f15 f16 
          subst hlit
          simp only [putAll_nil, putAll_cons, Act.put, List.setIfInBounds_toArray, List.set_cons_zero, List.set_cons_succ]
          simp only [List.drop_succ_cons, List.drop_zero]
          go_wp2_with fail
          go_ret
          exact ⟨rfl, HB8.out.trans (hB.mono HB8.out.size)⟩
      · have hne : ((er : Int) != 0) = true := by simp; omega
        refine wp_region_phi (by kernel_rfl) 17 none (fun _ => false) (fun i_ v wz => match i_ with
          | 0 => v = .int .i64 (er : Int)
          | 1 => v = .bool true
          | 2 => v = .bool true
          | 3 => v = undef
          | 4 => v = undef
          | 5 => v = undef
          | 6 => v = undef
          | 7 => v = undef
          | 8 => v = undef
          | 9 => v = undef
          | 10 => v = undef
          | 11 => v = undef
          | 12 => v = undef
          | 13 => v = .bool true
          | 14 => v = .bool true
          | 15 => v = .bool true
          | 16 => v = .bool true
          | _ => True) (by kernel_rfl) ?_ ?_ ?_
        · (repeat' (first | exact allLt_zero | refine allLt_succ ?_ ?_))
          · exact fun _ _ _ h _ => h
          · exact fun _ _ _ h _ => h
          · exact fun _ _ _ h _ => h
          · exact fun _ _ _ h _ => h
          · exact fun _ _ _ h _ => h
          · exact fun _ _ _ h _ => h
          · exact fun _ _ _ h _ => h
          · exact fun _ _ _ h _ => h
          · exact fun _ _ _ h _ => h
          · exact fun _ _ _ h _ => h
          · exact fun _ _ _ h _ => h
          · exact fun _ _ _ h _ => h
          · exact fun _ _ _ h _ => h
          · exact fun _ _ _ h _ => h
          · exact fun _ _ _ h _ => h
          · exact fun _ _ _ h _ => h
          · exact fun _ _ _ h _ => h
        · (repeat' (first | exact allLt_zero | refine allLt_succ ?_ ?_))
          · intro a w' hf he
            have k13 : a.tmps.getD 13 undef = .int .i64 (er : Int) := hf.var (by kernel_rfl) rfl
            refine wpOp_step rfl (fun K hK => ?_)
            go_simp
            exact hK _ _ ⟨_, rfl, rfl, World.grownBy.refl _ _⟩
          · intro a w' hf he
            have f0 : a.tmps.getD 80 undef = .int .i64 (er : Int) := he 0 (by kernel_rfl)
            rw [show kindRow _ _ = none from by kernel_rfl] at hf
            refine wpOp_step rfl (fun K hK => ?_)
            go_simp
            (try rw [hne])
            exact hK _ _ ⟨_, rfl, rfl, World.grownBy.refl _ _⟩
          · intro a w' hf he
            have f1 : a.tmps.getD 81 undef = .bool true := he 1 (by kernel_rfl)
            refine wpOp_step rfl (fun K hK => ?_)
            go_simp
            exact hK _ _ ⟨_, rfl, rfl, World.grownBy.refl _ _⟩
          · intro a w' hf he
            have f2 : a.tmps.getD 82 undef = .bool true := he 2 (by kernel_rfl)
            exact wpOp_pass rfl rfl rfl f2 rfl ⟨_, rfl, rfl, World.grownBy.refl _ _⟩
          · intro a w' hf he
            have f2 : a.tmps.getD 82 undef = .bool true := he 2 (by kernel_rfl)
            exact wpOp_pass rfl rfl rfl f2 rfl ⟨_, rfl, rfl, World.grownBy.refl _ _⟩
          · intro a w' hf he
            have f2 : a.tmps.getD 82 undef = .bool true := he 2 (by kernel_rfl)
            exact wpOp_pass rfl rfl rfl f2 rfl ⟨_, rfl, rfl, World.grownBy.refl _ _⟩
          · intro a w' hf he
            have f2 : a.tmps.getD 82 undef = .bool true := he 2 (by kernel_rfl)
            exact wpOp_pass rfl rfl rfl f2 rfl ⟨_, rfl, rfl, World.grownBy.refl _ _⟩
          · intro a w' hf he
            have f2 : a.tmps.getD 82 undef = .bool true := he 2 (by kernel_rfl)
            exact wpOp_pass rfl rfl rfl f2 rfl ⟨_, rfl, rfl, World.grownBy.refl _ _⟩
          · intro a w' hf he
            have f2 : a.tmps.getD 82 undef = .bool true := he 2 (by kernel_rfl)
            exact wpOp_pass rfl rfl rfl f2 rfl ⟨_, rfl, rfl, World.grownBy.refl _ _⟩
          · intro a w' hf he
            have f2 : a.tmps.getD 82 undef = .bool true := he 2 (by kernel_rfl)
            exact wpOp_pass rfl rfl rfl f2 rfl ⟨_, rfl, rfl, World.grownBy.refl _ _⟩
          · intro a w' hf he
            have f9 : a.tmps.getD 89 undef = undef := he 9 (by kernel_rfl)
            exact wpOp_pass2 rfl rfl rfl f9 ⟨_, rfl, rfl, World.grownBy.refl _ _⟩
          · intro a w' hf he
            have f9 : a.tmps.getD 89 undef = undef := he 9 (by kernel_rfl)
            exact wpOp_pass2 rfl rfl rfl f9 ⟨_, rfl, rfl, World.grownBy.refl _ _⟩
          · intro a w' hf he
            have f2 : a.tmps.getD 82 undef = .bool true := he 2 (by kernel_rfl)
            exact wpOp_pass rfl rfl rfl f2 rfl ⟨_, rfl, rfl, World.grownBy.refl _ _⟩
          · intro a w' hf he
            have f2 : a.tmps.getD 82 undef = .bool true := he 2 (by kernel_rfl)
            have f12 : a.tmps.getD 92 undef = undef := he 12 (by kernel_rfl)
            refine wpOp_step rfl (fun K hK => ?_)
            go_simp
            exact hK _ _ ⟨_, rfl, rfl, World.grownBy.refl _ _⟩
          · intro a w' hf he
            have f13 : a.tmps.getD 93 undef = .bool true := he 13 (by kernel_rfl)
            refine wpOp_step rfl (fun K hK => ?_)
            go_simp
            exact hK _ _ ⟨_, rfl, rfl, World.grownBy.refl _ _⟩
          · intro a w' hf he
            have f14 : a.tmps.getD 94 undef = .bool true := he 14 (by kernel_rfl)
            rw [show kindRow _ _ = none from by kernel_rfl] at hf
            refine wpOp_run rfl rfl rfl f14 (fun K hK => ?_)
            go_simp
            refine (c_lives _).mono ?_
            rintro e w2 ⟨rfl, hb2⟩
            exact hK _ _ ⟨_, rfl, rfl, grown_bel hb2⟩
          · intro a w' hf he
            have f14 : a.tmps.getD 94 undef = .bool true := he 14 (by kernel_rfl)
            have f15 : a.tmps.getD 95 undef = .bool true := he 15 (by kernel_rfl)
            refine wpOp_step rfl (fun K hK => ?_)
            go_simp
            exact hK _ _ ⟨_, rfl, rfl, World.grownBy.refl _ _⟩
        · intro a w' hf he
          obtain ⟨u80, f0⟩ : ∃ u, a.tmps.getD 80 undef = u := ⟨_, rfl⟩
          obtain ⟨u81, f1⟩ : ∃ u, a.tmps.getD 81 undef = u := ⟨_, rfl⟩
          obtain ⟨u82, f2⟩ : ∃ u, a.tmps.getD 82 undef = u := ⟨_, rfl⟩
          obtain ⟨u83, f3⟩ : ∃ u, a.tmps.getD 83 undef = u := ⟨_, rfl⟩
          obtain ⟨u84, f4⟩ : ∃ u, a.tmps.getD 84 undef = u := ⟨_, rfl⟩
          obtain ⟨u85, f5⟩ : ∃ u, a.tmps.getD 85 undef = u := ⟨_, rfl⟩
          obtain ⟨u86, f6⟩ : ∃ u, a.tmps.getD 86 undef = u := ⟨_, rfl⟩
          obtain ⟨u87, f7⟩ : ∃ u, a.tmps.getD 87 undef = u := ⟨_, rfl⟩
          obtain ⟨u88, f8⟩ : ∃ u, a.tmps.getD 88 undef = u := ⟨_, rfl⟩
          obtain ⟨u89, f9⟩ : ∃ u, a.tmps.getD 89 undef = u := ⟨_, rfl⟩
          obtain ⟨u90, f10⟩ : ∃ u, a.tmps.getD 90 undef = u := ⟨_, rfl⟩
          obtain ⟨u91, f11⟩ : ∃ u, a.tmps.getD 91 undef = u := ⟨_, rfl⟩
          obtain ⟨u92, f12⟩ : ∃ u, a.tmps.getD 92 undef = u := ⟨_, rfl⟩
          obtain ⟨u93, f13⟩ : ∃ u, a.tmps.getD 93 undef = u := ⟨_, rfl⟩
          obtain ⟨u94, f14⟩ : ∃ u, a.tmps.getD 94 undef = u := ⟨_, rfl⟩
          obtain ⟨u95, f15⟩ : ∃ u, a.tmps.getD 95 undef = u := ⟨_, rfl⟩
          have f16 : a.tmps.getD 96 undef = .bool true := he 16 (by decide)
          have hlit := hf.lit ((80, u80) :: (81, u81) :: (82, u82) :: (83, u83) :: (84, u84) :: (85, u85) :: (86, u86) :: (87, u87) :: (88, u88) :: (89, u89) :: (90, u90) :: (91, u91) :: (92, u92) :: (93, u93) :: (94, u94) :: (95, u95) :: (96, .bool true) :: []) (by kernel_rfl) ⟨f0, f1, f2, f3, f4, f5, f6, f7, f8, f9, f10, f11, f12, f13, f14, f15, f16, trivial⟩
          have hB := hf.bel
          clear he hf f0 f1 f2 f3 f4 f5 f6 f7 f8 f9 f10 f11 f12 f13 f14 f15 f16 
          subst hlit
          simp only [putAll_nil, putAll_cons, Act.put, List.setIfInBounds_toArray, List.set_cons_zero, List.set_cons_succ]
          simp only [List.drop_succ_cons, List.drop_zero]
          go_wp2_with fail
          go_ret
          exact ⟨rfl, HB8.out.trans (hB.mono HB8.out.size)⟩
end Go.Proofs.Ytdpggcpbgfancaa.Pack
