/- The law DirtyActs, walked. Conditions: none. -/
import Derived.Test.YtaldlapnhhhclaaGreatAct3
set_option linter.unusedVariables false
set_option linter.unusedSimpArgs false
namespace Go.Proofs.YtaldlapnhhhclaaGreat.Dirty
open Go.RowKit Tw Disk Slots Act3
set_option maxHeartbeats 8000000
set_option maxRecDepth 100000
theorem w_DirtyActs (n : Int) (A : Option Addr) (nl cb : Nat) (rows : List (List Value)) (w : World) (hr : SlRows w 3 A nl cb rows) (hro : ∀ (i : Nat) (r : List Value), rows[i]? = some r → RowOk w ActL r) :
    Calls Tryz.prog 4 #[.int .i64 n, .slice A nl cb] w fun e w' => e = .returned (.bool true) ∧ Below w.heap.size w w' := by
  have HBq := Lib.hid (Below.refl w.heap.size w)
  have Hr := Lib.hid hr
  have Hro := Lib.hid hro
  clear hr hro
  go_enter Tryz.func4, Tryz.ntmps4
  by_cases h1 : n < 1
  · skip
    go_wp2_with (first
      | (go_at_call 16; (with_reducible refine (c_lives _).mono ?_); rintro e w5 ⟨rfl, b5⟩))
    go_ret
    exact ⟨rfl, HBq.out.trans (b5.mono HBq.out.size)⟩
  by_cases h2 : 20 < n
  · skip
    go_wp2_with (first
      | (go_at_call 16; (with_reducible refine (c_lives _).mono ?_); rintro e w5 ⟨rfl, b5⟩))
    go_ret
    exact ⟨rfl, HBq.out.trans (b5.mono HBq.out.size)⟩
  by_cases h3 : 50 < nl
  · skip
    go_wp2_with (first
      | (go_at_call 16; (with_reducible refine (c_lives _).mono ?_); rintro e w5 ⟨rfl, b5⟩))
    go_ret
    exact ⟨rfl, HBq.out.trans (b5.mono HBq.out.size)⟩
  obtain ⟨N, rfl⟩ : ∃ q : Nat, n = (q : Int) := ⟨n.toNat, by omega⟩
  have hN1 : 1 ≤ N := by omega
  have hN2 : N ≤ 20 := by omega
  have hnl : nl ≤ 50 := by omega
  clear h1 h2 h3
  go_wp2_with (first
    | (go_at_call 17
       (with_reducible refine (c_dNewI' (N : Int) N rfl _ hN1 (by omega)).mono ?_)
       rintro e w1 ⟨p, g, mb, rfl, hk, hge, hb1⟩
       have HB := Lib.hid (HBq.out.trans (hb1.mono HBq.out.size))
       have HK := Lib.hid hk
       have HG : Hid (w.heap.size ≤ p ∧ w.heap.size ≤ g ∧ w.heap.size ≤ mb) := Lib.hid (by have := HBq.out.size; omega)
       clear hb1 hk hge)
    | (go_at_call 18
       (with_reducible refine (r_New N _ hN1 (by omega)).mono ?_)
       rintro e w2 ⟨q, r, c', rfl, hk2, hge2, hb2⟩
       have hlk := HK.out.lts
       have HP : Hid (Pr w2 p g mb N q r c' (Dsk.new N)) := Lib.hid ⟨HK.out.bel hb2, hk2, by omega⟩
       have HG2 : Hid (w.heap.size ≤ q ∧ w.heap.size ≤ r) := Lib.hid (by have := HB.out.size; omega)
       have HB := Lib.hid (HB.out.trans (hb2.mono HB.out.size))
       clear hk2 hge2 hb2 hlk HK))
  have hops0 : Hid ((Dsk.new N).ops ≤ 2 * 0) := Lib.hid (Nat.le_refl _)
  generalize Dsk.new N = D0 at *
  go_loopw [39] (fun v wr => ∃ (i : Nat) (D : Dsk), i ≤ nl ∧ v = .int .i64 (i : Int) ∧ Hid (Pr wr p g mb N q r c' D) ∧ Hid (D.ops ≤ 2 * i) ∧ Hid (Below w.heap.size w wr)) (fun v _ => nl - (intOf v).toNat)
  case atStart => exact ⟨0, D0, Nat.zero_le _, rfl, HP, hops0, HB⟩
  case round =>
    clear HP HB hops0
    obtain ⟨i, D, hi, rfl, HP, HO, HB⟩ := hrel
    by_cases hin : i < nl
    · obtain ⟨ad, rw_, rfl, hri, hrl, hcell⟩ := Hr.out.at hin
      obtain ⟨k, av, m2, rfl, ha, hm2⟩ := act_of (Hro.out i rw_ hri)
      have ho : Hid (D.ops + 1 < 1000000000) := Lib.hid (by have := HO.out; omega)
      have hhb : ∀ j v, (actV k av m2)[j]? = some v → wr.cell? ((ad.add (i * 3)).add j) = some v := fun j v hv => by
        have hc := hcell j v hv
        rw [HB.out.cell (block_lt_of_cell hc)]
        exact hc
      have Hcs := Lib.hid hhb
      have Hdl : Hid ((actV k av m2).toArray.size = 3) := Lib.hid (by simpa using hrl)
      have HY := Lib.hid (heap_alloc_new wr (.cells act0 48))
      have HYB := Lib.hid ((Below.refl wr.heap.size wr).alloc (Nat.le_refl _) (.cells act0 48))
      have hlp := HP.out.dk.lts
      have hlr := HP.out.rk.lts
      have hne := HP.out.ne
      have HL := Lib.hid (And.intro hlp hlr)
      unfold act0 at HY HYB
      clear hri hrl hcell hhb
      go_upto_block 2 with (first
        | (refine wpL_load_rd rfl 48 (.tmp 41) rfl (ad.add (i * 3)) rfl (actV k av m2) _ Hcs.out Tryz.underlying48 rfl (by rw [← List.size_toArray, Hdl.out]; kernel_rfl) ?_)
        | (refine wpL_store_all rfl rfl 48 (.tmp 10) (.tmp 42) rfl _ rfl _ rfl _ _ HY.out (by rw [Hdl.out]; kernel_rfl) (by rw [Hdl.out]; rfl) act_one ?_
           intro w8 x8 g8
           have hb8 := HYB.out.grown g8 HYB.out.size (by rintro k ⟨⟩; exact Nat.le_refl _)
           have HP := Lib.hid (HP.out.bel hb8)
           have HB := Lib.hid (HB.out.trans (hb8.mono HB.out.size))
           obtain ⟨e0, e1, e2⟩ := act4 x8
           have X8 := Lib.hid x8
           clear x8 g8 HY HYB hb8 Hcs)
        )
      have hsz8 := HB.out.size
      have hxl := heap_lt X8.out
      have hpl := HL.out
      generalize wr.heap.size = Bx at *
      by_cases z0 : k = 0
      · subst z0
        go_wp2_with fail
        refine wp_region_fr (by kernel_rfl) 9 (fun i_ => match i_ with | 3 => 1 | 7 => 2 | _ => 0) (fun c_ => match c_ with | 1 => fun k => k = p ∨ k = g ∨ k = mb | 2 => fun k => k = q ∨ k = r | _ => fun _ => False) (fun i_ => match i_ with | 0 => [1, 2] | 1 => [1, 2] | 2 => [1, 2] | 3 => [2] | 4 => [1, 2] | 5 => [1, 2] | 6 => [1, 2] | _ => []) (fun i_ => match i_ with | 4 => [1] | 5 => [1] | 6 => [1] | 7 => [1] | 8 => [1, 2] | _ => []) [1, 2] (fun i_ v wz => match i_ with
          | 0 => v = .pointer (some ⟨p, 0, none⟩)
          | 1 => v = .pointer (some ⟨Bx, 2, none⟩)
          | 2 => v = .int .u64 (m2 : Int)
          | 3 => v = .int .i64 ((dput D m2).2 : Int) ∧ Dk wz p g mb N (dput D m2).1
          | 4 => v = .pointer (some ⟨q, 0, none⟩)
          | 5 => v = .pointer (some ⟨Bx, 2, none⟩)
          | 6 => v = .int .u64 (m2 : Int)
          | 7 => v = .int .i64 ((dput D m2).2 : Int) ∧ Rk wz q r c' (dput D m2).1
          | 8 => v = .bool false
          | _ => True) (by kernel_rfl) (by kernel_rfl) ?_ ?_ ?_
        · (repeat' (first | exact allLt_zero | refine allLt_succ ?_ ?_))
          · exact fun _ _ _ h _ => h
          · exact fun _ _ _ h _ => h
          · exact fun _ _ _ h _ => h
          · intro v w1 w2 h hg
            replace hg : Fr (fun k => (fun k => k = q ∨ k = r) k ∨ False) w1 w2 := hg
            replace hg := hg.un1
            exact ⟨h.1, dkfr hne h.2 hg⟩
          · exact fun _ _ _ h _ => h
          · exact fun _ _ _ h _ => h
          · exact fun _ _ _ h _ => h
          · intro v w1 w2 h hg
            replace hg : Fr (fun k => False) w1 w2 := hg
            exact ⟨h.1, h.2.fr hg (fun e => e) (fun e => e)⟩
          · exact fun _ _ _ h _ => h
        · (repeat' (first | exact allLt_zero | refine allLt_succ ?_ ?_))
          · intro a w' hf he
            have k5 : a.tmps.getD 5 undef = .pointer (some ⟨p, 0, none⟩) := hf.var (by kernel_rfl) rfl
            refine wpOp_step rfl (fun K hK => ?_)
            go_simp
            exact hK _ _ ⟨_, rfl, rfl, Fr.refl _ _⟩
          · intro a w' hf he
            have k10 : a.tmps.getD 10 undef = .pointer (some ⟨Bx, 0, none⟩) := hf.var (by kernel_rfl) rfl
            have hfr : Fr (fun k => False) _ w' := hf.of_start
            refine wpOp_step rfl (fun K hK => ?_)
            go_simp
            exact hK _ _ ⟨_, rfl, rfl, Fr.refl _ _⟩
          · intro a w' hf he
            have f1 : a.tmps.getD 48 undef = .pointer (some ⟨Bx, 2, none⟩) := he 1 (by kernel_rfl)
            have hfr : Fr (fun k => False) _ w' := hf.of_start
            have hx := heap_fr X8.out hfr (by first | exact fun e => e | (intro e; simp only [or_false] at e; omega) | omega)
            have dd := (act4 hx).2.2
            clear hx
            refine wpOp_step rfl (fun K hK => ?_)
            go_simp
            exact hK _ _ ⟨_, rfl, rfl, Fr.refl _ _⟩
          · intro a w' hf he
            have f0 : a.tmps.getD 47 undef = .pointer (some ⟨p, 0, none⟩) := he 0 (by kernel_rfl)
            have f2 : a.tmps.getD 49 undef = .int .u64 (m2 : Int) := he 2 (by kernel_rfl)
            have hfr : Fr (fun k => False) _ w' := hf.of_start
            have hd := HP.out.dk.fr hfr (fun e => e) (fun e => e) (fun e => e)
            refine wpOp_step rfl (fun K hK => ?_)
            go_simp
            refine (c_PutE hd ho.out _ m2 rfl hm2).mono ?_
            rintro e w2 ⟨rfl, hk2, f2⟩
            exact hK _ _ ⟨_, rfl, ⟨rfl, hk2⟩, f2.mono (fun k _ e => .inl e)⟩
          · intro a w' hf he
            have k7 : a.tmps.getD 7 undef = .pointer (some ⟨q, 0, none⟩) := hf.var (by kernel_rfl) rfl
            refine wpOp_step rfl (fun K hK => ?_)
            go_simp
            exact hK _ _ ⟨_, rfl, rfl, Fr.refl _ _⟩
          · intro a w' hf he
            have k10 : a.tmps.getD 10 undef = .pointer (some ⟨Bx, 0, none⟩) := hf.var (by kernel_rfl) rfl
            have hfr : Fr (fun k => (fun k => k = p ∨ k = g ∨ k = mb) k ∨ False) _ w' := hf.of_start
            replace hfr := hfr.un1
            refine wpOp_step rfl (fun K hK => ?_)
            go_simp
            exact hK _ _ ⟨_, rfl, rfl, Fr.refl _ _⟩
          · intro a w' hf he
            have f5 : a.tmps.getD 52 undef = .pointer (some ⟨Bx, 2, none⟩) := he 5 (by kernel_rfl)
            have hfr : Fr (fun k => (fun k => k = p ∨ k = g ∨ k = mb) k ∨ False) _ w' := hf.of_start
            replace hfr := hfr.un1
            have hx := heap_fr X8.out hfr (by first | exact fun e => e | (intro e; simp only [or_false] at e; omega) | omega)
            have dd := (act4 hx).2.2
            clear hx
            refine wpOp_step rfl (fun K hK => ?_)
            go_simp
            exact hK _ _ ⟨_, rfl, rfl, Fr.refl _ _⟩
          · intro a w' hf he
            have f4 : a.tmps.getD 51 undef = .pointer (some ⟨q, 0, none⟩) := he 4 (by kernel_rfl)
            have f6 : a.tmps.getD 53 undef = .int .u64 (m2 : Int) := he 6 (by kernel_rfl)
            have hfr : Fr (fun k => (fun k => k = p ∨ k = g ∨ k = mb) k ∨ False) _ w' := hf.of_start
            replace hfr := hfr.un1
            have hd := rkfr hne HP.out.rk hfr
            refine wpOp_step rfl (fun K hK => ?_)
            go_simp
            refine (r_dPut hd ho.out m2 hm2).mono ?_
            rintro e w2 ⟨rfl, hk2, f2⟩
            exact hK _ _ ⟨_, rfl, ⟨rfl, hk2⟩, f2.mono (fun k _ e => .inl e)⟩
          · intro a w' hf he
            obtain ⟨hv3, hk3⟩ := he 3 (by kernel_rfl)
            have f3 : a.tmps.getD 50 undef = _ := hv3
            obtain ⟨hv7, hk7⟩ := he 7 (by kernel_rfl)
            have f7 : a.tmps.getD 54 undef = _ := hv7
            have hfr : Fr (fun k => (fun k => k = p ∨ k = g ∨ k = mb) k ∨ (fun k => k = q ∨ k = r) k ∨ False) _ w' := hf.of_start
            refine wpOp_step rfl (fun K hK => ?_)
            go_simp
            exact hK _ _ ⟨_, rfl, rfl, Fr.refl _ _⟩
        · intro a w' hf he
          obtain ⟨u47, f0⟩ : ∃ u, a.tmps.getD 47 undef = u := ⟨_, rfl⟩
          obtain ⟨u48, f1⟩ : ∃ u, a.tmps.getD 48 undef = u := ⟨_, rfl⟩
          obtain ⟨u49, f2⟩ : ∃ u, a.tmps.getD 49 undef = u := ⟨_, rfl⟩
          obtain ⟨hv3, hk3⟩ := he 3 (by decide)
          have f3 : a.tmps.getD 50 undef = _ := hv3
          obtain ⟨u51, f4⟩ : ∃ u, a.tmps.getD 51 undef = u := ⟨_, rfl⟩
          obtain ⟨u52, f5⟩ : ∃ u, a.tmps.getD 52 undef = u := ⟨_, rfl⟩
          obtain ⟨u53, f6⟩ : ∃ u, a.tmps.getD 53 undef = u := ⟨_, rfl⟩
          obtain ⟨hv7, hk7⟩ := he 7 (by decide)
          have f7 : a.tmps.getD 54 undef = _ := hv7
          have f8 : a.tmps.getD 55 undef = .bool false := he 8 (by decide)
          have hlit := hf.lit ((47, u47) :: (48, u48) :: (49, u49) :: (50, _) :: (51, u51) :: (52, u52) :: (53, u53) :: (54, _) :: (55, .bool false) :: []) (by kernel_rfl) ⟨f0, f1, f2, f3, f4, f5, f6, f7, f8, trivial⟩
          have hB : Fr (fun k => (fun k => k = p ∨ k = g ∨ k = mb) k ∨ (fun k => k = q ∨ k = r) k ∨ False) _ w' := hf.of_start
          clear he hf f0 f1 f2 f3 f4 f5 f6 f7 f8 hv3 hv7
          subst hlit
          simp only [putAll_nil, putAll_cons, Act.put, List.setIfInBounds_toArray, List.set_cons_zero, List.set_cons_succ]
          simp only [List.drop_succ_cons, List.drop_zero]
          have HP' := Lib.hid (Pr.mk hk3 hk7 hne)
          have HB' := Lib.hid (pr_bel HB.out HG.out HG2.out hB (fun k e => by simp only [or_false] at e; omega))
          have HOn : Hid ((dput D m2).1.ops ≤ 2 * (i + 1)) := Lib.hid (by have := rput_ops 6 2 D m2; have := HO.out; show (rput 6 2 D m2).1.ops ≤ _; omega)
          clear hk3 hk7 hB e0 e1 e2
          go_upto_region 23 with fail
          obtain ⟨D', hD'⟩ : ∃ D', D' = (dput D m2).1 := ⟨_, rfl⟩
          rw [← hD'] at HP'
          have HO' : Hid (D'.ops ≤ 2 * (i + 1)) := Lib.hid (by rw [hD']; exact HOn.out)
          clear hD' HOn HP
          have hGd := fun w (h : Dk w p g mb N D') => c_GetE h
          have hGr := fun w (h : Rk w q r c' D') => r_dGet h
          obtain ⟨⟨l1, l2⟩, hl⟩ : ∃ r, latest D' 6 2 = r := ⟨_, rfl⟩
          rw [hl] at hGd hGr
          simp only at hGd hGr
          clear hl
          refine wp_region_phi (by kernel_rfl) 14 none (fun _ => false) (fun i_ v wz => match i_ with
            | 0 => v = .pointer (some ⟨p, 0, none⟩)
            | 1 => v = .int .u64 (l2 : Int)
            | 2 => v = .pointer (some ⟨q, 0, none⟩)
            | 3 => v = .int .u64 (l2 : Int)
            | 4 => v = .bool false
            | 5 => v = .bool false
            | 6 => v = .pointer (some ⟨p, 0, none⟩)
            | 7 => v = .int .i64 (D'.ops : Int)
            | 8 => v = .pointer (some ⟨q, 0, none⟩)
            | 9 => v = .pointer (some ⟨q, 0, none⟩)
            | 10 => v = .pointer (some ⟨q, 3, none⟩)
            | 11 => v = .int .i64 (D'.ops : Int)
            | 12 => v = .bool false
            | 13 => v = .bool false
            | _ => True) (by kernel_rfl) ?_ ?_ ?_
          · (repeat' (first | exact allLt_zero | refine allLt_succ ?_ ?_))
            · exact fun _ _ _ h _ => h
            · exact fun _ _ _ h _ => h
            · exact fun _ _ _ h _ => h
            · exact fun _ _ _ h _ => h
            · exact fun _ _ _ h _ => h
            · exact fun _ _ _ h _ => h
            · exact fun _ _ _ h _ => h
            · exact fun _ _ _ h _ => h
            · exact fun _ _ _ h _ => h
            · exact fun _ _ _ h _ => h
            · exact fun _ _ _ h _ => h
            · exact fun _ _ _ h _ => h
            · exact fun _ _ _ h _ => h
            · exact fun _ _ _ h _ => h
          · (repeat' (first | exact allLt_zero | refine allLt_succ ?_ ?_))
            · intro a w' hf he
              have k5 : a.tmps.getD 5 undef = .pointer (some ⟨p, 0, none⟩) := hf.var (by kernel_rfl) rfl
              refine wpOp_step rfl (fun K hK => ?_)
              go_simp
              exact hK _ _ ⟨_, rfl, rfl, World.grownBy.refl _ _⟩
            · intro a w' hf he
              have f0 : a.tmps.getD 100 undef = .pointer (some ⟨p, 0, none⟩) := he 0 (by kernel_rfl)
              rw [show kindRow _ _ = none from by kernel_rfl] at hf
              refine wpOp_step rfl (fun K hK => ?_)
              go_simp
              refine (hGd _ (HP'.out.dk.bel hf.bel)).mono ?_
              rintro e w2 ⟨rfl, hb2⟩
              exact hK _ _ ⟨_, rfl, rfl, grown_bel hb2⟩
            · intro a w' hf he
              have k7 : a.tmps.getD 7 undef = .pointer (some ⟨q, 0, none⟩) := hf.var (by kernel_rfl) rfl
              refine wpOp_step rfl (fun K hK => ?_)
              go_simp
              exact hK _ _ ⟨_, rfl, rfl, World.grownBy.refl _ _⟩
            · intro a w' hf he
              have f2 : a.tmps.getD 102 undef = .pointer (some ⟨q, 0, none⟩) := he 2 (by kernel_rfl)
              rw [show kindRow _ _ = none from by kernel_rfl] at hf
              refine wpOp_step rfl (fun K hK => ?_)
              go_simp
              refine (hGr _ (HP'.out.rk.bel hf.bel)).mono ?_
              rintro e w2 ⟨rfl, hb2⟩
              exact hK _ _ ⟨_, rfl, rfl, grown_bel hb2⟩
            · intro a w' hf he
              have f1 : a.tmps.getD 101 undef = .int .u64 (l2 : Int) := he 1 (by kernel_rfl)
              have f3 : a.tmps.getD 103 undef = .int .u64 (l2 : Int) := he 3 (by kernel_rfl)
              refine wpOp_step rfl (fun K hK => ?_)
              go_simp
              exact hK _ _ ⟨_, rfl, rfl, World.grownBy.refl _ _⟩
            · intro a w' hf he
              have f4 : a.tmps.getD 104 undef = .bool false := he 4 (by kernel_rfl)
              refine wpOp_step rfl (fun K hK => ?_)
              go_simp
              exact hK _ _ ⟨_, rfl, rfl, World.grownBy.refl _ _⟩
            · intro a w' hf he
              have k5 : a.tmps.getD 5 undef = .pointer (some ⟨p, 0, none⟩) := hf.var (by kernel_rfl) rfl
              have f5 : a.tmps.getD 105 undef = .bool false := he 5 (by kernel_rfl)
              refine wpOp_run rfl rfl rfl f5 (fun K hK => ?_)
              go_simp
              exact hK _ _ ⟨_, rfl, rfl, World.grownBy.refl _ _⟩
            · intro a w' hf he
              have f6 : a.tmps.getD 106 undef = .pointer (some ⟨p, 0, none⟩) := he 6 (by kernel_rfl)
              have f5 : a.tmps.getD 105 undef = .bool false := he 5 (by kernel_rfl)
              rw [show kindRow _ _ = none from by kernel_rfl] at hf
              refine wpOp_run rfl rfl rfl f5 (fun K hK => ?_)
              go_simp
              refine (c_Ops (HP'.out.dk.bel hf.bel)).mono ?_
              rintro e w2 ⟨rfl, rfl⟩
              exact hK _ _ ⟨_, rfl, rfl, World.grownBy.refl _ _⟩
            · intro a w' hf he
              have k7 : a.tmps.getD 7 undef = .pointer (some ⟨q, 0, none⟩) := hf.var (by kernel_rfl) rfl
              have f5 : a.tmps.getD 105 undef = .bool false := he 5 (by kernel_rfl)
              refine wpOp_run rfl rfl rfl f5 (fun K hK => ?_)
              go_simp
              exact hK _ _ ⟨_, rfl, rfl, World.grownBy.refl _ _⟩
            · intro a w' hf he
              have f8 : a.tmps.getD 108 undef = .pointer (some ⟨q, 0, none⟩) := he 8 (by kernel_rfl)
              have f5 : a.tmps.getD 105 undef = .bool false := he 5 (by kernel_rfl)
              refine wpOp_run rfl rfl rfl f5 (fun K hK => ?_)
              go_simp
              exact hK _ _ ⟨_, rfl, rfl, World.grownBy.refl _ _⟩
            · intro a w' hf he
              have f9 : a.tmps.getD 109 undef = .pointer (some ⟨q, 0, none⟩) := he 9 (by kernel_rfl)
              have f5 : a.tmps.getD 105 undef = .bool false := he 5 (by kernel_rfl)
              refine wpOp_run rfl rfl rfl f5 (fun K hK => ?_)
              go_simp
              exact hK _ _ ⟨_, rfl, rfl, World.grownBy.refl _ _⟩
            · intro a w' hf he
              have f10 : a.tmps.getD 110 undef = .pointer (some ⟨q, 3, none⟩) := he 10 (by kernel_rfl)
              have f5 : a.tmps.getD 105 undef = .bool false := he 5 (by kernel_rfl)
              rw [show kindRow _ _ = none from by kernel_rfl] at hf
              have dd := (HP'.out.rk.bel hf.bel).cells.2.2.2
              refine wpOp_run rfl rfl rfl f5 (fun K hK => ?_)
              go_simp
              exact hK _ _ ⟨_, rfl, rfl, World.grownBy.refl _ _⟩
            · intro a w' hf he
              have f7 : a.tmps.getD 107 undef = .int .i64 (D'.ops : Int) := he 7 (by kernel_rfl)
              have f11 : a.tmps.getD 111 undef = .int .i64 (D'.ops : Int) := he 11 (by kernel_rfl)
              have f5 : a.tmps.getD 105 undef = .bool false := he 5 (by kernel_rfl)
              refine wpOp_run rfl rfl rfl f5 (fun K hK => ?_)
              go_simp
              exact hK _ _ ⟨_, rfl, rfl, World.grownBy.refl _ _⟩
            · intro a w' hf he
              have f5 : a.tmps.getD 105 undef = .bool false := he 5 (by kernel_rfl)
              have f12 : a.tmps.getD 112 undef = .bool false := he 12 (by kernel_rfl)
              refine wpOp_step rfl (fun K hK => ?_)
              go_simp
              exact hK _ _ ⟨_, rfl, rfl, World.grownBy.refl _ _⟩
          · intro a w' hf he
            obtain ⟨u100, f0⟩ : ∃ u, a.tmps.getD 100 undef = u := ⟨_, rfl⟩
            obtain ⟨u101, f1⟩ : ∃ u, a.tmps.getD 101 undef = u := ⟨_, rfl⟩
            obtain ⟨u102, f2⟩ : ∃ u, a.tmps.getD 102 undef = u := ⟨_, rfl⟩
            obtain ⟨u103, f3⟩ : ∃ u, a.tmps.getD 103 undef = u := ⟨_, rfl⟩
            obtain ⟨u104, f4⟩ : ∃ u, a.tmps.getD 104 undef = u := ⟨_, rfl⟩
            obtain ⟨u105, f5⟩ : ∃ u, a.tmps.getD 105 undef = u := ⟨_, rfl⟩
            obtain ⟨u106, f6⟩ : ∃ u, a.tmps.getD 106 undef = u := ⟨_, rfl⟩
            obtain ⟨u107, f7⟩ : ∃ u, a.tmps.getD 107 undef = u := ⟨_, rfl⟩
            obtain ⟨u108, f8⟩ : ∃ u, a.tmps.getD 108 undef = u := ⟨_, rfl⟩
            obtain ⟨u109, f9⟩ : ∃ u, a.tmps.getD 109 undef = u := ⟨_, rfl⟩
            obtain ⟨u110, f10⟩ : ∃ u, a.tmps.getD 110 undef = u := ⟨_, rfl⟩
            obtain ⟨u111, f11⟩ : ∃ u, a.tmps.getD 111 undef = u := ⟨_, rfl⟩
            obtain ⟨u112, f12⟩ : ∃ u, a.tmps.getD 112 undef = u := ⟨_, rfl⟩
            have f13 : a.tmps.getD 113 undef = .bool false := he 13 (by decide)
            have hlit := hf.lit ((100, u100) :: (101, u101) :: (102, u102) :: (103, u103) :: (104, u104) :: (105, u105) :: (106, u106) :: (107, u107) :: (108, u108) :: (109, u109) :: (110, u110) :: (111, u111) :: (112, u112) :: (113, .bool false) :: []) (by kernel_rfl) ⟨f0, f1, f2, f3, f4, f5, f6, f7, f8, f9, f10, f11, f12, f13, trivial⟩
            have hB := hf.bel
            clear he hf f0 f1 f2 f3 f4 f5 f6 f7 f8 f9 f10 f11 f12 f13 
            subst hlit
            simp only [putAll_nil, putAll_cons, Act.put, List.setIfInBounds_toArray, List.set_cons_zero, List.set_cons_succ]
            simp only [List.drop_succ_cons, List.drop_zero]
            have HP9 := Lib.hid (HP'.out.bel hB)
            have HB9 := Lib.hid (HB'.out.trans (hB.mono HB'.out.size))
            clear hB
            go_wp2_with fail
            go_roundw
            case rel => exact ⟨i + 1, D', by omega, by go_num, HP9, HO', HB9⟩
            case measure => simp [intOf] <;> omega
      by_cases z1 : k = 1
      · subst z1
        go_upto_region 23 with (first
        | (go_at_call 21
           (with_reducible refine (c_Crash HP.out.dk m2 hm2).mono ?_)
           rintro e w9 ⟨rfl, hk9, f9a⟩
           have f9 := f9a.mono (S1 := fun k => k = p ∨ k = g ∨ k = mb) (fun k _ e => e)
           have HK := Lib.hid hk9
           have HR := Lib.hid (rkfr hne HP.out.rk f9)
           have HB := Lib.hid (pr_bel HB.out HG.out HG2.out f9 (by omega))
           have hx9 := heap_fr X8.out f9 (by have := HL.out; omega)
           clear e0 e1 e2
           obtain ⟨e0, e1, e2⟩ := act4 hx9
           clear hk9 f9 f9a hx9)
        | (go_at_call 22
           (with_reducible refine (r_Crash HR.out m2 hm2).mono ?_)
           rintro e w10 ⟨rfl, hk10, f10a⟩
           have f10 := f10a.mono (S1 := fun k => k = q ∨ k = r) (fun k _ e => e)
           have HP' := Lib.hid (Pr.mk (dkfr hne HK.out f10) hk10 hne)
           have HB' := Lib.hid (pr_bel HB.out HG.out HG2.out f10 (by omega))
           clear e0 e1 e2 hk10 f10 f10a HK HR)
        )
        have HOn : Hid ((D.crash m2).ops ≤ 2 * (i + 1)) := Lib.hid (by have := HO.out; show D.ops ≤ _; omega)
        obtain ⟨D', hD'⟩ : ∃ D', D' = (D.crash m2) := ⟨_, rfl⟩
        rw [← hD'] at HP'
        have HO' : Hid (D'.ops ≤ 2 * (i + 1)) := Lib.hid (by rw [hD']; exact HOn.out)
        clear hD' HOn HP
        have hGd := fun w (h : Dk w p g mb N D') => c_GetE h
        have hGr := fun w (h : Rk w q r c' D') => r_dGet h
        obtain ⟨⟨l1, l2⟩, hl⟩ : ∃ r, latest D' 6 2 = r := ⟨_, rfl⟩
        rw [hl] at hGd hGr
        simp only at hGd hGr
        clear hl
        refine wp_region_phi (by kernel_rfl) 14 none (fun _ => false) (fun i_ v wz => match i_ with
          | 0 => v = .pointer (some ⟨p, 0, none⟩)
          | 1 => v = .int .u64 (l2 : Int)
          | 2 => v = .pointer (some ⟨q, 0, none⟩)
          | 3 => v = .int .u64 (l2 : Int)
          | 4 => v = .bool false
          | 5 => v = .bool false
          | 6 => v = .pointer (some ⟨p, 0, none⟩)
          | 7 => v = .int .i64 (D'.ops : Int)
          | 8 => v = .pointer (some ⟨q, 0, none⟩)
          | 9 => v = .pointer (some ⟨q, 0, none⟩)
          | 10 => v = .pointer (some ⟨q, 3, none⟩)
          | 11 => v = .int .i64 (D'.ops : Int)
          | 12 => v = .bool false
          | 13 => v = .bool false
          | _ => True) (by kernel_rfl) ?_ ?_ ?_
        · (repeat' (first | exact allLt_zero | refine allLt_succ ?_ ?_))
          · exact fun _ _ _ h _ => h
          · exact fun _ _ _ h _ => h
          · exact fun _ _ _ h _ => h
          · exact fun _ _ _ h _ => h
          · exact fun _ _ _ h _ => h
          · exact fun _ _ _ h _ => h
          · exact fun _ _ _ h _ => h
          · exact fun _ _ _ h _ => h
          · exact fun _ _ _ h _ => h
          · exact fun _ _ _ h _ => h
          · exact fun _ _ _ h _ => h
          · exact fun _ _ _ h _ => h
          · exact fun _ _ _ h _ => h
          · exact fun _ _ _ h _ => h
        · (repeat' (first | exact allLt_zero | refine allLt_succ ?_ ?_))
          · intro a w' hf he
            have k5 : a.tmps.getD 5 undef = .pointer (some ⟨p, 0, none⟩) := hf.var (by kernel_rfl) rfl
            refine wpOp_step rfl (fun K hK => ?_)
            go_simp
            exact hK _ _ ⟨_, rfl, rfl, World.grownBy.refl _ _⟩
          · intro a w' hf he
            have f0 : a.tmps.getD 100 undef = .pointer (some ⟨p, 0, none⟩) := he 0 (by kernel_rfl)
            rw [show kindRow _ _ = none from by kernel_rfl] at hf
            refine wpOp_step rfl (fun K hK => ?_)
            go_simp
            refine (hGd _ (HP'.out.dk.bel hf.bel)).mono ?_
            rintro e w2 ⟨rfl, hb2⟩
            exact hK _ _ ⟨_, rfl, rfl, grown_bel hb2⟩
          · intro a w' hf he
            have k7 : a.tmps.getD 7 undef = .pointer (some ⟨q, 0, none⟩) := hf.var (by kernel_rfl) rfl
            refine wpOp_step rfl (fun K hK => ?_)
            go_simp
            exact hK _ _ ⟨_, rfl, rfl, World.grownBy.refl _ _⟩
          · intro a w' hf he
            have f2 : a.tmps.getD 102 undef = .pointer (some ⟨q, 0, none⟩) := he 2 (by kernel_rfl)
            rw [show kindRow _ _ = none from by kernel_rfl] at hf
            refine wpOp_step rfl (fun K hK => ?_)
            go_simp
            refine (hGr _ (HP'.out.rk.bel hf.bel)).mono ?_
            rintro e w2 ⟨rfl, hb2⟩
            exact hK _ _ ⟨_, rfl, rfl, grown_bel hb2⟩
          · intro a w' hf he
            have f1 : a.tmps.getD 101 undef = .int .u64 (l2 : Int) := he 1 (by kernel_rfl)
            have f3 : a.tmps.getD 103 undef = .int .u64 (l2 : Int) := he 3 (by kernel_rfl)
            refine wpOp_step rfl (fun K hK => ?_)
            go_simp
            exact hK _ _ ⟨_, rfl, rfl, World.grownBy.refl _ _⟩
          · intro a w' hf he
            have f4 : a.tmps.getD 104 undef = .bool false := he 4 (by kernel_rfl)
            refine wpOp_step rfl (fun K hK => ?_)
            go_simp
            exact hK _ _ ⟨_, rfl, rfl, World.grownBy.refl _ _⟩
          · intro a w' hf he
            have k5 : a.tmps.getD 5 undef = .pointer (some ⟨p, 0, none⟩) := hf.var (by kernel_rfl) rfl
            have f5 : a.tmps.getD 105 undef = .bool false := he 5 (by kernel_rfl)
            refine wpOp_run rfl rfl rfl f5 (fun K hK => ?_)
            go_simp
            exact hK _ _ ⟨_, rfl, rfl, World.grownBy.refl _ _⟩
          · intro a w' hf he
            have f6 : a.tmps.getD 106 undef = .pointer (some ⟨p, 0, none⟩) := he 6 (by kernel_rfl)
            have f5 : a.tmps.getD 105 undef = .bool false := he 5 (by kernel_rfl)
            rw [show kindRow _ _ = none from by kernel_rfl] at hf
            refine wpOp_run rfl rfl rfl f5 (fun K hK => ?_)
            go_simp
            refine (c_Ops (HP'.out.dk.bel hf.bel)).mono ?_
            rintro e w2 ⟨rfl, rfl⟩
            exact hK _ _ ⟨_, rfl, rfl, World.grownBy.refl _ _⟩
          · intro a w' hf he
            have k7 : a.tmps.getD 7 undef = .pointer (some ⟨q, 0, none⟩) := hf.var (by kernel_rfl) rfl
            have f5 : a.tmps.getD 105 undef = .bool false := he 5 (by kernel_rfl)
            refine wpOp_run rfl rfl rfl f5 (fun K hK => ?_)
            go_simp
            exact hK _ _ ⟨_, rfl, rfl, World.grownBy.refl _ _⟩
          · intro a w' hf he
            have f8 : a.tmps.getD 108 undef = .pointer (some ⟨q, 0, none⟩) := he 8 (by kernel_rfl)
            have f5 : a.tmps.getD 105 undef = .bool false := he 5 (by kernel_rfl)
            refine wpOp_run rfl rfl rfl f5 (fun K hK => ?_)
            go_simp
            exact hK _ _ ⟨_, rfl, rfl, World.grownBy.refl _ _⟩
          · intro a w' hf he
            have f9 : a.tmps.getD 109 undef = .pointer (some ⟨q, 0, none⟩) := he 9 (by kernel_rfl)
            have f5 : a.tmps.getD 105 undef = .bool false := he 5 (by kernel_rfl)
            refine wpOp_run rfl rfl rfl f5 (fun K hK => ?_)
            go_simp
            exact hK _ _ ⟨_, rfl, rfl, World.grownBy.refl _ _⟩
          · intro a w' hf he
            have f10 : a.tmps.getD 110 undef = .pointer (some ⟨q, 3, none⟩) := he 10 (by kernel_rfl)
            have f5 : a.tmps.getD 105 undef = .bool false := he 5 (by kernel_rfl)
            rw [show kindRow _ _ = none from by kernel_rfl] at hf
            have dd := (HP'.out.rk.bel hf.bel).cells.2.2.2
            refine wpOp_run rfl rfl rfl f5 (fun K hK => ?_)
            go_simp
            exact hK _ _ ⟨_, rfl, rfl, World.grownBy.refl _ _⟩
          · intro a w' hf he
            have f7 : a.tmps.getD 107 undef = .int .i64 (D'.ops : Int) := he 7 (by kernel_rfl)
            have f11 : a.tmps.getD 111 undef = .int .i64 (D'.ops : Int) := he 11 (by kernel_rfl)
            have f5 : a.tmps.getD 105 undef = .bool false := he 5 (by kernel_rfl)
            refine wpOp_run rfl rfl rfl f5 (fun K hK => ?_)
            go_simp
            exact hK _ _ ⟨_, rfl, rfl, World.grownBy.refl _ _⟩
          · intro a w' hf he
            have f5 : a.tmps.getD 105 undef = .bool false := he 5 (by kernel_rfl)
            have f12 : a.tmps.getD 112 undef = .bool false := he 12 (by kernel_rfl)
            refine wpOp_step rfl (fun K hK => ?_)
            go_simp
            exact hK _ _ ⟨_, rfl, rfl, World.grownBy.refl _ _⟩
        · intro a w' hf he
          obtain ⟨u100, f0⟩ : ∃ u, a.tmps.getD 100 undef = u := ⟨_, rfl⟩
          obtain ⟨u101, f1⟩ : ∃ u, a.tmps.getD 101 undef = u := ⟨_, rfl⟩
          obtain ⟨u102, f2⟩ : ∃ u, a.tmps.getD 102 undef = u := ⟨_, rfl⟩
          obtain ⟨u103, f3⟩ : ∃ u, a.tmps.getD 103 undef = u := ⟨_, rfl⟩
          obtain ⟨u104, f4⟩ : ∃ u, a.tmps.getD 104 undef = u := ⟨_, rfl⟩
          obtain ⟨u105, f5⟩ : ∃ u, a.tmps.getD 105 undef = u := ⟨_, rfl⟩
          obtain ⟨u106, f6⟩ : ∃ u, a.tmps.getD 106 undef = u := ⟨_, rfl⟩
          obtain ⟨u107, f7⟩ : ∃ u, a.tmps.getD 107 undef = u := ⟨_, rfl⟩
          obtain ⟨u108, f8⟩ : ∃ u, a.tmps.getD 108 undef = u := ⟨_, rfl⟩
          obtain ⟨u109, f9⟩ : ∃ u, a.tmps.getD 109 undef = u := ⟨_, rfl⟩
          obtain ⟨u110, f10⟩ : ∃ u, a.tmps.getD 110 undef = u := ⟨_, rfl⟩
          obtain ⟨u111, f11⟩ : ∃ u, a.tmps.getD 111 undef = u := ⟨_, rfl⟩
          obtain ⟨u112, f12⟩ : ∃ u, a.tmps.getD 112 undef = u := ⟨_, rfl⟩
          have f13 : a.tmps.getD 113 undef = .bool false := he 13 (by decide)
          have hlit := hf.lit ((100, u100) :: (101, u101) :: (102, u102) :: (103, u103) :: (104, u104) :: (105, u105) :: (106, u106) :: (107, u107) :: (108, u108) :: (109, u109) :: (110, u110) :: (111, u111) :: (112, u112) :: (113, .bool false) :: []) (by kernel_rfl) ⟨f0, f1, f2, f3, f4, f5, f6, f7, f8, f9, f10, f11, f12, f13, trivial⟩
          have hB := hf.bel
          clear he hf f0 f1 f2 f3 f4 f5 f6 f7 f8 f9 f10 f11 f12 f13 
          subst hlit
          simp only [putAll_nil, putAll_cons, Act.put, List.setIfInBounds_toArray, List.set_cons_zero, List.set_cons_succ]
          simp only [List.drop_succ_cons, List.drop_zero]
          have HP9 := Lib.hid (HP'.out.bel hB)
          have HB9 := Lib.hid (HB'.out.trans (hB.mono HB'.out.size))
          clear hB
          go_wp2_with fail
          go_roundw
          case rel => exact ⟨i + 1, D', by omega, by go_num, HP9, HO', HB9⟩
          case measure => simp [intOf] <;> omega
      by_cases z2 : k = 2
      · subst z2
        go_upto_region 23 with (first
        | (go_at_call 23
           (with_reducible refine (c_FuseD HP.out.dk av ha).mono ?_)
           rintro e w9 ⟨rfl, hk9, f9a⟩
           have f9 := f9a.mono (S1 := fun k => k = p ∨ k = g ∨ k = mb) (fun k _ e => .inl e)
           have HK := Lib.hid hk9
           have HR := Lib.hid (rkfr hne HP.out.rk f9)
           have HB := Lib.hid (pr_bel HB.out HG.out HG2.out f9 (by omega))
           have hx9 := heap_fr X8.out f9 (by have := HL.out; omega)
           clear e0 e1 e2
           obtain ⟨e0, e1, e2⟩ := act4 hx9
           clear hk9 f9 f9a hx9)
        | (go_at_call 24
           (with_reducible refine (r_SetFuse HR.out av ha).mono ?_)
           rintro e w10 ⟨rfl, hk10, f10a⟩
           have f10 := f10a.mono (S1 := fun k => k = q ∨ k = r) (fun k _ e => .inl e)
           have HP' := Lib.hid (Pr.mk (dkfr hne HK.out f10) hk10 hne)
           have HB' := Lib.hid (pr_bel HB.out HG.out HG2.out f10 (by omega))
           clear e0 e1 e2 hk10 f10 f10a HK HR)
        )
        have HOn : Hid ((D.setFuse av).ops ≤ 2 * (i + 1)) := Lib.hid (by have := HO.out; show D.ops ≤ _; omega)
        obtain ⟨D', hD'⟩ : ∃ D', D' = (D.setFuse av) := ⟨_, rfl⟩
        rw [← hD'] at HP'
        have HO' : Hid (D'.ops ≤ 2 * (i + 1)) := Lib.hid (by rw [hD']; exact HOn.out)
        clear hD' HOn HP
        have hGd := fun w (h : Dk w p g mb N D') => c_GetE h
        have hGr := fun w (h : Rk w q r c' D') => r_dGet h
        obtain ⟨⟨l1, l2⟩, hl⟩ : ∃ r, latest D' 6 2 = r := ⟨_, rfl⟩
        rw [hl] at hGd hGr
        simp only at hGd hGr
        clear hl
        refine wp_region_phi (by kernel_rfl) 14 none (fun _ => false) (fun i_ v wz => match i_ with
          | 0 => v = .pointer (some ⟨p, 0, none⟩)
          | 1 => v = .int .u64 (l2 : Int)
          | 2 => v = .pointer (some ⟨q, 0, none⟩)
          | 3 => v = .int .u64 (l2 : Int)
          | 4 => v = .bool false
          | 5 => v = .bool false
          | 6 => v = .pointer (some ⟨p, 0, none⟩)
          | 7 => v = .int .i64 (D'.ops : Int)
          | 8 => v = .pointer (some ⟨q, 0, none⟩)
          | 9 => v = .pointer (some ⟨q, 0, none⟩)
          | 10 => v = .pointer (some ⟨q, 3, none⟩)
          | 11 => v = .int .i64 (D'.ops : Int)
          | 12 => v = .bool false
          | 13 => v = .bool false
          | _ => True) (by kernel_rfl) ?_ ?_ ?_
        · (repeat' (first | exact allLt_zero | refine allLt_succ ?_ ?_))
          · exact fun _ _ _ h _ => h
          · exact fun _ _ _ h _ => h
          · exact fun _ _ _ h _ => h
          · exact fun _ _ _ h _ => h
          · exact fun _ _ _ h _ => h
          · exact fun _ _ _ h _ => h
          · exact fun _ _ _ h _ => h
          · exact fun _ _ _ h _ => h
          · exact fun _ _ _ h _ => h
          · exact fun _ _ _ h _ => h
          · exact fun _ _ _ h _ => h
          · exact fun _ _ _ h _ => h
          · exact fun _ _ _ h _ => h
          · exact fun _ _ _ h _ => h
        · (repeat' (first | exact allLt_zero | refine allLt_succ ?_ ?_))
          · intro a w' hf he
            have k5 : a.tmps.getD 5 undef = .pointer (some ⟨p, 0, none⟩) := hf.var (by kernel_rfl) rfl
            refine wpOp_step rfl (fun K hK => ?_)
            go_simp
            exact hK _ _ ⟨_, rfl, rfl, World.grownBy.refl _ _⟩
          · intro a w' hf he
            have f0 : a.tmps.getD 100 undef = .pointer (some ⟨p, 0, none⟩) := he 0 (by kernel_rfl)
            rw [show kindRow _ _ = none from by kernel_rfl] at hf
            refine wpOp_step rfl (fun K hK => ?_)
            go_simp
            refine (hGd _ (HP'.out.dk.bel hf.bel)).mono ?_
            rintro e w2 ⟨rfl, hb2⟩
            exact hK _ _ ⟨_, rfl, rfl, grown_bel hb2⟩
          · intro a w' hf he
            have k7 : a.tmps.getD 7 undef = .pointer (some ⟨q, 0, none⟩) := hf.var (by kernel_rfl) rfl
            refine wpOp_step rfl (fun K hK => ?_)
            go_simp
            exact hK _ _ ⟨_, rfl, rfl, World.grownBy.refl _ _⟩
          · intro a w' hf he
            have f2 : a.tmps.getD 102 undef = .pointer (some ⟨q, 0, none⟩) := he 2 (by kernel_rfl)
            rw [show kindRow _ _ = none from by kernel_rfl] at hf
            refine wpOp_step rfl (fun K hK => ?_)
            go_simp
            refine (hGr _ (HP'.out.rk.bel hf.bel)).mono ?_
            rintro e w2 ⟨rfl, hb2⟩
            exact hK _ _ ⟨_, rfl, rfl, grown_bel hb2⟩
          · intro a w' hf he
            have f1 : a.tmps.getD 101 undef = .int .u64 (l2 : Int) := he 1 (by kernel_rfl)
            have f3 : a.tmps.getD 103 undef = .int .u64 (l2 : Int) := he 3 (by kernel_rfl)
            refine wpOp_step rfl (fun K hK => ?_)
            go_simp
            exact hK _ _ ⟨_, rfl, rfl, World.grownBy.refl _ _⟩
          · intro a w' hf he
            have f4 : a.tmps.getD 104 undef = .bool false := he 4 (by kernel_rfl)
            refine wpOp_step rfl (fun K hK => ?_)
            go_simp
            exact hK _ _ ⟨_, rfl, rfl, World.grownBy.refl _ _⟩
          · intro a w' hf he
            have k5 : a.tmps.getD 5 undef = .pointer (some ⟨p, 0, none⟩) := hf.var (by kernel_rfl) rfl
            have f5 : a.tmps.getD 105 undef = .bool false := he 5 (by kernel_rfl)
            refine wpOp_run rfl rfl rfl f5 (fun K hK => ?_)
            go_simp
            exact hK _ _ ⟨_, rfl, rfl, World.grownBy.refl _ _⟩
          · intro a w' hf he
            have f6 : a.tmps.getD 106 undef = .pointer (some ⟨p, 0, none⟩) := he 6 (by kernel_rfl)
            have f5 : a.tmps.getD 105 undef = .bool false := he 5 (by kernel_rfl)
            rw [show kindRow _ _ = none from by kernel_rfl] at hf
            refine wpOp_run rfl rfl rfl f5 (fun K hK => ?_)
            go_simp
            refine (c_Ops (HP'.out.dk.bel hf.bel)).mono ?_
            rintro e w2 ⟨rfl, rfl⟩
            exact hK _ _ ⟨_, rfl, rfl, World.grownBy.refl _ _⟩
          · intro a w' hf he
            have k7 : a.tmps.getD 7 undef = .pointer (some ⟨q, 0, none⟩) := hf.var (by kernel_rfl) rfl
            have f5 : a.tmps.getD 105 undef = .bool false := he 5 (by kernel_rfl)
            refine wpOp_run rfl rfl rfl f5 (fun K hK => ?_)
            go_simp
            exact hK _ _ ⟨_, rfl, rfl, World.grownBy.refl _ _⟩
          · intro a w' hf he
            have f8 : a.tmps.getD 108 undef = .pointer (some ⟨q, 0, none⟩) := he 8 (by kernel_rfl)
            have f5 : a.tmps.getD 105 undef = .bool false := he 5 (by kernel_rfl)
            refine wpOp_run rfl rfl rfl f5 (fun K hK => ?_)
            go_simp
            exact hK _ _ ⟨_, rfl, rfl, World.grownBy.refl _ _⟩
          · intro a w' hf he
            have f9 : a.tmps.getD 109 undef = .pointer (some ⟨q, 0, none⟩) := he 9 (by kernel_rfl)
            have f5 : a.tmps.getD 105 undef = .bool false := he 5 (by kernel_rfl)
            refine wpOp_run rfl rfl rfl f5 (fun K hK => ?_)
            go_simp
            exact hK _ _ ⟨_, rfl, rfl, World.grownBy.refl _ _⟩
          · intro a w' hf he
            have f10 : a.tmps.getD 110 undef = .pointer (some ⟨q, 3, none⟩) := he 10 (by kernel_rfl)
            have f5 : a.tmps.getD 105 undef = .bool false := he 5 (by kernel_rfl)
            rw [show kindRow _ _ = none from by kernel_rfl] at hf
            have dd := (HP'.out.rk.bel hf.bel).cells.2.2.2
            refine wpOp_run rfl rfl rfl f5 (fun K hK => ?_)
            go_simp
            exact hK _ _ ⟨_, rfl, rfl, World.grownBy.refl _ _⟩
          · intro a w' hf he
            have f7 : a.tmps.getD 107 undef = .int .i64 (D'.ops : Int) := he 7 (by kernel_rfl)
            have f11 : a.tmps.getD 111 undef = .int .i64 (D'.ops : Int) := he 11 (by kernel_rfl)
            have f5 : a.tmps.getD 105 undef = .bool false := he 5 (by kernel_rfl)
            refine wpOp_run rfl rfl rfl f5 (fun K hK => ?_)
            go_simp
            exact hK _ _ ⟨_, rfl, rfl, World.grownBy.refl _ _⟩
          · intro a w' hf he
            have f5 : a.tmps.getD 105 undef = .bool false := he 5 (by kernel_rfl)
            have f12 : a.tmps.getD 112 undef = .bool false := he 12 (by kernel_rfl)
            refine wpOp_step rfl (fun K hK => ?_)
            go_simp
            exact hK _ _ ⟨_, rfl, rfl, World.grownBy.refl _ _⟩
        · intro a w' hf he
          obtain ⟨u100, f0⟩ : ∃ u, a.tmps.getD 100 undef = u := ⟨_, rfl⟩
          obtain ⟨u101, f1⟩ : ∃ u, a.tmps.getD 101 undef = u := ⟨_, rfl⟩
          obtain ⟨u102, f2⟩ : ∃ u, a.tmps.getD 102 undef = u := ⟨_, rfl⟩
          obtain ⟨u103, f3⟩ : ∃ u, a.tmps.getD 103 undef = u := ⟨_, rfl⟩
          obtain ⟨u104, f4⟩ : ∃ u, a.tmps.getD 104 undef = u := ⟨_, rfl⟩
          obtain ⟨u105, f5⟩ : ∃ u, a.tmps.getD 105 undef = u := ⟨_, rfl⟩
          obtain ⟨u106, f6⟩ : ∃ u, a.tmps.getD 106 undef = u := ⟨_, rfl⟩
          obtain ⟨u107, f7⟩ : ∃ u, a.tmps.getD 107 undef = u := ⟨_, rfl⟩
          obtain ⟨u108, f8⟩ : ∃ u, a.tmps.getD 108 undef = u := ⟨_, rfl⟩
          obtain ⟨u109, f9⟩ : ∃ u, a.tmps.getD 109 undef = u := ⟨_, rfl⟩
          obtain ⟨u110, f10⟩ : ∃ u, a.tmps.getD 110 undef = u := ⟨_, rfl⟩
          obtain ⟨u111, f11⟩ : ∃ u, a.tmps.getD 111 undef = u := ⟨_, rfl⟩
          obtain ⟨u112, f12⟩ : ∃ u, a.tmps.getD 112 undef = u := ⟨_, rfl⟩
          have f13 : a.tmps.getD 113 undef = .bool false := he 13 (by decide)
          have hlit := hf.lit ((100, u100) :: (101, u101) :: (102, u102) :: (103, u103) :: (104, u104) :: (105, u105) :: (106, u106) :: (107, u107) :: (108, u108) :: (109, u109) :: (110, u110) :: (111, u111) :: (112, u112) :: (113, .bool false) :: []) (by kernel_rfl) ⟨f0, f1, f2, f3, f4, f5, f6, f7, f8, f9, f10, f11, f12, f13, trivial⟩
          have hB := hf.bel
          clear he hf f0 f1 f2 f3 f4 f5 f6 f7 f8 f9 f10 f11 f12 f13 
          subst hlit
          simp only [putAll_nil, putAll_cons, Act.put, List.setIfInBounds_toArray, List.set_cons_zero, List.set_cons_succ]
          simp only [List.drop_succ_cons, List.drop_zero]
          have HP9 := Lib.hid (HP'.out.bel hB)
          have HB9 := Lib.hid (HB'.out.trans (hB.mono HB'.out.size))
          clear hB
          go_wp2_with fail
          go_roundw
          case rel => exact ⟨i + 1, D', by omega, by go_num, HP9, HO', HB9⟩
          case measure => simp [intOf] <;> omega
      by_cases z3 : k = 3
      · subst z3
        obtain ⟨⟨DC, r1, E1⟩, hc⟩ : ∃ r, dclear D av = r := ⟨_, rfl⟩
        have hcd := c_ClearE HP.out.dk ho.out av
        have hcr := fun w (h : Rk w q r c' D) => r_dClear h ho.out av
        have hco := dclear_ops D av
        rw [hc] at hcd hcr hco
        simp only at hcd hcr hco
        have Hco := Lib.hid hco
        clear hc hco
        go_upto_region 23 with (first
          | (go_at_call 25
             (with_reducible refine hcd.mono ?_)
             rintro e w9 ⟨rfl, hk9, f9⟩
             have HK := Lib.hid hk9
             have HR := Lib.hid (rkfr hne HP.out.rk f9)
             have HB := Lib.hid (pr_bel HB.out HG.out HG2.out f9 (by omega))
             have hx9 := heap_fr X8.out f9 (by have := HL.out; omega)
             clear e0 e1 e2 hcd
             obtain ⟨e0, e1, e2⟩ := act4 hx9
             clear hk9 f9 hx9)
          | (go_at_call 26
             (with_reducible refine (hcr _ HR.out).mono ?_)
             rintro e w10 ⟨rfl, hk10, f10⟩
             have HP' := Lib.hid (Pr.mk (dkfr hne HK.out f10) hk10 hne)
             have HB' := Lib.hid (pr_bel HB.out HG.out HG2.out f10 (by omega))
             clear e0 e1 e2 hk10 f10 HK HR hcr))
        have HOn : Hid (DC.ops ≤ 2 * (i + 1)) := Lib.hid (by have := HO.out; have := Hco.out; omega)
        obtain ⟨D', hD'⟩ : ∃ D', D' = DC := ⟨_, rfl⟩
        rw [← hD'] at HP'
        have HO' : Hid (D'.ops ≤ 2 * (i + 1)) := Lib.hid (by rw [hD']; exact HOn.out)
        clear hD' HOn HP
        have hGd := fun w (h : Dk w p g mb N D') => c_GetE h
        have hGr := fun w (h : Rk w q r c' D') => r_dGet h
        obtain ⟨⟨l1, l2⟩, hl⟩ : ∃ r, latest D' 6 2 = r := ⟨_, rfl⟩
        rw [hl] at hGd hGr
        simp only at hGd hGr
        clear hl
        refine wp_region_phi (by kernel_rfl) 14 none (fun _ => false) (fun i_ v wz => match i_ with
          | 0 => v = .pointer (some ⟨p, 0, none⟩)
          | 1 => v = .int .u64 (l2 : Int)
          | 2 => v = .pointer (some ⟨q, 0, none⟩)
          | 3 => v = .int .u64 (l2 : Int)
          | 4 => v = .bool false
          | 5 => v = .bool false
          | 6 => v = .pointer (some ⟨p, 0, none⟩)
          | 7 => v = .int .i64 (D'.ops : Int)
          | 8 => v = .pointer (some ⟨q, 0, none⟩)
          | 9 => v = .pointer (some ⟨q, 0, none⟩)
          | 10 => v = .pointer (some ⟨q, 3, none⟩)
          | 11 => v = .int .i64 (D'.ops : Int)
          | 12 => v = .bool false
          | 13 => v = .bool false
          | _ => True) (by kernel_rfl) ?_ ?_ ?_
        · (repeat' (first | exact allLt_zero | refine allLt_succ ?_ ?_))
          · exact fun _ _ _ h _ => h
          · exact fun _ _ _ h _ => h
          · exact fun _ _ _ h _ => h
          · exact fun _ _ _ h _ => h
          · exact fun _ _ _ h _ => h
          · exact fun _ _ _ h _ => h
          · exact fun _ _ _ h _ => h
          · exact fun _ _ _ h _ => h
          · exact fun _ _ _ h _ => h
          · exact fun _ _ _ h _ => h
          · exact fun _ _ _ h _ => h
          · exact fun _ _ _ h _ => h
          · exact fun _ _ _ h _ => h
          · exact fun _ _ _ h _ => h
        · (repeat' (first | exact allLt_zero | refine allLt_succ ?_ ?_))
          · intro a w' hf he
            have k5 : a.tmps.getD 5 undef = .pointer (some ⟨p, 0, none⟩) := hf.var (by kernel_rfl) rfl
            refine wpOp_step rfl (fun K hK => ?_)
            go_simp
            exact hK _ _ ⟨_, rfl, rfl, World.grownBy.refl _ _⟩
          · intro a w' hf he
            have f0 : a.tmps.getD 100 undef = .pointer (some ⟨p, 0, none⟩) := he 0 (by kernel_rfl)
            rw [show kindRow _ _ = none from by kernel_rfl] at hf
            refine wpOp_step rfl (fun K hK => ?_)
            go_simp
            refine (hGd _ (HP'.out.dk.bel hf.bel)).mono ?_
            rintro e w2 ⟨rfl, hb2⟩
            exact hK _ _ ⟨_, rfl, rfl, grown_bel hb2⟩
          · intro a w' hf he
            have k7 : a.tmps.getD 7 undef = .pointer (some ⟨q, 0, none⟩) := hf.var (by kernel_rfl) rfl
            refine wpOp_step rfl (fun K hK => ?_)
            go_simp
            exact hK _ _ ⟨_, rfl, rfl, World.grownBy.refl _ _⟩
          · intro a w' hf he
            have f2 : a.tmps.getD 102 undef = .pointer (some ⟨q, 0, none⟩) := he 2 (by kernel_rfl)
            rw [show kindRow _ _ = none from by kernel_rfl] at hf
            refine wpOp_step rfl (fun K hK => ?_)
            go_simp
            refine (hGr _ (HP'.out.rk.bel hf.bel)).mono ?_
            rintro e w2 ⟨rfl, hb2⟩
            exact hK _ _ ⟨_, rfl, rfl, grown_bel hb2⟩
          · intro a w' hf he
            have f1 : a.tmps.getD 101 undef = .int .u64 (l2 : Int) := he 1 (by kernel_rfl)
            have f3 : a.tmps.getD 103 undef = .int .u64 (l2 : Int) := he 3 (by kernel_rfl)
            refine wpOp_step rfl (fun K hK => ?_)
            go_simp
            exact hK _ _ ⟨_, rfl, rfl, World.grownBy.refl _ _⟩
          · intro a w' hf he
            have f4 : a.tmps.getD 104 undef = .bool false := he 4 (by kernel_rfl)
            refine wpOp_step rfl (fun K hK => ?_)
            go_simp
            exact hK _ _ ⟨_, rfl, rfl, World.grownBy.refl _ _⟩
          · intro a w' hf he
            have k5 : a.tmps.getD 5 undef = .pointer (some ⟨p, 0, none⟩) := hf.var (by kernel_rfl) rfl
            have f5 : a.tmps.getD 105 undef = .bool false := he 5 (by kernel_rfl)
            refine wpOp_run rfl rfl rfl f5 (fun K hK => ?_)
            go_simp
            exact hK _ _ ⟨_, rfl, rfl, World.grownBy.refl _ _⟩
          · intro a w' hf he
            have f6 : a.tmps.getD 106 undef = .pointer (some ⟨p, 0, none⟩) := he 6 (by kernel_rfl)
            have f5 : a.tmps.getD 105 undef = .bool false := he 5 (by kernel_rfl)
            rw [show kindRow _ _ = none from by kernel_rfl] at hf
            refine wpOp_run rfl rfl rfl f5 (fun K hK => ?_)
            go_simp
            refine (c_Ops (HP'.out.dk.bel hf.bel)).mono ?_
            rintro e w2 ⟨rfl, rfl⟩
            exact hK _ _ ⟨_, rfl, rfl, World.grownBy.refl _ _⟩
          · intro a w' hf he
            have k7 : a.tmps.getD 7 undef = .pointer (some ⟨q, 0, none⟩) := hf.var (by kernel_rfl) rfl
            have f5 : a.tmps.getD 105 undef = .bool false := he 5 (by kernel_rfl)
            refine wpOp_run rfl rfl rfl f5 (fun K hK => ?_)
            go_simp
            exact hK _ _ ⟨_, rfl, rfl, World.grownBy.refl _ _⟩
          · intro a w' hf he
            have f8 : a.tmps.getD 108 undef = .pointer (some ⟨q, 0, none⟩) := he 8 (by kernel_rfl)
            have f5 : a.tmps.getD 105 undef = .bool false := he 5 (by kernel_rfl)
            refine wpOp_run rfl rfl rfl f5 (fun K hK => ?_)
            go_simp
            exact hK _ _ ⟨_, rfl, rfl, World.grownBy.refl _ _⟩
          · intro a w' hf he
            have f9 : a.tmps.getD 109 undef = .pointer (some ⟨q, 0, none⟩) := he 9 (by kernel_rfl)
            have f5 : a.tmps.getD 105 undef = .bool false := he 5 (by kernel_rfl)
            refine wpOp_run rfl rfl rfl f5 (fun K hK => ?_)
            go_simp
            exact hK _ _ ⟨_, rfl, rfl, World.grownBy.refl _ _⟩
          · intro a w' hf he
            have f10 : a.tmps.getD 110 undef = .pointer (some ⟨q, 3, none⟩) := he 10 (by kernel_rfl)
            have f5 : a.tmps.getD 105 undef = .bool false := he 5 (by kernel_rfl)
            rw [show kindRow _ _ = none from by kernel_rfl] at hf
            have dd := (HP'.out.rk.bel hf.bel).cells.2.2.2
            refine wpOp_run rfl rfl rfl f5 (fun K hK => ?_)
            go_simp
            exact hK _ _ ⟨_, rfl, rfl, World.grownBy.refl _ _⟩
          · intro a w' hf he
            have f7 : a.tmps.getD 107 undef = .int .i64 (D'.ops : Int) := he 7 (by kernel_rfl)
            have f11 : a.tmps.getD 111 undef = .int .i64 (D'.ops : Int) := he 11 (by kernel_rfl)
            have f5 : a.tmps.getD 105 undef = .bool false := he 5 (by kernel_rfl)
            refine wpOp_run rfl rfl rfl f5 (fun K hK => ?_)
            go_simp
            exact hK _ _ ⟨_, rfl, rfl, World.grownBy.refl _ _⟩
          · intro a w' hf he
            have f5 : a.tmps.getD 105 undef = .bool false := he 5 (by kernel_rfl)
            have f12 : a.tmps.getD 112 undef = .bool false := he 12 (by kernel_rfl)
            refine wpOp_step rfl (fun K hK => ?_)
            go_simp
            exact hK _ _ ⟨_, rfl, rfl, World.grownBy.refl _ _⟩
        · intro a w' hf he
          obtain ⟨u100, f0⟩ : ∃ u, a.tmps.getD 100 undef = u := ⟨_, rfl⟩
          obtain ⟨u101, f1⟩ : ∃ u, a.tmps.getD 101 undef = u := ⟨_, rfl⟩
          obtain ⟨u102, f2⟩ : ∃ u, a.tmps.getD 102 undef = u := ⟨_, rfl⟩
          obtain ⟨u103, f3⟩ : ∃ u, a.tmps.getD 103 undef = u := ⟨_, rfl⟩
          obtain ⟨u104, f4⟩ : ∃ u, a.tmps.getD 104 undef = u := ⟨_, rfl⟩
          obtain ⟨u105, f5⟩ : ∃ u, a.tmps.getD 105 undef = u := ⟨_, rfl⟩
          obtain ⟨u106, f6⟩ : ∃ u, a.tmps.getD 106 undef = u := ⟨_, rfl⟩
          obtain ⟨u107, f7⟩ : ∃ u, a.tmps.getD 107 undef = u := ⟨_, rfl⟩
          obtain ⟨u108, f8⟩ : ∃ u, a.tmps.getD 108 undef = u := ⟨_, rfl⟩
          obtain ⟨u109, f9⟩ : ∃ u, a.tmps.getD 109 undef = u := ⟨_, rfl⟩
          obtain ⟨u110, f10⟩ : ∃ u, a.tmps.getD 110 undef = u := ⟨_, rfl⟩
          obtain ⟨u111, f11⟩ : ∃ u, a.tmps.getD 111 undef = u := ⟨_, rfl⟩
          obtain ⟨u112, f12⟩ : ∃ u, a.tmps.getD 112 undef = u := ⟨_, rfl⟩
          have f13 : a.tmps.getD 113 undef = .bool false := he 13 (by decide)
          have hlit := hf.lit ((100, u100) :: (101, u101) :: (102, u102) :: (103, u103) :: (104, u104) :: (105, u105) :: (106, u106) :: (107, u107) :: (108, u108) :: (109, u109) :: (110, u110) :: (111, u111) :: (112, u112) :: (113, .bool false) :: []) (by kernel_rfl) ⟨f0, f1, f2, f3, f4, f5, f6, f7, f8, f9, f10, f11, f12, f13, trivial⟩
          have hB := hf.bel
          clear he hf f0 f1 f2 f3 f4 f5 f6 f7 f8 f9 f10 f11 f12 f13 
          subst hlit
          simp only [putAll_nil, putAll_cons, Act.put, List.setIfInBounds_toArray, List.set_cons_zero, List.set_cons_succ]
          simp only [List.drop_succ_cons, List.drop_zero]
          have HP9 := Lib.hid (HP'.out.bel hB)
          have HB9 := Lib.hid (HB'.out.trans (hB.mono HB'.out.size))
          clear hB
          go_wp2_with fail
          go_roundw
          case rel => exact ⟨i + 1, D', by omega, by go_num, HP9, HO', HB9⟩
          case measure => simp [intOf] <;> omega
      have y0 : (k == 0) = false := by simpa using z0
      have y1 : (k == 1) = false := by simpa using z1
      have y2 : (k == 2) = false := by simpa using z2
      have y3 : (k == 3) = false := by simpa using z3
      go_upto_region 23 with fail
      have HP' := HP
      have HB' := HB
      have HOn : Hid (D.ops ≤ 2 * (i + 1)) := Lib.hid (by have := HO.out; omega)
      clear e0 e1 e2
      obtain ⟨D', hD'⟩ : ∃ D', D' = D := ⟨_, rfl⟩
      rw [← hD'] at HP'
      have HO' : Hid (D'.ops ≤ 2 * (i + 1)) := Lib.hid (by rw [hD']; exact HOn.out)
      clear hD' HOn HP
      have hGd := fun w (h : Dk w p g mb N D') => c_GetE h
      have hGr := fun w (h : Rk w q r c' D') => r_dGet h
      obtain ⟨⟨l1, l2⟩, hl⟩ : ∃ r, latest D' 6 2 = r := ⟨_, rfl⟩
      rw [hl] at hGd hGr
      simp only at hGd hGr
      clear hl
      refine wp_region_phi (by kernel_rfl) 14 none (fun _ => false) (fun i_ v wz => match i_ with
        | 0 => v = .pointer (some ⟨p, 0, none⟩)
        | 1 => v = .int .u64 (l2 : Int)
        | 2 => v = .pointer (some ⟨q, 0, none⟩)
        | 3 => v = .int .u64 (l2 : Int)
        | 4 => v = .bool false
        | 5 => v = .bool false
        | 6 => v = .pointer (some ⟨p, 0, none⟩)
        | 7 => v = .int .i64 (D'.ops : Int)
        | 8 => v = .pointer (some ⟨q, 0, none⟩)
        | 9 => v = .pointer (some ⟨q, 0, none⟩)
        | 10 => v = .pointer (some ⟨q, 3, none⟩)
        | 11 => v = .int .i64 (D'.ops : Int)
        | 12 => v = .bool false
        | 13 => v = .bool false
        | _ => True) (by kernel_rfl) ?_ ?_ ?_
      · (repeat' (first | exact allLt_zero | refine allLt_succ ?_ ?_))
        · exact fun _ _ _ h _ => h
        · exact fun _ _ _ h _ => h
        · exact fun _ _ _ h _ => h
        · exact fun _ _ _ h _ => h
        · exact fun _ _ _ h _ => h
        · exact fun _ _ _ h _ => h
        · exact fun _ _ _ h _ => h
        · exact fun _ _ _ h _ => h
        · exact fun _ _ _ h _ => h
        · exact fun _ _ _ h _ => h
        · exact fun _ _ _ h _ => h
        · exact fun _ _ _ h _ => h
        · exact fun _ _ _ h _ => h
        · exact fun _ _ _ h _ => h
      · (repeat' (first | exact allLt_zero | refine allLt_succ ?_ ?_))
        · intro a w' hf he
          have k5 : a.tmps.getD 5 undef = .pointer (some ⟨p, 0, none⟩) := hf.var (by kernel_rfl) rfl
          refine wpOp_step rfl (fun K hK => ?_)
          go_simp
          exact hK _ _ ⟨_, rfl, rfl, World.grownBy.refl _ _⟩
        · intro a w' hf he
          have f0 : a.tmps.getD 100 undef = .pointer (some ⟨p, 0, none⟩) := he 0 (by kernel_rfl)
          rw [show kindRow _ _ = none from by kernel_rfl] at hf
          refine wpOp_step rfl (fun K hK => ?_)
          go_simp
          refine (hGd _ (HP'.out.dk.bel hf.bel)).mono ?_
          rintro e w2 ⟨rfl, hb2⟩
          exact hK _ _ ⟨_, rfl, rfl, grown_bel hb2⟩
        · intro a w' hf he
          have k7 : a.tmps.getD 7 undef = .pointer (some ⟨q, 0, none⟩) := hf.var (by kernel_rfl) rfl
          refine wpOp_step rfl (fun K hK => ?_)
          go_simp
          exact hK _ _ ⟨_, rfl, rfl, World.grownBy.refl _ _⟩
        · intro a w' hf he
          have f2 : a.tmps.getD 102 undef = .pointer (some ⟨q, 0, none⟩) := he 2 (by kernel_rfl)
          rw [show kindRow _ _ = none from by kernel_rfl] at hf
          refine wpOp_step rfl (fun K hK => ?_)
          go_simp
          refine (hGr _ (HP'.out.rk.bel hf.bel)).mono ?_
          rintro e w2 ⟨rfl, hb2⟩
          exact hK _ _ ⟨_, rfl, rfl, grown_bel hb2⟩
        · intro a w' hf he
          have f1 : a.tmps.getD 101 undef = .int .u64 (l2 : Int) := he 1 (by kernel_rfl)
          have f3 : a.tmps.getD 103 undef = .int .u64 (l2 : Int) := he 3 (by kernel_rfl)
          refine wpOp_step rfl (fun K hK => ?_)
          go_simp
          exact hK _ _ ⟨_, rfl, rfl, World.grownBy.refl _ _⟩
        · intro a w' hf he
          have f4 : a.tmps.getD 104 undef = .bool false := he 4 (by kernel_rfl)
          refine wpOp_step rfl (fun K hK => ?_)
          go_simp
          exact hK _ _ ⟨_, rfl, rfl, World.grownBy.refl _ _⟩
        · intro a w' hf he
          have k5 : a.tmps.getD 5 undef = .pointer (some ⟨p, 0, none⟩) := hf.var (by kernel_rfl) rfl
          have f5 : a.tmps.getD 105 undef = .bool false := he 5 (by kernel_rfl)
          refine wpOp_run rfl rfl rfl f5 (fun K hK => ?_)
          go_simp
          exact hK _ _ ⟨_, rfl, rfl, World.grownBy.refl _ _⟩
        · intro a w' hf he
          have f6 : a.tmps.getD 106 undef = .pointer (some ⟨p, 0, none⟩) := he 6 (by kernel_rfl)
          have f5 : a.tmps.getD 105 undef = .bool false := he 5 (by kernel_rfl)
          rw [show kindRow _ _ = none from by kernel_rfl] at hf
          refine wpOp_run rfl rfl rfl f5 (fun K hK => ?_)
          go_simp
          refine (c_Ops (HP'.out.dk.bel hf.bel)).mono ?_
          rintro e w2 ⟨rfl, rfl⟩
          exact hK _ _ ⟨_, rfl, rfl, World.grownBy.refl _ _⟩
        · intro a w' hf he
          have k7 : a.tmps.getD 7 undef = .pointer (some ⟨q, 0, none⟩) := hf.var (by kernel_rfl) rfl
          have f5 : a.tmps.getD 105 undef = .bool false := he 5 (by kernel_rfl)
          refine wpOp_run rfl rfl rfl f5 (fun K hK => ?_)
          go_simp
          exact hK _ _ ⟨_, rfl, rfl, World.grownBy.refl _ _⟩
        · intro a w' hf he
          have f8 : a.tmps.getD 108 undef = .pointer (some ⟨q, 0, none⟩) := he 8 (by kernel_rfl)
          have f5 : a.tmps.getD 105 undef = .bool false := he 5 (by kernel_rfl)
          refine wpOp_run rfl rfl rfl f5 (fun K hK => ?_)
          go_simp
          exact hK _ _ ⟨_, rfl, rfl, World.grownBy.refl _ _⟩
        · intro a w' hf he
          have f9 : a.tmps.getD 109 undef = .pointer (some ⟨q, 0, none⟩) := he 9 (by kernel_rfl)
          have f5 : a.tmps.getD 105 undef = .bool false := he 5 (by kernel_rfl)
          refine wpOp_run rfl rfl rfl f5 (fun K hK => ?_)
          go_simp
          exact hK _ _ ⟨_, rfl, rfl, World.grownBy.refl _ _⟩
        · intro a w' hf he
          have f10 : a.tmps.getD 110 undef = .pointer (some ⟨q, 3, none⟩) := he 10 (by kernel_rfl)
          have f5 : a.tmps.getD 105 undef = .bool false := he 5 (by kernel_rfl)
          rw [show kindRow _ _ = none from by kernel_rfl] at hf
          have dd := (HP'.out.rk.bel hf.bel).cells.2.2.2
          refine wpOp_run rfl rfl rfl f5 (fun K hK => ?_)
          go_simp
          exact hK _ _ ⟨_, rfl, rfl, World.grownBy.refl _ _⟩
        · intro a w' hf he
          have f7 : a.tmps.getD 107 undef = .int .i64 (D'.ops : Int) := he 7 (by kernel_rfl)
          have f11 : a.tmps.getD 111 undef = .int .i64 (D'.ops : Int) := he 11 (by kernel_rfl)
          have f5 : a.tmps.getD 105 undef = .bool false := he 5 (by kernel_rfl)
          refine wpOp_run rfl rfl rfl f5 (fun K hK => ?_)
          go_simp
          exact hK _ _ ⟨_, rfl, rfl, World.grownBy.refl _ _⟩
        · intro a w' hf he
          have f5 : a.tmps.getD 105 undef = .bool false := he 5 (by kernel_rfl)
          have f12 : a.tmps.getD 112 undef = .bool false := he 12 (by kernel_rfl)
          refine wpOp_step rfl (fun K hK => ?_)
          go_simp
          exact hK _ _ ⟨_, rfl, rfl, World.grownBy.refl _ _⟩
      · intro a w' hf he
        obtain ⟨u100, f0⟩ : ∃ u, a.tmps.getD 100 undef = u := ⟨_, rfl⟩
        obtain ⟨u101, f1⟩ : ∃ u, a.tmps.getD 101 undef = u := ⟨_, rfl⟩
        obtain ⟨u102, f2⟩ : ∃ u, a.tmps.getD 102 undef = u := ⟨_, rfl⟩
        obtain ⟨u103, f3⟩ : ∃ u, a.tmps.getD 103 undef = u := ⟨_, rfl⟩
        obtain ⟨u104, f4⟩ : ∃ u, a.tmps.getD 104 undef = u := ⟨_, rfl⟩
        obtain ⟨u105, f5⟩ : ∃ u, a.tmps.getD 105 undef = u := ⟨_, rfl⟩
        obtain ⟨u106, f6⟩ : ∃ u, a.tmps.getD 106 undef = u := ⟨_, rfl⟩
        obtain ⟨u107, f7⟩ : ∃ u, a.tmps.getD 107 undef = u := ⟨_, rfl⟩
        obtain ⟨u108, f8⟩ : ∃ u, a.tmps.getD 108 undef = u := ⟨_, rfl⟩
        obtain ⟨u109, f9⟩ : ∃ u, a.tmps.getD 109 undef = u := ⟨_, rfl⟩
        obtain ⟨u110, f10⟩ : ∃ u, a.tmps.getD 110 undef = u := ⟨_, rfl⟩
        obtain ⟨u111, f11⟩ : ∃ u, a.tmps.getD 111 undef = u := ⟨_, rfl⟩
        obtain ⟨u112, f12⟩ : ∃ u, a.tmps.getD 112 undef = u := ⟨_, rfl⟩
        have f13 : a.tmps.getD 113 undef = .bool false := he 13 (by decide)
        have hlit := hf.lit ((100, u100) :: (101, u101) :: (102, u102) :: (103, u103) :: (104, u104) :: (105, u105) :: (106, u106) :: (107, u107) :: (108, u108) :: (109, u109) :: (110, u110) :: (111, u111) :: (112, u112) :: (113, .bool false) :: []) (by kernel_rfl) ⟨f0, f1, f2, f3, f4, f5, f6, f7, f8, f9, f10, f11, f12, f13, trivial⟩
        have hB := hf.bel
        clear he hf f0 f1 f2 f3 f4 f5 f6 f7 f8 f9 f10 f11 f12 f13 
        subst hlit
        simp only [putAll_nil, putAll_cons, Act.put, List.setIfInBounds_toArray, List.set_cons_zero, List.set_cons_succ]
        simp only [List.drop_succ_cons, List.drop_zero]
        have HP9 := Lib.hid (HP'.out.bel hB)
        have HB9 := Lib.hid (HB'.out.trans (hB.mono HB'.out.size))
        clear hB
        go_wp2_with fail
        go_roundw
        case rel => exact ⟨i + 1, D', by omega, by go_num, HP9, HO', HB9⟩
        case measure => simp [intOf] <;> omega
    · obtain rfl : i = nl := by omega
      go_wp2_with (first
        | (go_at_call 16; (with_reducible refine (c_lives _).mono ?_); rintro e w5 ⟨rfl, b5⟩))
      go_ret
      exact ⟨rfl, HB.out.trans (b5.mono HB.out.size)⟩
end Go.Proofs.YtaldlapnhhhclaaGreat.Dirty
