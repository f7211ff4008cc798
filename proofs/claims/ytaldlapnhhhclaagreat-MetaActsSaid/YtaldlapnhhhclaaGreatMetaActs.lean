/- The law MetaActs, walked. Conditions: none. -/
import Derived.Test.YtaldlapnhhhclaaGreatMetDo
import Derived.Test.YtaldlapnhhhclaaGreatMeta3
set_option linter.unusedVariables false
set_option linter.unusedSimpArgs false
namespace Go.Proofs.YtaldlapnhhhclaaGreat.Meta
open Go.RowKit Tw Disk Slots Act3
set_option maxHeartbeats 8000000
set_option maxRecDepth 100000
theorem w_MetaActs (n : Int) (A : Option Addr) (nl cb : Nat) (rows : List (List Value)) (w : World) (hr : SlRows w 3 A nl cb rows) (hro : ∀ (i : Nat) (r : List Value), rows[i]? = some r → RowOk w ActL r) :
    Calls Tryz.prog 6 #[.int .i64 n, .slice A nl cb] w fun e w' => e = .returned (.bool true) ∧ Below w.heap.size w w' := by
  have HBq := Lib.hid (Below.refl w.heap.size w)
  have Hr := Lib.hid hr
  have Hro := Lib.hid hro
  clear hr hro
  go_enter Tryz.func6, Tryz.ntmps6
  by_cases h1 : n < 1
  · skip
    go_wp2_with (first
      | (go_at_call 36; (with_reducible refine (c_lives _).mono ?_); rintro e w5 ⟨rfl, b5⟩))
    go_ret
    exact ⟨rfl, HBq.out.trans (b5.mono HBq.out.size)⟩
  by_cases h2 : 20 < n
  · skip
    go_wp2_with (first
      | (go_at_call 36; (with_reducible refine (c_lives _).mono ?_); rintro e w5 ⟨rfl, b5⟩))
    go_ret
    exact ⟨rfl, HBq.out.trans (b5.mono HBq.out.size)⟩
  by_cases h3 : 50 < nl
  · skip
    go_wp2_with (first
      | (go_at_call 36; (with_reducible refine (c_lives _).mono ?_); rintro e w5 ⟨rfl, b5⟩))
    go_ret
    exact ⟨rfl, HBq.out.trans (b5.mono HBq.out.size)⟩
  obtain ⟨N, rfl⟩ : ∃ q : Nat, n = (q : Int) := ⟨n.toNat, by omega⟩
  have hN1 : 1 ≤ N := by omega
  have hN2 : N ≤ 20 := by omega
  have hnl : nl ≤ 50 := by omega
  clear h1 h2 h3
  go_wp2_with (first
    | (go_at_call 17
       (with_reducible refine (c_dNewI' (N : Int) N rfl _ hN1 (by omega)).mono ?_)
       rintro e w1 ⟨p, g, mb, rfl, hk, hge, hb1⟩
       have HB := Lib.hid (HBq.out.trans (hb1.mono HBq.out.size))
       have HK := Lib.hid hk
       have HG : Hid (w.heap.size ≤ p ∧ w.heap.size ≤ g ∧ w.heap.size ≤ mb) := Lib.hid (by have := HBq.out.size; omega)
       clear hb1 hk hge)
    | (go_at_call 18
       (with_reducible refine (r_New N _ hN1 (by omega)).mono ?_)
       rintro e w2 ⟨q, r, c', rfl, hk2, hge2, hb2⟩
       have hlk := HK.out.lts
       have HP : Hid (Pr w2 p g mb N q r c' (Dsk.new N)) := Lib.hid ⟨HK.out.bel hb2, hk2, by omega⟩
       have HG2 : Hid (w.heap.size ≤ q ∧ w.heap.size ≤ r) := Lib.hid (by have := HB.out.size; omega)
       have HB := Lib.hid (HB.out.trans (hb2.mono HB.out.size))
       clear hk2 hge2 hb2 hlk HK))
  have hops0 : Hid ((Dsk.new N).ops ≤ 4 * 0) := Lib.hid (Nat.le_refl _)
  generalize Dsk.new N = D0 at *
  go_loopw [35] (fun v wr => ∃ (i : Nat) (D : Dsk), i ≤ nl ∧ v = .int .i64 (i : Int) ∧ Hid (Pr wr p g mb N q r c' D) ∧ Hid (D.ops ≤ 4 * i) ∧ Hid (Below w.heap.size w wr)) (fun v _ => nl - (intOf v).toNat)
  case atStart => exact ⟨0, D0, Nat.zero_le _, rfl, HP, hops0, HB⟩
  case round =>
    clear HP HB hops0
    obtain ⟨i, D, hi, rfl, HP, HO, HB⟩ := hrel
    by_cases hin : i < nl
    · obtain ⟨ad, rw_, rfl, hri, hrl, hcell⟩ := Hr.out.at hin
      obtain ⟨k, av, m2, rfl, ha, hm2⟩ := act_of (Hro.out i rw_ hri)
      have ho : Hid (D.ops + 3 < 1000000000) := Lib.hid (by have := HO.out; omega)
      have hhb : ∀ j v, (actV k av m2)[j]? = some v → wr.cell? ((ad.add (i * 3)).add j) = some v := fun j v hv => by
        have hc := hcell j v hv
        rw [HB.out.cell (block_lt_of_cell hc)]
        exact hc
      have Hcs := Lib.hid hhb
      have Hdl : Hid ((actV k av m2).toArray.size = 3) := Lib.hid (by simpa using hrl)
      have HY := Lib.hid (heap_alloc_new wr (.cells act0 79))
      have HYB := Lib.hid ((Below.refl wr.heap.size wr).alloc (Nat.le_refl _) (.cells act0 79))
      have hlp := HP.out.dk.lts
      have hlr := HP.out.rk.lts
      have hne := HP.out.ne
      have HL := Lib.hid (And.intro hlp hlr)
      unfold act0 at HY HYB
      clear hri hrl hcell hhb
      obtain ⟨D', hD'⟩ : ∃ D', mdo D k av m2 = D' := ⟨_, rfl⟩
      have hcd := fun w (h : Pr w p g mb N q r c' D) => c_do h ho.out k av m2 ha hm2
      rw [hD'] at hcd
      have HO' : Hid (D'.ops ≤ 4 * (i + 1)) := Lib.hid (by have := mdo_ops D k av m2; rw [hD'] at this; have := HO.out; omega)
      clear hD' HO
      go_upto_region 8 with (first
        | (refine wpL_load_rd rfl 79 (.tmp 37) rfl (ad.add (i * 3)) rfl (actV k av m2) _ Hcs.out Tryz.underlying79 rfl (by rw [← List.size_toArray, Hdl.out]; kernel_rfl) ?_)
        | (refine wpL_store_all rfl rfl 79 (.tmp 10) (.tmp 38) rfl _ rfl _ rfl _ _ HY.out (by rw [Hdl.out]; kernel_rfl) (by rw [Hdl.out]; rfl) act_one ?_
           intro w8 x8 g8
           have hb8 := HYB.out.grown g8 HYB.out.size (by rintro k ⟨⟩; exact Nat.le_refl _)
           have HP := Lib.hid (HP.out.bel hb8)
           have HB := Lib.hid (HB.out.trans (hb8.mono HB.out.size))
           obtain ⟨e0, e1, e2⟩ := act4 x8
           have X8 := Lib.hid x8
           clear x8 g8 HY HYB hb8 Hcs)
        )
      have hsz8 := HB.out.size
      have hxl := heap_lt X8.out
      have hpl := HL.out
      generalize wr.heap.size = Bx at *
      clear e0 e1 e2
      refine wp_region_fr (by kernel_rfl) 21 (fun i_ => match i_ with | 3 => 1 | _ => 0) (fun c_ => match c_ with | 1 => PS p g mb q r | _ => fun _ => False) (fun i_ => match i_ with | 0 => [1] | 1 => [1] | 2 => [1] | _ => []) (fun i_ => match i_ with | 4 => [1] | 5 => [1] | 6 => [1] | 7 => [1] | 8 => [1] | 9 => [1] | 10 => [1] | 11 => [1] | 12 => [1] | 13 => [1] | 14 => [1] | 15 => [1] | 16 => [1] | 17 => [1] | 18 => [1] | 19 => [1] | 20 => [1] | _ => []) [1] (fun i_ v wz => match i_ with
        | 0 => v = .pointer (some ⟨p, 0, none⟩)
        | 1 => v = .pointer (some ⟨q, 0, none⟩)
        | 2 => v = .agg (actV k av m2).toArray
        | 3 => v = .bool true ∧ Pr wz p g mb N q r c' D'
        | 4 => v = .bool false ∧ Pr wz p g mb N q r c' D'
        | 5 => v = .bool false ∧ Pr wz p g mb N q r c' D'
        | 6 => v = .pointer (some ⟨p, 0, none⟩)
        | 7 => v = .agg #[.int .u32 (boot D' : Int), .int .u64 (hotOf D' : Int), .int .u64 (dirtyOf D' : Int)]
        | 8 => v = .pointer (some ⟨q, 0, none⟩)
        | 9 => v = .agg #[.int .u32 (boot D' : Int), .int .u64 (hotOf D' : Int), .int .u64 (dirtyOf D' : Int)]
        | 10 => v = .bool false
        | 11 => v = .bool false ∧ Pr wz p g mb N q r c' D'
        | 12 => v = .bool false ∧ Pr wz p g mb N q r c' D'
        | 13 => v = .pointer (some ⟨p, 0, none⟩)
        | 14 => v = .int .i64 (D'.ops : Int)
        | 15 => v = .pointer (some ⟨q, 0, none⟩)
        | 16 => v = .pointer (some ⟨q, 0, none⟩)
        | 17 => v = .pointer (some ⟨q, 3, none⟩)
        | 18 => v = .int .i64 (D'.ops : Int)
        | 19 => v = .bool false
        | 20 => v = .bool false ∧ Pr wz p g mb N q r c' D'
        | _ => True) (by kernel_rfl) (by kernel_rfl) ?_ ?_ ?_
      · (repeat' (first | exact allLt_zero | refine allLt_succ ?_ ?_))
        · exact fun _ _ _ h _ => h
        · exact fun _ _ _ h _ => h
        · exact fun _ _ _ h _ => h
        · intro v w1 w2 h hg
          replace hg : Fr (fun k => False) w1 w2 := hg
          exact ⟨h.1, ⟨h.2.dk.fr hg (fun e => e) (fun e => e) (fun e => e), h.2.rk.fr hg (fun e => e) (fun e => e), hne⟩⟩
        · intro v w1 w2 h hg
          replace hg : Fr (fun k => False) w1 w2 := hg
          exact ⟨h.1, ⟨h.2.dk.fr hg (fun e => e) (fun e => e) (fun e => e), h.2.rk.fr hg (fun e => e) (fun e => e), hne⟩⟩
        · intro v w1 w2 h hg
          replace hg : Fr (fun k => False) w1 w2 := hg
          exact ⟨h.1, ⟨h.2.dk.fr hg (fun e => e) (fun e => e) (fun e => e), h.2.rk.fr hg (fun e => e) (fun e => e), hne⟩⟩
        · exact fun _ _ _ h _ => h
        · exact fun _ _ _ h _ => h
        · exact fun _ _ _ h _ => h
        · exact fun _ _ _ h _ => h
        · exact fun _ _ _ h _ => h
        · intro v w1 w2 h hg
          replace hg : Fr (fun k => False) w1 w2 := hg
          exact ⟨h.1, ⟨h.2.dk.fr hg (fun e => e) (fun e => e) (fun e => e), h.2.rk.fr hg (fun e => e) (fun e => e), hne⟩⟩
        · intro v w1 w2 h hg
          replace hg : Fr (fun k => False) w1 w2 := hg
          exact ⟨h.1, ⟨h.2.dk.fr hg (fun e => e) (fun e => e) (fun e => e), h.2.rk.fr hg (fun e => e) (fun e => e), hne⟩⟩
        · exact fun _ _ _ h _ => h
        · exact fun _ _ _ h _ => h
        · exact fun _ _ _ h _ => h
        · exact fun _ _ _ h _ => h
        · exact fun _ _ _ h _ => h
        · exact fun _ _ _ h _ => h
        · exact fun _ _ _ h _ => h
        · intro v w1 w2 h hg
          replace hg : Fr (fun k => False) w1 w2 := hg
          exact ⟨h.1, ⟨h.2.dk.fr hg (fun e => e) (fun e => e) (fun e => e), h.2.rk.fr hg (fun e => e) (fun e => e), hne⟩⟩
      · (repeat' (first | exact allLt_zero | refine allLt_succ ?_ ?_))
        · intro a w' hf he
          have k5 : a.tmps.getD 5 undef = .pointer (some ⟨p, 0, none⟩) := hf.var (by kernel_rfl) rfl
          refine wpOp_step rfl (fun K hK => ?_)
          go_simp
          exact hK _ _ ⟨_, rfl, rfl, Fr.refl _ _⟩
        · intro a w' hf he
          have k7 : a.tmps.getD 7 undef = .pointer (some ⟨q, 0, none⟩) := hf.var (by kernel_rfl) rfl
          refine wpOp_step rfl (fun K hK => ?_)
          go_simp
          exact hK _ _ ⟨_, rfl, rfl, Fr.refl _ _⟩
        · intro a w' hf he
          have k10 : a.tmps.getD 10 undef = .pointer (some ⟨Bx, 0, none⟩) := hf.var (by kernel_rfl) rfl
          have hfr : Fr (fun k => False) _ w' := hf.of_start
          have hx := heap_fr X8.out hfr (fun e => e)
          refine wpOp_step rfl (fun K hK => ?_)
          refine wp_load_rd 79 (.tmp 10) rfl ⟨Bx, 0, none⟩ k10 (actV k av m2) _ ((rd_of_heap (n := 3) hx rfl (by simp [maxLen])).cell _ rfl) Tryz.underlying79 rfl (by kernel_rfl) ?_
          exact hK _ _ ⟨_, rfl, rfl, Fr.refl _ _⟩
        · intro a w' hf he
          have f0 : a.tmps.getD 39 undef = .pointer (some ⟨p, 0, none⟩) := he 0 (by kernel_rfl)
          have f1 : a.tmps.getD 40 undef = .pointer (some ⟨q, 0, none⟩) := he 1 (by kernel_rfl)
          have f2 : a.tmps.getD 41 undef = .agg (actV k av m2).toArray := he 2 (by kernel_rfl)
          have hfr : Fr (fun k => False) _ w' := hf.of_start
          have hd : Pr w' p g mb N q r c' D := ⟨HP.out.dk.fr hfr (fun e => e) (fun e => e) (fun e => e), HP.out.rk.fr hfr (fun e => e) (fun e => e), hne⟩
          refine wpOp_step rfl (fun K hK => ?_)
          go_simp
          refine (hcd _ hd).mono ?_
          rintro e w2 ⟨rfl, hp2, f2⟩
          exact hK _ _ ⟨_, rfl, ⟨rfl, hp2⟩, f2.mono (fun k _ e => .inl e)⟩
        · intro a w' hf he
          obtain ⟨hv3, hp3⟩ := he 3 (by kernel_rfl)
          have f3 : a.tmps.getD 42 undef = _ := hv3
          have hfr : Fr (fun k => (PS p g mb q r) k ∨ False) _ w' := hf.of_start
          replace hfr := hfr.un1
          refine wpOp_step rfl (fun K hK => ?_)
          go_simp
          exact hK _ _ ⟨_, rfl, ⟨rfl, hp3⟩, Fr.refl _ _⟩
        · intro a w' hf he
          obtain ⟨hv4, hp4⟩ := he 4 (by kernel_rfl)
          have f4 : a.tmps.getD 43 undef = _ := hv4
          refine wpOp_step rfl (fun K hK => ?_)
          go_simp
          exact hK _ _ ⟨_, rfl, ⟨rfl, hp4⟩, Fr.refl _ _⟩
        · intro a w' hf he
          have k5 : a.tmps.getD 5 undef = .pointer (some ⟨p, 0, none⟩) := hf.var (by kernel_rfl) rfl
          obtain ⟨hv5, hp5⟩ := he 5 (by kernel_rfl)
          have f5 : a.tmps.getD 44 undef = _ := hv5
          refine wpOp_run rfl rfl rfl f5 (fun K hK => ?_)
          go_simp
          exact hK _ _ ⟨_, rfl, rfl, Fr.refl _ _⟩
        · intro a w' hf he
          have f6 : a.tmps.getD 45 undef = .pointer (some ⟨p, 0, none⟩) := he 6 (by kernel_rfl)
          obtain ⟨hv5, hp5⟩ := he 5 (by kernel_rfl)
          have f5 : a.tmps.getD 44 undef = _ := hv5
          have hfr : Fr (fun k => (PS p g mb q r) k ∨ False) _ w' := hf.of_start
          replace hfr := hfr.un1
          refine wpOp_run rfl rfl rfl f5 (fun K hK => ?_)
          go_simp
          refine (c_LookE hp5.dk).mono ?_
          rintro e w2 ⟨rfl, hb2⟩
          exact hK _ _ ⟨_, rfl, rfl, Fr.of_bel hb2⟩
        · intro a w' hf he
          have k7 : a.tmps.getD 7 undef = .pointer (some ⟨q, 0, none⟩) := hf.var (by kernel_rfl) rfl
          obtain ⟨hv5, hp5⟩ := he 5 (by kernel_rfl)
          have f5 : a.tmps.getD 44 undef = _ := hv5
          refine wpOp_run rfl rfl rfl f5 (fun K hK => ?_)
          go_simp
          exact hK _ _ ⟨_, rfl, rfl, Fr.refl _ _⟩
        · intro a w' hf he
          have f8 : a.tmps.getD 47 undef = .pointer (some ⟨q, 0, none⟩) := he 8 (by kernel_rfl)
          obtain ⟨hv5, hp5⟩ := he 5 (by kernel_rfl)
          have f5 : a.tmps.getD 44 undef = _ := hv5
          have hfr : Fr (fun k => (PS p g mb q r) k ∨ False) _ w' := hf.of_start
          replace hfr := hfr.un1
          refine wpOp_run rfl rfl rfl f5 (fun K hK => ?_)
          go_simp
          refine (r_Look hp5.rk).mono ?_
          rintro e w2 ⟨rfl, hb2⟩
          exact hK _ _ ⟨_, rfl, rfl, Fr.of_bel hb2⟩
        · intro a w' hf he
          have f7 : a.tmps.getD 46 undef = .agg #[.int .u32 (boot D' : Int), .int .u64 (hotOf D' : Int), .int .u64 (dirtyOf D' : Int)] := he 7 (by kernel_rfl)
          have f9 : a.tmps.getD 48 undef = .agg #[.int .u32 (boot D' : Int), .int .u64 (hotOf D' : Int), .int .u64 (dirtyOf D' : Int)] := he 9 (by kernel_rfl)
          obtain ⟨hv5, hp5⟩ := he 5 (by kernel_rfl)
          have f5 : a.tmps.getD 44 undef = _ := hv5
          refine wpOp_run rfl rfl rfl f5 (fun K hK => ?_)
          go_simp
          exact hK _ _ ⟨_, rfl, rfl, Fr.refl _ _⟩
        · intro a w' hf he
          obtain ⟨hv5, hp5⟩ := he 5 (by kernel_rfl)
          have f5 : a.tmps.getD 44 undef = _ := hv5
          have f10 : a.tmps.getD 49 undef = .bool false := he 10 (by kernel_rfl)
          have hfr : Fr (fun k => (PS p g mb q r) k ∨ False) _ w' := hf.of_start
          replace hfr := hfr.un1
          refine wpOp_step rfl (fun K hK => ?_)
          go_simp
          exact hK _ _ ⟨_, rfl, ⟨rfl, hp5⟩, Fr.refl _ _⟩
        · intro a w' hf he
          obtain ⟨hv11, hp11⟩ := he 11 (by kernel_rfl)
          have f11 : a.tmps.getD 50 undef = _ := hv11
          refine wpOp_step rfl (fun K hK => ?_)
          go_simp
          exact hK _ _ ⟨_, rfl, ⟨rfl, hp11⟩, Fr.refl _ _⟩
        · intro a w' hf he
          have k5 : a.tmps.getD 5 undef = .pointer (some ⟨p, 0, none⟩) := hf.var (by kernel_rfl) rfl
          obtain ⟨hv12, hp12⟩ := he 12 (by kernel_rfl)
          have f12 : a.tmps.getD 51 undef = _ := hv12
          refine wpOp_run rfl rfl rfl f12 (fun K hK => ?_)
          go_simp
          exact hK _ _ ⟨_, rfl, rfl, Fr.refl _ _⟩
        · intro a w' hf he
          have f13 : a.tmps.getD 52 undef = .pointer (some ⟨p, 0, none⟩) := he 13 (by kernel_rfl)
          obtain ⟨hv12, hp12⟩ := he 12 (by kernel_rfl)
          have f12 : a.tmps.getD 51 undef = _ := hv12
          have hfr : Fr (fun k => (PS p g mb q r) k ∨ False) _ w' := hf.of_start
          replace hfr := hfr.un1
          refine wpOp_run rfl rfl rfl f12 (fun K hK => ?_)
          go_simp
          refine (c_Ops hp12.dk).mono ?_
          rintro e w2 ⟨rfl, rfl⟩
          exact hK _ _ ⟨_, rfl, rfl, Fr.refl _ _⟩
        · intro a w' hf he
          have k7 : a.tmps.getD 7 undef = .pointer (some ⟨q, 0, none⟩) := hf.var (by kernel_rfl) rfl
          obtain ⟨hv12, hp12⟩ := he 12 (by kernel_rfl)
          have f12 : a.tmps.getD 51 undef = _ := hv12
          refine wpOp_run rfl rfl rfl f12 (fun K hK => ?_)
          go_simp
          exact hK _ _ ⟨_, rfl, rfl, Fr.refl _ _⟩
        · intro a w' hf he
          have f15 : a.tmps.getD 54 undef = .pointer (some ⟨q, 0, none⟩) := he 15 (by kernel_rfl)
          obtain ⟨hv12, hp12⟩ := he 12 (by kernel_rfl)
          have f12 : a.tmps.getD 51 undef = _ := hv12
          refine wpOp_run rfl rfl rfl f12 (fun K hK => ?_)
          go_simp
          exact hK _ _ ⟨_, rfl, rfl, Fr.refl _ _⟩
        · intro a w' hf he
          have f16 : a.tmps.getD 55 undef = .pointer (some ⟨q, 0, none⟩) := he 16 (by kernel_rfl)
          obtain ⟨hv12, hp12⟩ := he 12 (by kernel_rfl)
          have f12 : a.tmps.getD 51 undef = _ := hv12
          refine wpOp_run rfl rfl rfl f12 (fun K hK => ?_)
          go_simp
          exact hK _ _ ⟨_, rfl, rfl, Fr.refl _ _⟩
        · intro a w' hf he
          have f17 : a.tmps.getD 56 undef = .pointer (some ⟨q, 3, none⟩) := he 17 (by kernel_rfl)
          obtain ⟨hv12, hp12⟩ := he 12 (by kernel_rfl)
          have f12 : a.tmps.getD 51 undef = _ := hv12
          have hfr : Fr (fun k => (PS p g mb q r) k ∨ False) _ w' := hf.of_start
          replace hfr := hfr.un1
          have dd := hp12.rk.cells.2.2.2
          refine wpOp_run rfl rfl rfl f12 (fun K hK => ?_)
          go_simp
          exact hK _ _ ⟨_, rfl, rfl, Fr.refl _ _⟩
        · intro a w' hf he
          have f14 : a.tmps.getD 53 undef = .int .i64 (D'.ops : Int) := he 14 (by kernel_rfl)
          have f18 : a.tmps.getD 57 undef = .int .i64 (D'.ops : Int) := he 18 (by kernel_rfl)
          obtain ⟨hv12, hp12⟩ := he 12 (by kernel_rfl)
          have f12 : a.tmps.getD 51 undef = _ := hv12
          refine wpOp_run rfl rfl rfl f12 (fun K hK => ?_)
          go_simp
          exact hK _ _ ⟨_, rfl, rfl, Fr.refl _ _⟩
        · intro a w' hf he
          obtain ⟨hv12, hp12⟩ := he 12 (by kernel_rfl)
          have f12 : a.tmps.getD 51 undef = _ := hv12
          have f19 : a.tmps.getD 58 undef = .bool false := he 19 (by kernel_rfl)
          have hfr : Fr (fun k => (PS p g mb q r) k ∨ False) _ w' := hf.of_start
          replace hfr := hfr.un1
          refine wpOp_step rfl (fun K hK => ?_)
          go_simp
          exact hK _ _ ⟨_, rfl, ⟨rfl, hp12⟩, Fr.refl _ _⟩
      · intro a w' hf he
        obtain ⟨u39, f0⟩ : ∃ u, a.tmps.getD 39 undef = u := ⟨_, rfl⟩
        obtain ⟨u40, f1⟩ : ∃ u, a.tmps.getD 40 undef = u := ⟨_, rfl⟩
        obtain ⟨u41, f2⟩ : ∃ u, a.tmps.getD 41 undef = u := ⟨_, rfl⟩
        obtain ⟨u42, f3⟩ : ∃ u, a.tmps.getD 42 undef = u := ⟨_, rfl⟩
        obtain ⟨u43, f4⟩ : ∃ u, a.tmps.getD 43 undef = u := ⟨_, rfl⟩
        obtain ⟨u44, f5⟩ : ∃ u, a.tmps.getD 44 undef = u := ⟨_, rfl⟩
        obtain ⟨u45, f6⟩ : ∃ u, a.tmps.getD 45 undef = u := ⟨_, rfl⟩
        obtain ⟨u46, f7⟩ : ∃ u, a.tmps.getD 46 undef = u := ⟨_, rfl⟩
        obtain ⟨u47, f8⟩ : ∃ u, a.tmps.getD 47 undef = u := ⟨_, rfl⟩
        obtain ⟨u48, f9⟩ : ∃ u, a.tmps.getD 48 undef = u := ⟨_, rfl⟩
        obtain ⟨u49, f10⟩ : ∃ u, a.tmps.getD 49 undef = u := ⟨_, rfl⟩
        obtain ⟨u50, f11⟩ : ∃ u, a.tmps.getD 50 undef = u := ⟨_, rfl⟩
        obtain ⟨u51, f12⟩ : ∃ u, a.tmps.getD 51 undef = u := ⟨_, rfl⟩
        obtain ⟨u52, f13⟩ : ∃ u, a.tmps.getD 52 undef = u := ⟨_, rfl⟩
        obtain ⟨u53, f14⟩ : ∃ u, a.tmps.getD 53 undef = u := ⟨_, rfl⟩
        obtain ⟨u54, f15⟩ : ∃ u, a.tmps.getD 54 undef = u := ⟨_, rfl⟩
        obtain ⟨u55, f16⟩ : ∃ u, a.tmps.getD 55 undef = u := ⟨_, rfl⟩
        obtain ⟨u56, f17⟩ : ∃ u, a.tmps.getD 56 undef = u := ⟨_, rfl⟩
        obtain ⟨u57, f18⟩ : ∃ u, a.tmps.getD 57 undef = u := ⟨_, rfl⟩
        obtain ⟨u58, f19⟩ : ∃ u, a.tmps.getD 58 undef = u := ⟨_, rfl⟩
        obtain ⟨hv20, hp20⟩ := he 20 (by decide)
        have f20 : a.tmps.getD 59 undef = _ := hv20
        have hlit := hf.lit ((39, u39) :: (40, u40) :: (41, u41) :: (42, u42) :: (43, u43) :: (44, u44) :: (45, u45) :: (46, u46) :: (47, u47) :: (48, u48) :: (49, u49) :: (50, u50) :: (51, u51) :: (52, u52) :: (53, u53) :: (54, u54) :: (55, u55) :: (56, u56) :: (57, u57) :: (58, u58) :: (59, _) :: []) (by kernel_rfl) ⟨f0, f1, f2, f3, f4, f5, f6, f7, f8, f9, f10, f11, f12, f13, f14, f15, f16, f17, f18, f19, f20, trivial⟩
        have hB : Fr (fun k => (PS p g mb q r) k ∨ False) _ w' := hf.of_start
        clear he hf f0 f1 f2 f3 f4 f5 f6 f7 f8 f9 f10 f11 f12 f13 f14 f15 f16 f17 f18 f19 f20 hv20
        subst hlit
        simp only [putAll_nil, putAll_cons, Act.put, List.setIfInBounds_toArray, List.set_cons_zero, List.set_cons_succ]
        simp only [List.drop_succ_cons, List.drop_zero]
        have HP9 := Lib.hid hp20
        have HB9 := Lib.hid (pr_below HB.out HG.out HG2.out (hB.mono (S1 := PS p g mb q r) (fun k _ e => by simpa using e)))
        clear hB hp20
        go_wp2_with fail
        go_roundw
        case rel => exact ⟨i + 1, D', by omega, by go_num, HP9, HO', HB9⟩
        case measure => simp [intOf] <;> omega
    · obtain rfl : i = nl := by omega
      go_wp2_with (first
        | (go_at_call 36; (with_reducible refine (c_lives _).mono ?_); rintro e w5 ⟨rfl, b5⟩))
      go_ret
      exact ⟨rfl, HB.out.trans (b5.mono HB.out.size)⟩
end Go.Proofs.YtaldlapnhhhclaaGreat.Meta
