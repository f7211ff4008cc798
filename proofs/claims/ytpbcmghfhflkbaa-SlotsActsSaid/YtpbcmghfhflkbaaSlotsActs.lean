/- The law SlotsActs, walked. Conditions: none. -/
import Derived.Test.YtpbcmghfhflkbaaActRows
import Derived.Test.YtpbcmghfhflkbaaSlots6
set_option linter.unusedVariables false
set_option linter.unusedSimpArgs false
namespace Go.Proofs.Ytpbcmghfhflkbaa.Slots
open Go.RowKit Tw Disk
set_option maxHeartbeats 8000000
set_option maxRecDepth 100000
def actV (k a : Int) (x m : Nat) (s : Sec) : List Value := [.int .i64 k, .int .i64 a, .int .u64 (x : Int), .int .u64 (m : Int)] ++ bytesV s
def ActL : List Leaf := [.int .i64, .int .i64, .int .u64, .int .u64, .int .u8, .int .u8, .int .u8, .int .u8, .int .u8, .int .u8, .int .u8, .int .u8, .int .u8, .int .u8, .int .u8, .int .u8, .int .u8, .int .u8, .int .u8, .int .u8]
theorem act_of {W : World} {r : List Value} (h : RowOk W ActL r) :
    ∃ (k a : Int) (x m : Nat) (s : Sec), r = actV k a x m s ∧ (-9223372036854775808 ≤ a ∧ a ≤ 9223372036854775807) ∧ x < 18446744073709551616 ∧ m < 18446744073709551616 ∧ s.length = 16 := by
  obtain ⟨v1, r1, rfl, k1, h⟩ := rowOk_cons h
  obtain ⟨v2, r2, rfl, k2, h⟩ := rowOk_cons h
  obtain ⟨v3, r3, rfl, k3, h⟩ := rowOk_cons h
  obtain ⟨v4, r4, rfl, k4, h⟩ := rowOk_cons h
  obtain ⟨b, s, hb, rfl, h5⟩ := rowOk_u8s (m := 16) (L := []) h
  obtain rfl := rowOk_nil h5
  obtain ⟨z1, rfl, q1⟩ := leaf_i64 k1
  obtain ⟨z2, rfl, q2⟩ := leaf_i64 k2
  obtain ⟨z3, rfl, q3⟩ := leaf_u64 k3
  obtain ⟨z4, rfl, q4⟩ := leaf_u64 k4
  exact ⟨z1, z2, z3, z4, b, by simp [actV], q2, q3, q4, hb⟩
def act0 : Array Value := #[.int .i64 0, .int .i64 0, .int .u64 0, .int .u64 0, .int .u8 0, .int .u8 0, .int .u8 0, .int .u8 0, .int .u8 0, .int .u8 0, .int .u8 0, .int .u8 0, .int .u8 0, .int .u8 0, .int .u8 0, .int .u8 0, .int .u8 0, .int .u8 0, .int .u8 0, .int .u8 0]
theorem act_one {k a : Int} {x m : Nat} {s : Sec} : ∀ v ∈ (actV k a x m s).toArray, v.oneCell' = true := one_row (by simp [Value.oneCell'])
theorem act4 {W : World} {g : Nat} {k a : Int} {x m : Nat} {s : Sec} {t : TypeId} (h : W.heap[g]? = some (.cells (actV k a x m s).toArray t (0, 0))) :
    W.cell? ⟨g, 0, none⟩ = some (.int .i64 k) ∧ W.cell? ⟨g, 1, none⟩ = some (.int .i64 a) ∧ W.cell? ⟨g, 2, none⟩ = some (.int .u64 (x : Int)) ∧ W.cell? ⟨g, 3, none⟩ = some (.int .u64 (m : Int)) :=
  ⟨cells_at h 0 _ rfl, cells_at h 1 _ rfl, cells_at h 2 _ rfl, cells_at h 3 _ rfl⟩
theorem act_sec {W : World} {g : Nat} {k a : Int} {x m : Nat} {s : Sec} {t : TypeId} (h : W.heap[g]? = some (.cells (actV k a x m s).toArray t (0, 0))) : ∀ j v, (bytesV s)[j]? = some v → W.cell? ((⟨g, 4, none⟩ : Addr).add j) = some v := cells_tail h rfl (by omega)
theorem w_SlotsActs (A : Option Addr) (nl cb : Nat) (rows : List (List Value)) (n b s : Int) (w : World) (hr : SlRows w 20 A nl cb rows) (hro : ∀ (i : Nat) (r : List Value), rows[i]? = some r → RowOk w ActL r) :
    Calls Try.prog 3 #[.slice A nl cb, .agg #[.int .i64 n, .int .i64 b, .int .i64 s]] w fun e w' => e = .returned (.bool true) ∧ Below w.heap.size w w' := by
  have hB := ((Below.refl w.heap.size w).alloc (Nat.le_refl _) (.cells #[.int .i64 n, .int .i64 b, .int .i64 s] 24))
  have HX := Lib.hid (heap_alloc_new w (.cells #[.int .i64 n, .int .i64 b, .int .i64 s] 24))
  obtain ⟨k1, k2, k3⟩ := three_cells HX.out
  have HB0 := Lib.hid hB
  have Hr := Lib.hid hr
  have Hro := Lib.hid hro
  clear hr hro hB
  go_enter Try.func3, Try.ntmps3
  go_wp2_with fail
  go_quiet (fail)
  have HBq := Lib.hid (HB0.out.trans ((Fr.drewN (S := fun _ => False) nq).bel (fun _ e => e.elim) HB0.out.size))
  generalize (w.alloc (.cells #[.int .i64 n, .int .i64 b, .int .i64 s] 24)).drewN nq = W1 at *
  clear k1 k2 k3 HX HB0
  by_cases h2 : 40 < n
  · skip
    go_wp2_with (first
      | (go_at_call 16; (with_reducible refine (c_dNewBad n (by omega) _).mono ?_); rintro e w' ⟨rfl, rfl⟩)
      | (go_at_call 17; (with_reducible refine (r_New_bad n (by omega) _).mono ?_); rintro e w' ⟨rfl, rfl⟩)
      | (go_at_call 15; (with_reducible refine (c_lives _).mono ?_); rintro e w5 ⟨rfl, b5⟩))
    go_ret
    exact ⟨rfl, HBq.out.trans (b5.mono HBq.out.size)⟩
  by_cases h3 : 50 < nl
  · skip
    go_wp2_with (first
      | (go_at_call 16; (with_reducible refine (c_dNewBad n (by omega) _).mono ?_); rintro e w' ⟨rfl, rfl⟩)
      | (go_at_call 17; (with_reducible refine (r_New_bad n (by omega) _).mono ?_); rintro e w' ⟨rfl, rfl⟩)
      | (go_at_call 15; (with_reducible refine (c_lives _).mono ?_); rintro e w5 ⟨rfl, b5⟩))
    go_ret
    exact ⟨rfl, HBq.out.trans (b5.mono HBq.out.size)⟩
  by_cases h1 : n < 1
  · skip
    go_wp2_with (first
      | (go_at_call 16; (with_reducible refine (c_dNewBad n (by omega) _).mono ?_); rintro e w' ⟨rfl, rfl⟩)
      | (go_at_call 17; (with_reducible refine (r_New_bad n (by omega) _).mono ?_); rintro e w' ⟨rfl, rfl⟩)
      | (go_at_call 15; (with_reducible refine (c_lives _).mono ?_); rintro e w5 ⟨rfl, b5⟩))
    go_ret
    exact ⟨rfl, HBq.out.trans (b5.mono HBq.out.size)⟩
  obtain ⟨N, rfl⟩ : ∃ q : Nat, n = (q : Int) := ⟨n.toNat, by omega⟩
  have hN1 : 1 ≤ N := by omega
  have hN2 : N ≤ 40 := by omega
  have hnl : nl ≤ 50 := by omega
  clear h1 h2 h3
  go_wp2_with (first
    | (go_at_call 16
       (with_reducible refine (c_dNewI' (N : Int) N rfl _ hN1 (by omega)).mono ?_)
       rintro e w1 ⟨p, g, mb, rfl, hk, hge, hb1⟩
       have HB := Lib.hid (HBq.out.trans (hb1.mono HBq.out.size))
       have HK := Lib.hid hk
       have HG : Hid (w.heap.size ≤ p ∧ w.heap.size ≤ g ∧ w.heap.size ≤ mb) := Lib.hid (by have := HBq.out.size; omega)
       clear hb1 hk hge)
    | (go_at_call 17
       (with_reducible refine (r_New N _ hN1 (by omega)).mono ?_)
       rintro e w2 ⟨q, r, c', rfl, hk2, hge2, hb2⟩
       have hlk := HK.out.lts
       have HP : Hid (Pr w2 p g mb N q r c' (Dsk.new N)) := Lib.hid ⟨HK.out.bel hb2, hk2, by omega⟩
       have HG2 : Hid (w.heap.size ≤ q ∧ w.heap.size ≤ r) := Lib.hid (by have := HB.out.size; omega)
       have HB := Lib.hid (HB.out.trans (hb2.mono HB.out.size))
       clear hk2 hge2 hb2 hlk HK))
  have hops0 : Hid ((Dsk.new N).ops ≤ 2 * 0) := Lib.hid (Nat.le_refl _)
  generalize Dsk.new N = D0 at *
  go_loopw [50] (fun v wr => ∃ (i : Nat) (D : Dsk), i ≤ nl ∧ v = .int .i64 (i : Int) ∧ Hid (Pr wr p g mb N q r c' D) ∧ Hid (D.ops ≤ 2 * i) ∧ Hid (Below w.heap.size w wr)) (fun v _ => nl - (intOf v).toNat)
  case atStart => exact ⟨0, D0, Nat.zero_le _, rfl, HP, hops0, HB⟩
  case round =>
    clear HP HB hops0
    obtain ⟨i, D, hi, rfl, HP, HO, HB⟩ := hrel
    by_cases hin : i < nl
    · obtain ⟨ad, rw_, rfl, hri, hrl, hcell⟩ := Hr.out.at hin
      obtain ⟨k, av, x2, m2, s2, rfl, ha, hx2, hm2, hs2⟩ := act_of (Hro.out i rw_ hri)
      have Hs2 := Lib.hid hs2
      have ho : Hid (D.ops + 1 < 1000000000) := Lib.hid (by have := HO.out; omega)
      have hhb : ∀ j v, (actV k av x2 m2 s2)[j]? = some v → wr.cell? ((ad.add (i * 20)).add j) = some v := fun j v hv => by
        have hc := hcell j v hv
        rw [HB.out.cell (block_lt_of_cell hc)]
        exact hc
      have Hcs := Lib.hid hhb
      have Hdl : Hid ((actV k av x2 m2 s2).toArray.size = 20) := Lib.hid (by simpa using hrl)
      have HY := Lib.hid (heap_alloc_new wr (.cells act0 37))
      have HYB := Lib.hid ((Below.refl wr.heap.size wr).alloc (Nat.le_refl _) (.cells act0 37))
      have hlp := HP.out.dk.lts
      have hlr := HP.out.rk.lts
      have hne := HP.out.ne
      have HL := Lib.hid (And.intro hlp hlr)
      unfold act0 at HY HYB
      clear hri hrl hcell hhb hs2
      go_upto_block 2 with (first
        | (refine wpL_load_rd rfl 37 (.tmp 52) rfl (ad.add (i * 20)) rfl (actV k av x2 m2 s2) _ Hcs.out Try.underlying37 rfl (by rw [← List.size_toArray, Hdl.out]; kernel_rfl) ?_)
        | (refine wpL_store_all rfl rfl 37 (.tmp 13) (.tmp 53) rfl _ rfl _ rfl _ _ HY.out (by rw [Hdl.out]; kernel_rfl) (by rw [Hdl.out]; rfl) act_one ?_
           intro w8 x8 g8
           have hb8 := HYB.out.grown g8 HYB.out.size (by rintro k ⟨⟩; exact Nat.le_refl _)
           have HP := Lib.hid (HP.out.bel hb8)
           have HB := Lib.hid (HB.out.trans (hb8.mono HB.out.size))
           obtain ⟨e0, e1, e2, e3⟩ := act4 x8
           have X8 := Lib.hid x8
           clear x8 g8 HY HYB hb8 Hcs)
        )
      have hsz8 := HB.out.size
      have hxl := heap_lt X8.out
      have hpl := HL.out
      generalize wr.heap.size = Bx at *
      by_cases z0 : k = 0
      · subst z0
        go_wp2_with fail
        refine wp_region_fr (by kernel_rfl) 13 (fun i_ => match i_ with | 5 => 1 | 11 => 2 | _ => 0) (fun c_ => match c_ with | 1 => fun k => k = p ∨ k = g ∨ k = mb | 2 => fun k => k = q ∨ k = r | _ => fun _ => False) (fun i_ => match i_ with | 0 => [1, 2] | 1 => [1, 2] | 2 => [1, 2] | 3 => [1, 2] | 4 => [1, 2] | 5 => [2] | 6 => [1, 2] | 7 => [1, 2] | 8 => [1, 2] | 9 => [1, 2] | 10 => [1, 2] | _ => []) (fun i_ => match i_ with | 6 => [1] | 7 => [1] | 8 => [1] | 9 => [1] | 10 => [1] | 11 => [1] | 12 => [1, 2] | _ => []) [1, 2] (fun i_ v wz => match i_ with
          | 0 => v = .pointer (some ⟨p, 0, none⟩)
          | 1 => v = .int .i64 b
          | 2 => v = .int .i64 s
          | 3 => v = .pointer (some ⟨Bx, 2, none⟩)
          | 4 => v = .int .u64 (x2 : Int)
          | 5 => v = .int .i64 ((sput D b s x2).2 : Int) ∧ Dk wz p g mb N (sput D b s x2).1
          | 6 => v = .pointer (some ⟨q, 0, none⟩)
          | 7 => v = .int .i64 b
          | 8 => v = .int .i64 s
          | 9 => v = .pointer (some ⟨Bx, 2, none⟩)
          | 10 => v = .int .u64 (x2 : Int)
          | 11 => v = .int .i64 ((sput D b s x2).2 : Int) ∧ Rk wz q r c' (sput D b s x2).1
          | 12 => v = .bool false
          | _ => True) (by kernel_rfl) (by kernel_rfl) ?_ ?_ ?_
        · (repeat' (first | exact allLt_zero | refine allLt_succ ?_ ?_))
          · exact fun _ _ _ h _ => h
          · exact fun _ _ _ h _ => h
          · exact fun _ _ _ h _ => h
          · exact fun _ _ _ h _ => h
          · exact fun _ _ _ h _ => h
          · intro v w1 w2 h hg
            replace hg : Fr (fun k => (fun k => k = q ∨ k = r) k ∨ False) w1 w2 := hg
            replace hg := hg.un1
            exact ⟨h.1, dkfr hne h.2 hg⟩
          · exact fun _ _ _ h _ => h
          · exact fun _ _ _ h _ => h
          · exact fun _ _ _ h _ => h
          · exact fun _ _ _ h _ => h
          · exact fun _ _ _ h _ => h
          · intro v w1 w2 h hg
            replace hg : Fr (fun k => False) w1 w2 := hg
            exact ⟨h.1, h.2.fr hg (fun e => e) (fun e => e)⟩
          · exact fun _ _ _ h _ => h
        · (repeat' (first | exact allLt_zero | refine allLt_succ ?_ ?_))
          · intro a w' hf he
            have k8 : a.tmps.getD 8 undef = .pointer (some ⟨p, 0, none⟩) := hf.var (by kernel_rfl) rfl
            refine wpOp_step rfl (fun K hK => ?_)
            go_simp
            exact hK _ _ ⟨_, rfl, rfl, Fr.refl _ _⟩
          · intro a w' hf he
            have k6 : a.tmps.getD 6 undef = .int .i64 b := hf.var (by kernel_rfl) rfl
            refine wpOp_step rfl (fun K hK => ?_)
            go_simp
            exact hK _ _ ⟨_, rfl, rfl, Fr.refl _ _⟩
          · intro a w' hf he
            have k7 : a.tmps.getD 7 undef = .int .i64 s := hf.var (by kernel_rfl) rfl
            refine wpOp_step rfl (fun K hK => ?_)
            go_simp
            exact hK _ _ ⟨_, rfl, rfl, Fr.refl _ _⟩
          · intro a w' hf he
            have k13 : a.tmps.getD 13 undef = .pointer (some ⟨Bx, 0, none⟩) := hf.var (by kernel_rfl) rfl
            have hfr : Fr (fun k => False) _ w' := hf.of_start
            refine wpOp_step rfl (fun K hK => ?_)
            go_simp
            exact hK _ _ ⟨_, rfl, rfl, Fr.refl _ _⟩
          · intro a w' hf he
            have f3 : a.tmps.getD 61 undef = .pointer (some ⟨Bx, 2, none⟩) := he 3 (by kernel_rfl)
            have hfr : Fr (fun k => False) _ w' := hf.of_start
            have hx := heap_fr X8.out hfr (by first | exact fun e => e | (intro e; simp only [or_false] at e; omega) | omega)
            have dd := (act4 hx).2.2.1
            clear hx
            refine wpOp_step rfl (fun K hK => ?_)
            go_simp
            exact hK _ _ ⟨_, rfl, rfl, Fr.refl _ _⟩
          · intro a w' hf he
            have f0 : a.tmps.getD 58 undef = .pointer (some ⟨p, 0, none⟩) := he 0 (by kernel_rfl)
            have f1 : a.tmps.getD 59 undef = .int .i64 b := he 1 (by kernel_rfl)
            have f2 : a.tmps.getD 60 undef = .int .i64 s := he 2 (by kernel_rfl)
            have f4 : a.tmps.getD 62 undef = .int .u64 (x2 : Int) := he 4 (by kernel_rfl)
            have hfr : Fr (fun k => False) _ w' := hf.of_start
            have hd := HP.out.dk.fr hfr (fun e => e) (fun e => e) (fun e => e)
            refine wpOp_step rfl (fun K hK => ?_)
            go_simp
            refine (c_Put hd ho.out b s x2 hx2).mono ?_
            rintro e w2 ⟨rfl, hk2, f2⟩
            exact hK _ _ ⟨_, rfl, ⟨rfl, hk2⟩, f2.mono (fun k _ e => .inl e)⟩
          · intro a w' hf he
            have k10 : a.tmps.getD 10 undef = .pointer (some ⟨q, 0, none⟩) := hf.var (by kernel_rfl) rfl
            refine wpOp_step rfl (fun K hK => ?_)
            go_simp
            exact hK _ _ ⟨_, rfl, rfl, Fr.refl _ _⟩
          · intro a w' hf he
            have k6 : a.tmps.getD 6 undef = .int .i64 b := hf.var (by kernel_rfl) rfl
            refine wpOp_step rfl (fun K hK => ?_)
            go_simp
            exact hK _ _ ⟨_, rfl, rfl, Fr.refl _ _⟩
          · intro a w' hf he
            have k7 : a.tmps.getD 7 undef = .int .i64 s := hf.var (by kernel_rfl) rfl
            refine wpOp_step rfl (fun K hK => ?_)
            go_simp
            exact hK _ _ ⟨_, rfl, rfl, Fr.refl _ _⟩
          · intro a w' hf he
            have k13 : a.tmps.getD 13 undef = .pointer (some ⟨Bx, 0, none⟩) := hf.var (by kernel_rfl) rfl
            have hfr : Fr (fun k => (fun k => k = p ∨ k = g ∨ k = mb) k ∨ False) _ w' := hf.of_start
            replace hfr := hfr.un1
            refine wpOp_step rfl (fun K hK => ?_)
            go_simp
            exact hK _ _ ⟨_, rfl, rfl, Fr.refl _ _⟩
          · intro a w' hf he
            have f9 : a.tmps.getD 67 undef = .pointer (some ⟨Bx, 2, none⟩) := he 9 (by kernel_rfl)
            have hfr : Fr (fun k => (fun k => k = p ∨ k = g ∨ k = mb) k ∨ False) _ w' := hf.of_start
            replace hfr := hfr.un1
            have hx := heap_fr X8.out hfr (by first | exact fun e => e | (intro e; simp only [or_false] at e; omega) | omega)
            have dd := (act4 hx).2.2.1
            clear hx
            refine wpOp_step rfl (fun K hK => ?_)
            go_simp
            exact hK _ _ ⟨_, rfl, rfl, Fr.refl _ _⟩
          · intro a w' hf he
            have f6 : a.tmps.getD 64 undef = .pointer (some ⟨q, 0, none⟩) := he 6 (by kernel_rfl)
            have f7 : a.tmps.getD 65 undef = .int .i64 b := he 7 (by kernel_rfl)
            have f8 : a.tmps.getD 66 undef = .int .i64 s := he 8 (by kernel_rfl)
            have f10 : a.tmps.getD 68 undef = .int .u64 (x2 : Int) := he 10 (by kernel_rfl)
            have hfr : Fr (fun k => (fun k => k = p ∨ k = g ∨ k = mb) k ∨ False) _ w' := hf.of_start
            replace hfr := hfr.un1
            have hd := rkfr hne HP.out.rk hfr
            refine wpOp_step rfl (fun K hK => ?_)
            go_simp
            refine (r_Put hd ho.out b s x2 hx2).mono ?_
            rintro e w2 ⟨rfl, hk2, f2⟩
            exact hK _ _ ⟨_, rfl, ⟨rfl, hk2⟩, f2.mono (fun k _ e => .inl e)⟩
          · intro a w' hf he
            obtain ⟨hv5, hk5⟩ := he 5 (by kernel_rfl)
            have f5 : a.tmps.getD 63 undef = _ := hv5
            obtain ⟨hv11, hk11⟩ := he 11 (by kernel_rfl)
            have f11 : a.tmps.getD 69 undef = _ := hv11
            have hfr : Fr (fun k => (fun k => k = p ∨ k = g ∨ k = mb) k ∨ (fun k => k = q ∨ k = r) k ∨ False) _ w' := hf.of_start
            refine wpOp_step rfl (fun K hK => ?_)
            go_simp
            exact hK _ _ ⟨_, rfl, rfl, Fr.refl _ _⟩
        · intro a w' hf he
          obtain ⟨u58, f0⟩ : ∃ u, a.tmps.getD 58 undef = u := ⟨_, rfl⟩
          obtain ⟨u59, f1⟩ : ∃ u, a.tmps.getD 59 undef = u := ⟨_, rfl⟩
          obtain ⟨u60, f2⟩ : ∃ u, a.tmps.getD 60 undef = u := ⟨_, rfl⟩
          obtain ⟨u61, f3⟩ : ∃ u, a.tmps.getD 61 undef = u := ⟨_, rfl⟩
          obtain ⟨u62, f4⟩ : ∃ u, a.tmps.getD 62 undef = u := ⟨_, rfl⟩
          obtain ⟨hv5, hk5⟩ := he 5 (by decide)
          have f5 : a.tmps.getD 63 undef = _ := hv5
          obtain ⟨u64, f6⟩ : ∃ u, a.tmps.getD 64 undef = u := ⟨_, rfl⟩
          obtain ⟨u65, f7⟩ : ∃ u, a.tmps.getD 65 undef = u := ⟨_, rfl⟩
          obtain ⟨u66, f8⟩ : ∃ u, a.tmps.getD 66 undef = u := ⟨_, rfl⟩
          obtain ⟨u67, f9⟩ : ∃ u, a.tmps.getD 67 undef = u := ⟨_, rfl⟩
          obtain ⟨u68, f10⟩ : ∃ u, a.tmps.getD 68 undef = u := ⟨_, rfl⟩
          obtain ⟨hv11, hk11⟩ := he 11 (by decide)
          have f11 : a.tmps.getD 69 undef = _ := hv11
          have f12 : a.tmps.getD 70 undef = .bool false := he 12 (by decide)
          have hlit := hf.lit ((58, u58) :: (59, u59) :: (60, u60) :: (61, u61) :: (62, u62) :: (63, _) :: (64, u64) :: (65, u65) :: (66, u66) :: (67, u67) :: (68, u68) :: (69, _) :: (70, .bool false) :: []) (by kernel_rfl) ⟨f0, f1, f2, f3, f4, f5, f6, f7, f8, f9, f10, f11, f12, trivial⟩
          have hB : Fr (fun k => (fun k => k = p ∨ k = g ∨ k = mb) k ∨ (fun k => k = q ∨ k = r) k ∨ False) _ w' := hf.of_start
          clear he hf f0 f1 f2 f3 f4 f5 f6 f7 f8 f9 f10 f11 f12 hv5 hv11
          subst hlit
          simp only [putAll_nil, putAll_cons, Act.put, List.setIfInBounds_toArray, List.set_cons_zero, List.set_cons_succ]
          simp only [List.drop_succ_cons, List.drop_zero]
          have HP' := Lib.hid (Pr.mk hk5 hk11 hne)
          have HB' := Lib.hid (pr_bel HB.out HG.out HG2.out hB (fun k e => by simp only [or_false] at e; omega))
          have HOn : Hid ((sput D b s x2).1.ops ≤ 2 * (i + 1)) := Lib.hid (by have := sput_ops D b s x2; have := HO.out; omega)
          clear hk5 hk11 hB e0 e1 e2 e3
          obtain ⟨D', hD'⟩ : ∃ D', D' = (sput D b s x2).1 := ⟨_, rfl⟩
          rw [← hD'] at HP'
          have HO' : Hid (D'.ops ≤ 2 * (i + 1)) := Lib.hid (by rw [hD']; exact HOn.out)
          clear hD' HOn HP
          have hLd := fun w (h : Dk w p g mb N D') => c_Latest h b s
          have hLr := fun w (h : Rk w q r c' D') => r_Latest h b s
          obtain ⟨⟨l1, l2⟩, hl⟩ : ∃ r, latest D' b s = r := ⟨_, rfl⟩
          rw [hl] at hLd hLr
          simp only at hLd hLr
          clear hl
          go_wp2_with (first
            | (go_at_call 26
               (with_reducible refine (hLd _ HP'.out.dk).mono ?_)
               rintro e w20 ⟨rfl, hb20⟩
               have HP' := Lib.hid (HP'.out.bel hb20)
               have HB' := Lib.hid (HB'.out.trans (hb20.mono HB'.out.size))
               clear hb20 hLd)
            | (go_at_call 27
               (with_reducible refine (hLr _ HP'.out.rk).mono ?_)
               rintro e w21 ⟨rfl, hb21⟩
               have HP' := Lib.hid (HP'.out.bel hb21)
               have HB' := Lib.hid (HB'.out.trans (hb21.mono HB'.out.size))
               clear hb21 hLr))
          refine wp_region_phi (by kernel_rfl) 17 none (fun _ => false) (fun i_ v wz => match i_ with
            | 0 => v = .int .u32 (l1 : Int)
            | 1 => v = .int .u32 (l1 : Int)
            | 2 => v = .bool false
            | 3 => v = .bool false
            | 4 => v = .int .u64 (l2 : Int)
            | 5 => v = .int .u64 (l2 : Int)
            | 6 => v = .bool false
            | 7 => v = .bool false
            | 8 => v = .bool false
            | 9 => v = .pointer (some ⟨p, 0, none⟩)
            | 10 => v = .int .i64 (D'.ops : Int)
            | 11 => v = .pointer (some ⟨q, 0, none⟩)
            | 12 => v = .pointer (some ⟨q, 0, none⟩)
            | 13 => v = .pointer (some ⟨q, 3, none⟩)
            | 14 => v = .int .i64 (D'.ops : Int)
            | 15 => v = .bool false
            | 16 => v = .bool false
            | _ => True) (by kernel_rfl) ?_ ?_ ?_
          · (repeat' (first | exact allLt_zero | refine allLt_succ ?_ ?_))
            · exact fun _ _ _ h _ => h
            · exact fun _ _ _ h _ => h
            · exact fun _ _ _ h _ => h
            · exact fun _ _ _ h _ => h
            · exact fun _ _ _ h _ => h
            · exact fun _ _ _ h _ => h
            · exact fun _ _ _ h _ => h
            · exact fun _ _ _ h _ => h
            · exact fun _ _ _ h _ => h
            · exact fun _ _ _ h _ => h
            · exact fun _ _ _ h _ => h
            · exact fun _ _ _ h _ => h
            · exact fun _ _ _ h _ => h
            · exact fun _ _ _ h _ => h
            · exact fun _ _ _ h _ => h
            · exact fun _ _ _ h _ => h
            · exact fun _ _ _ h _ => h
          · (repeat' (first | exact allLt_zero | refine allLt_succ ?_ ?_))
            · intro a w' hf he
              have k14 : a.tmps.getD 14 undef = .int .u32 (l1 : Int) := hf.var (by kernel_rfl) rfl
              refine wpOp_step rfl (fun K hK => ?_)
              go_simp
              exact hK _ _ ⟨_, rfl, rfl, World.grownBy.refl _ _⟩
            · intro a w' hf he
              have k16 : a.tmps.getD 16 undef = .int .u32 (l1 : Int) := hf.var (by kernel_rfl) rfl
              refine wpOp_step rfl (fun K hK => ?_)
              go_simp
              exact hK _ _ ⟨_, rfl, rfl, World.grownBy.refl _ _⟩
            · intro a w' hf he
              have f0 : a.tmps.getD 120 undef = .int .u32 (l1 : Int) := he 0 (by kernel_rfl)
              have f1 : a.tmps.getD 121 undef = .int .u32 (l1 : Int) := he 1 (by kernel_rfl)
              refine wpOp_step rfl (fun K hK => ?_)
              go_simp
              exact hK _ _ ⟨_, rfl, rfl, World.grownBy.refl _ _⟩
            · intro a w' hf he
              have f2 : a.tmps.getD 122 undef = .bool false := he 2 (by kernel_rfl)
              refine wpOp_step rfl (fun K hK => ?_)
              go_simp
              exact hK _ _ ⟨_, rfl, rfl, World.grownBy.refl _ _⟩
            · intro a w' hf he
              have k15 : a.tmps.getD 15 undef = .int .u64 (l2 : Int) := hf.var (by kernel_rfl) rfl
              have f3 : a.tmps.getD 123 undef = .bool false := he 3 (by kernel_rfl)
              refine wpOp_run rfl rfl rfl f3 (fun K hK => ?_)
              go_simp
              exact hK _ _ ⟨_, rfl, rfl, World.grownBy.refl _ _⟩
            · intro a w' hf he
              have k17 : a.tmps.getD 17 undef = .int .u64 (l2 : Int) := hf.var (by kernel_rfl) rfl
              have f3 : a.tmps.getD 123 undef = .bool false := he 3 (by kernel_rfl)
              refine wpOp_run rfl rfl rfl f3 (fun K hK => ?_)
              go_simp
              exact hK _ _ ⟨_, rfl, rfl, World.grownBy.refl _ _⟩
            · intro a w' hf he
              have f4 : a.tmps.getD 124 undef = .int .u64 (l2 : Int) := he 4 (by kernel_rfl)
              have f5 : a.tmps.getD 125 undef = .int .u64 (l2 : Int) := he 5 (by kernel_rfl)
              have f3 : a.tmps.getD 123 undef = .bool false := he 3 (by kernel_rfl)
              refine wpOp_run rfl rfl rfl f3 (fun K hK => ?_)
              go_simp
              exact hK _ _ ⟨_, rfl, rfl, World.grownBy.refl _ _⟩
            · intro a w' hf he
              have f3 : a.tmps.getD 123 undef = .bool false := he 3 (by kernel_rfl)
              have f6 : a.tmps.getD 126 undef = .bool false := he 6 (by kernel_rfl)
              refine wpOp_step rfl (fun K hK => ?_)
              go_simp
              exact hK _ _ ⟨_, rfl, rfl, World.grownBy.refl _ _⟩
            · intro a w' hf he
              have f7 : a.tmps.getD 127 undef = .bool false := he 7 (by kernel_rfl)
              refine wpOp_step rfl (fun K hK => ?_)
              go_simp
              exact hK _ _ ⟨_, rfl, rfl, World.grownBy.refl _ _⟩
            · intro a w' hf he
              have k8 : a.tmps.getD 8 undef = .pointer (some ⟨p, 0, none⟩) := hf.var (by kernel_rfl) rfl
              have f8 : a.tmps.getD 128 undef = .bool false := he 8 (by kernel_rfl)
              refine wpOp_run rfl rfl rfl f8 (fun K hK => ?_)
              go_simp
              exact hK _ _ ⟨_, rfl, rfl, World.grownBy.refl _ _⟩
            · intro a w' hf he
              have f9 : a.tmps.getD 129 undef = .pointer (some ⟨p, 0, none⟩) := he 9 (by kernel_rfl)
              have f8 : a.tmps.getD 128 undef = .bool false := he 8 (by kernel_rfl)
              rw [show kindRow _ _ = none from by kernel_rfl] at hf
              refine wpOp_run rfl rfl rfl f8 (fun K hK => ?_)
              go_simp
              refine (c_Ops (HP'.out.dk.bel hf.bel)).mono ?_
              rintro e w2 ⟨rfl, rfl⟩
              exact hK _ _ ⟨_, rfl, rfl, World.grownBy.refl _ _⟩
            · intro a w' hf he
              have k10 : a.tmps.getD 10 undef = .pointer (some ⟨q, 0, none⟩) := hf.var (by kernel_rfl) rfl
              have f8 : a.tmps.getD 128 undef = .bool false := he 8 (by kernel_rfl)
              refine wpOp_run rfl rfl rfl f8 (fun K hK => ?_)
              go_simp
              exact hK _ _ ⟨_, rfl, rfl, World.grownBy.refl _ _⟩
            · intro a w' hf he
              have f11 : a.tmps.getD 131 undef = .pointer (some ⟨q, 0, none⟩) := he 11 (by kernel_rfl)
              have f8 : a.tmps.getD 128 undef = .bool false := he 8 (by kernel_rfl)
              refine wpOp_run rfl rfl rfl f8 (fun K hK => ?_)
              go_simp
              exact hK _ _ ⟨_, rfl, rfl, World.grownBy.refl _ _⟩
            · intro a w' hf he
              have f12 : a.tmps.getD 132 undef = .pointer (some ⟨q, 0, none⟩) := he 12 (by kernel_rfl)
              have f8 : a.tmps.getD 128 undef = .bool false := he 8 (by kernel_rfl)
              refine wpOp_run rfl rfl rfl f8 (fun K hK => ?_)
              go_simp
              exact hK _ _ ⟨_, rfl, rfl, World.grownBy.refl _ _⟩
            · intro a w' hf he
              have f13 : a.tmps.getD 133 undef = .pointer (some ⟨q, 3, none⟩) := he 13 (by kernel_rfl)
              have f8 : a.tmps.getD 128 undef = .bool false := he 8 (by kernel_rfl)
              rw [show kindRow _ _ = none from by kernel_rfl] at hf
              have dd := (HP'.out.rk.bel hf.bel).cells.2.2.2
              refine wpOp_run rfl rfl rfl f8 (fun K hK => ?_)
              go_simp
              exact hK _ _ ⟨_, rfl, rfl, World.grownBy.refl _ _⟩
            · intro a w' hf he
              have f10 : a.tmps.getD 130 undef = .int .i64 (D'.ops : Int) := he 10 (by kernel_rfl)
              have f14 : a.tmps.getD 134 undef = .int .i64 (D'.ops : Int) := he 14 (by kernel_rfl)
              have f8 : a.tmps.getD 128 undef = .bool false := he 8 (by kernel_rfl)
              refine wpOp_run rfl rfl rfl f8 (fun K hK => ?_)
              go_simp
              exact hK _ _ ⟨_, rfl, rfl, World.grownBy.refl _ _⟩
            · intro a w' hf he
              have f8 : a.tmps.getD 128 undef = .bool false := he 8 (by kernel_rfl)
              have f15 : a.tmps.getD 135 undef = .bool false := he 15 (by kernel_rfl)
              refine wpOp_step rfl (fun K hK => ?_)
              go_simp
              exact hK _ _ ⟨_, rfl, rfl, World.grownBy.refl _ _⟩
          · intro a w' hf he
            obtain ⟨u120, f0⟩ : ∃ u, a.tmps.getD 120 undef = u := ⟨_, rfl⟩
            obtain ⟨u121, f1⟩ : ∃ u, a.tmps.getD 121 undef = u := ⟨_, rfl⟩
            obtain ⟨u122, f2⟩ : ∃ u, a.tmps.getD 122 undef = u := ⟨_, rfl⟩
            obtain ⟨u123, f3⟩ : ∃ u, a.tmps.getD 123 undef = u := ⟨_, rfl⟩
            obtain ⟨u124, f4⟩ : ∃ u, a.tmps.getD 124 undef = u := ⟨_, rfl⟩
            obtain ⟨u125, f5⟩ : ∃ u, a.tmps.getD 125 undef = u := ⟨_, rfl⟩
            obtain ⟨u126, f6⟩ : ∃ u, a.tmps.getD 126 undef = u := ⟨_, rfl⟩
            obtain ⟨u127, f7⟩ : ∃ u, a.tmps.getD 127 undef = u := ⟨_, rfl⟩
            obtain ⟨u128, f8⟩ : ∃ u, a.tmps.getD 128 undef = u := ⟨_, rfl⟩
            obtain ⟨u129, f9⟩ : ∃ u, a.tmps.getD 129 undef = u := ⟨_, rfl⟩
            obtain ⟨u130, f10⟩ : ∃ u, a.tmps.getD 130 undef = u := ⟨_, rfl⟩
            obtain ⟨u131, f11⟩ : ∃ u, a.tmps.getD 131 undef = u := ⟨_, rfl⟩
            obtain ⟨u132, f12⟩ : ∃ u, a.tmps.getD 132 undef = u := ⟨_, rfl⟩
            obtain ⟨u133, f13⟩ : ∃ u, a.tmps.getD 133 undef = u := ⟨_, rfl⟩
            obtain ⟨u134, f14⟩ : ∃ u, a.tmps.getD 134 undef = u := ⟨_, rfl⟩
            obtain ⟨u135, f15⟩ : ∃ u, a.tmps.getD 135 undef = u := ⟨_, rfl⟩
            have f16 : a.tmps.getD 136 undef = .bool false := he 16 (by decide)
            have hlit := hf.lit ((120, u120) :: (121, u121) :: (122, u122) :: (123, u123) :: (124, u124) :: (125, u125) :: (126, u126) :: (127, u127) :: (128, u128) :: (129, u129) :: (130, u130) :: (131, u131) :: (132, u132) :: (133, u133) :: (134, u134) :: (135, u135) :: (136, .bool false) :: []) (by kernel_rfl) ⟨f0, f1, f2, f3, f4, f5, f6, f7, f8, f9, f10, f11, f12, f13, f14, f15, f16, trivial⟩
            have hB := hf.bel
            clear he hf f0 f1 f2 f3 f4 f5 f6 f7 f8 f9 f10 f11 f12 f13 f14 f15 f16 
            subst hlit
            simp only [putAll_nil, putAll_cons, Act.put, List.setIfInBounds_toArray, List.set_cons_zero, List.set_cons_succ]
            simp only [List.drop_succ_cons, List.drop_zero]
            have HP9 := Lib.hid (HP'.out.bel hB)
            have HB9 := Lib.hid (HB'.out.trans (hB.mono HB'.out.size))
            clear hB
            go_wp2_with fail
            go_roundw
            case rel => exact ⟨i + 1, D', by omega, by go_num, HP9, HO', HB9⟩
            case measure => simp [intOf] <;> omega
      by_cases z1 : k = 1
      · subst z1
        go_upto_region 26 with (first
        | (go_at_call 20
           (with_reducible refine (c_Crash HP.out.dk m2 hm2).mono ?_)
           rintro e w9 ⟨rfl, hk9, f9a⟩
           have f9 := f9a.mono (S1 := fun k => k = p ∨ k = g ∨ k = mb) (fun k _ e => e)
           have HK := Lib.hid hk9
           have HR := Lib.hid (rkfr hne HP.out.rk f9)
           have HB := Lib.hid (pr_bel HB.out HG.out HG2.out f9 (by omega))
           have hx9 := heap_fr X8.out f9 (by have := HL.out; omega)
           clear e0 e1 e2 e3
           obtain ⟨e0, e1, e2, e3⟩ := act4 hx9
           clear hk9 f9 f9a hx9)
        | (go_at_call 21
           (with_reducible refine (r_Crash HR.out m2 hm2).mono ?_)
           rintro e w10 ⟨rfl, hk10, f10a⟩
           have f10 := f10a.mono (S1 := fun k => k = q ∨ k = r) (fun k _ e => e)
           have HP' := Lib.hid (Pr.mk (dkfr hne HK.out f10) hk10 hne)
           have HB' := Lib.hid (pr_bel HB.out HG.out HG2.out f10 (by omega))
           clear e0 e1 e2 e3 hk10 f10 f10a HK HR)
        )
        have HOn : Hid ((D.crash m2).ops ≤ 2 * (i + 1)) := Lib.hid (by have := HO.out; show D.ops ≤ _; omega)
        obtain ⟨D', hD'⟩ : ∃ D', D' = (D.crash m2) := ⟨_, rfl⟩
        rw [← hD'] at HP'
        have HO' : Hid (D'.ops ≤ 2 * (i + 1)) := Lib.hid (by rw [hD']; exact HOn.out)
        clear hD' HOn HP
        have hLd := fun w (h : Dk w p g mb N D') => c_Latest h b s
        have hLr := fun w (h : Rk w q r c' D') => r_Latest h b s
        obtain ⟨⟨l1, l2⟩, hl⟩ : ∃ r, latest D' b s = r := ⟨_, rfl⟩
        rw [hl] at hLd hLr
        simp only at hLd hLr
        clear hl
        go_wp2_with (first
          | (go_at_call 26
             (with_reducible refine (hLd _ HP'.out.dk).mono ?_)
             rintro e w20 ⟨rfl, hb20⟩
             have HP' := Lib.hid (HP'.out.bel hb20)
             have HB' := Lib.hid (HB'.out.trans (hb20.mono HB'.out.size))
             clear hb20 hLd)
          | (go_at_call 27
             (with_reducible refine (hLr _ HP'.out.rk).mono ?_)
             rintro e w21 ⟨rfl, hb21⟩
             have HP' := Lib.hid (HP'.out.bel hb21)
             have HB' := Lib.hid (HB'.out.trans (hb21.mono HB'.out.size))
             clear hb21 hLr))
        refine wp_region_phi (by kernel_rfl) 17 none (fun _ => false) (fun i_ v wz => match i_ with
          | 0 => v = .int .u32 (l1 : Int)
          | 1 => v = .int .u32 (l1 : Int)
          | 2 => v = .bool false
          | 3 => v = .bool false
          | 4 => v = .int .u64 (l2 : Int)
          | 5 => v = .int .u64 (l2 : Int)
          | 6 => v = .bool false
          | 7 => v = .bool false
          | 8 => v = .bool false
          | 9 => v = .pointer (some ⟨p, 0, none⟩)
          | 10 => v = .int .i64 (D'.ops : Int)
          | 11 => v = .pointer (some ⟨q, 0, none⟩)
          | 12 => v = .pointer (some ⟨q, 0, none⟩)
          | 13 => v = .pointer (some ⟨q, 3, none⟩)
          | 14 => v = .int .i64 (D'.ops : Int)
          | 15 => v = .bool false
          | 16 => v = .bool false
          | _ => True) (by kernel_rfl) ?_ ?_ ?_
        · (repeat' (first | exact allLt_zero | refine allLt_succ ?_ ?_))
          · exact fun _ _ _ h _ => h
          · exact fun _ _ _ h _ => h
          · exact fun _ _ _ h _ => h
          · exact fun _ _ _ h _ => h
          · exact fun _ _ _ h _ => h
          · exact fun _ _ _ h _ => h
          · exact fun _ _ _ h _ => h
          · exact fun _ _ _ h _ => h
          · exact fun _ _ _ h _ => h
          · exact fun _ _ _ h _ => h
          · exact fun _ _ _ h _ => h
          · exact fun _ _ _ h _ => h
          · exact fun _ _ _ h _ => h
          · exact fun _ _ _ h _ => h
          · exact fun _ _ _ h _ => h
          · exact fun _ _ _ h _ => h
          · exact fun _ _ _ h _ => h
        · (repeat' (first | exact allLt_zero | refine allLt_succ ?_ ?_))
          · intro a w' hf he
            have k14 : a.tmps.getD 14 undef = .int .u32 (l1 : Int) := hf.var (by kernel_rfl) rfl
            refine wpOp_step rfl (fun K hK => ?_)
            go_simp
            exact hK _ _ ⟨_, rfl, rfl, World.grownBy.refl _ _⟩
          · intro a w' hf he
            have k16 : a.tmps.getD 16 undef = .int .u32 (l1 : Int) := hf.var (by kernel_rfl) rfl
            refine wpOp_step rfl (fun K hK => ?_)
            go_simp
            exact hK _ _ ⟨_, rfl, rfl, World.grownBy.refl _ _⟩
          · intro a w' hf he
            have f0 : a.tmps.getD 120 undef = .int .u32 (l1 : Int) := he 0 (by kernel_rfl)
            have f1 : a.tmps.getD 121 undef = .int .u32 (l1 : Int) := he 1 (by kernel_rfl)
            refine wpOp_step rfl (fun K hK => ?_)
            go_simp
            exact hK _ _ ⟨_, rfl, rfl, World.grownBy.refl _ _⟩
          · intro a w' hf he
            have f2 : a.tmps.getD 122 undef = .bool false := he 2 (by kernel_rfl)
            refine wpOp_step rfl (fun K hK => ?_)
            go_simp
            exact hK _ _ ⟨_, rfl, rfl, World.grownBy.refl _ _⟩
          · intro a w' hf he
            have k15 : a.tmps.getD 15 undef = .int .u64 (l2 : Int) := hf.var (by kernel_rfl) rfl
            have f3 : a.tmps.getD 123 undef = .bool false := he 3 (by kernel_rfl)
            refine wpOp_run rfl rfl rfl f3 (fun K hK => ?_)
            go_simp
            exact hK _ _ ⟨_, rfl, rfl, World.grownBy.refl _ _⟩
          · intro a w' hf he
            have k17 : a.tmps.getD 17 undef = .int .u64 (l2 : Int) := hf.var (by kernel_rfl) rfl
            have f3 : a.tmps.getD 123 undef = .bool false := he 3 (by kernel_rfl)
            refine wpOp_run rfl rfl rfl f3 (fun K hK => ?_)
            go_simp
            exact hK _ _ ⟨_, rfl, rfl, World.grownBy.refl _ _⟩
          · intro a w' hf he
            have f4 : a.tmps.getD 124 undef = .int .u64 (l2 : Int) := he 4 (by kernel_rfl)
            have f5 : a.tmps.getD 125 undef = .int .u64 (l2 : Int) := he 5 (by kernel_rfl)
            have f3 : a.tmps.getD 123 undef = .bool false := he 3 (by kernel_rfl)
            refine wpOp_run rfl rfl rfl f3 (fun K hK => ?_)
            go_simp
            exact hK _ _ ⟨_, rfl, rfl, World.grownBy.refl _ _⟩
          · intro a w' hf he
            have f3 : a.tmps.getD 123 undef = .bool false := he 3 (by kernel_rfl)
            have f6 : a.tmps.getD 126 undef = .bool false := he 6 (by kernel_rfl)
            refine wpOp_step rfl (fun K hK => ?_)
            go_simp
            exact hK _ _ ⟨_, rfl, rfl, World.grownBy.refl _ _⟩
          · intro a w' hf he
            have f7 : a.tmps.getD 127 undef = .bool false := he 7 (by kernel_rfl)
            refine wpOp_step rfl (fun K hK => ?_)
            go_simp
            exact hK _ _ ⟨_, rfl, rfl, World.grownBy.refl _ _⟩
          · intro a w' hf he
            have k8 : a.tmps.getD 8 undef = .pointer (some ⟨p, 0, none⟩) := hf.var (by kernel_rfl) rfl
            have f8 : a.tmps.getD 128 undef = .bool false := he 8 (by kernel_rfl)
            refine wpOp_run rfl rfl rfl f8 (fun K hK => ?_)
            go_simp
            exact hK _ _ ⟨_, rfl, rfl, World.grownBy.refl _ _⟩
          · intro a w' hf he
            have f9 : a.tmps.getD 129 undef = .pointer (some ⟨p, 0, none⟩) := he 9 (by kernel_rfl)
            have f8 : a.tmps.getD 128 undef = .bool false := he 8 (by kernel_rfl)
            rw [show kindRow _ _ = none from by kernel_rfl] at hf
            refine wpOp_run rfl rfl rfl f8 (fun K hK => ?_)
            go_simp
            refine (c_Ops (HP'.out.dk.bel hf.bel)).mono ?_
            rintro e w2 ⟨rfl, rfl⟩
            exact hK _ _ ⟨_, rfl, rfl, World.grownBy.refl _ _⟩
          · intro a w' hf he
            have k10 : a.tmps.getD 10 undef = .pointer (some ⟨q, 0, none⟩) := hf.var (by kernel_rfl) rfl
            have f8 : a.tmps.getD 128 undef = .bool false := he 8 (by kernel_rfl)
            refine wpOp_run rfl rfl rfl f8 (fun K hK => ?_)
            go_simp
            exact hK _ _ ⟨_, rfl, rfl, World.grownBy.refl _ _⟩
          · intro a w' hf he
            have f11 : a.tmps.getD 131 undef = .pointer (some ⟨q, 0, none⟩) := he 11 (by kernel_rfl)
            have f8 : a.tmps.getD 128 undef = .bool false := he 8 (by kernel_rfl)
            refine wpOp_run rfl rfl rfl f8 (fun K hK => ?_)
            go_simp
            exact hK _ _ ⟨_, rfl, rfl, World.grownBy.refl _ _⟩
          · intro a w' hf he
            have f12 : a.tmps.getD 132 undef = .pointer (some ⟨q, 0, none⟩) := he 12 (by kernel_rfl)
            have f8 : a.tmps.getD 128 undef = .bool false := he 8 (by kernel_rfl)
            refine wpOp_run rfl rfl rfl f8 (fun K hK => ?_)
            go_simp
            exact hK _ _ ⟨_, rfl, rfl, World.grownBy.refl _ _⟩
          · intro a w' hf he
            have f13 : a.tmps.getD 133 undef = .pointer (some ⟨q, 3, none⟩) := he 13 (by kernel_rfl)
            have f8 : a.tmps.getD 128 undef = .bool false := he 8 (by kernel_rfl)
            rw [show kindRow _ _ = none from by kernel_rfl] at hf
            have dd := (HP'.out.rk.bel hf.bel).cells.2.2.2
            refine wpOp_run rfl rfl rfl f8 (fun K hK => ?_)
            go_simp
            exact hK _ _ ⟨_, rfl, rfl, World.grownBy.refl _ _⟩
          · intro a w' hf he
            have f10 : a.tmps.getD 130 undef = .int .i64 (D'.ops : Int) := he 10 (by kernel_rfl)
            have f14 : a.tmps.getD 134 undef = .int .i64 (D'.ops : Int) := he 14 (by kernel_rfl)
            have f8 : a.tmps.getD 128 undef = .bool false := he 8 (by kernel_rfl)
            refine wpOp_run rfl rfl rfl f8 (fun K hK => ?_)
            go_simp
            exact hK _ _ ⟨_, rfl, rfl, World.grownBy.refl _ _⟩
          · intro a w' hf he
            have f8 : a.tmps.getD 128 undef = .bool false := he 8 (by kernel_rfl)
            have f15 : a.tmps.getD 135 undef = .bool false := he 15 (by kernel_rfl)
            refine wpOp_step rfl (fun K hK => ?_)
            go_simp
            exact hK _ _ ⟨_, rfl, rfl, World.grownBy.refl _ _⟩
        · intro a w' hf he
          obtain ⟨u120, f0⟩ : ∃ u, a.tmps.getD 120 undef = u := ⟨_, rfl⟩
          obtain ⟨u121, f1⟩ : ∃ u, a.tmps.getD 121 undef = u := ⟨_, rfl⟩
          obtain ⟨u122, f2⟩ : ∃ u, a.tmps.getD 122 undef = u := ⟨_, rfl⟩
          obtain ⟨u123, f3⟩ : ∃ u, a.tmps.getD 123 undef = u := ⟨_, rfl⟩
          obtain ⟨u124, f4⟩ : ∃ u, a.tmps.getD 124 undef = u := ⟨_, rfl⟩
          obtain ⟨u125, f5⟩ : ∃ u, a.tmps.getD 125 undef = u := ⟨_, rfl⟩
          obtain ⟨u126, f6⟩ : ∃ u, a.tmps.getD 126 undef = u := ⟨_, rfl⟩
          obtain ⟨u127, f7⟩ : ∃ u, a.tmps.getD 127 undef = u := ⟨_, rfl⟩
          obtain ⟨u128, f8⟩ : ∃ u, a.tmps.getD 128 undef = u := ⟨_, rfl⟩
          obtain ⟨u129, f9⟩ : ∃ u, a.tmps.getD 129 undef = u := ⟨_, rfl⟩
          obtain ⟨u130, f10⟩ : ∃ u, a.tmps.getD 130 undef = u := ⟨_, rfl⟩
          obtain ⟨u131, f11⟩ : ∃ u, a.tmps.getD 131 undef = u := ⟨_, rfl⟩
          obtain ⟨u132, f12⟩ : ∃ u, a.tmps.getD 132 undef = u := ⟨_, rfl⟩
          obtain ⟨u133, f13⟩ : ∃ u, a.tmps.getD 133 undef = u := ⟨_, rfl⟩
          obtain ⟨u134, f14⟩ : ∃ u, a.tmps.getD 134 undef = u := ⟨_, rfl⟩
          obtain ⟨u135, f15⟩ : ∃ u, a.tmps.getD 135 undef = u := ⟨_, rfl⟩
          have f16 : a.tmps.getD 136 undef = .bool false := he 16 (by decide)
          have hlit := hf.lit ((120, u120) :: (121, u121) :: (122, u122) :: (123, u123) :: (124, u124) :: (125, u125) :: (126, u126) :: (127, u127) :: (128, u128) :: (129, u129) :: (130, u130) :: (131, u131) :: (132, u132) :: (133, u133) :: (134, u134) :: (135, u135) :: (136, .bool false) :: []) (by kernel_rfl) ⟨f0, f1, f2, f3, f4, f5, f6, f7, f8, f9, f10, f11, f12, f13, f14, f15, f16, trivial⟩
          have hB := hf.bel
          clear he hf f0 f1 f2 f3 f4 f5 f6 f7 f8 f9 f10 f11 f12 f13 f14 f15 f16 
          subst hlit
          simp only [putAll_nil, putAll_cons, Act.put, List.setIfInBounds_toArray, List.set_cons_zero, List.set_cons_succ]
          simp only [List.drop_succ_cons, List.drop_zero]
          have HP9 := Lib.hid (HP'.out.bel hB)
          have HB9 := Lib.hid (HB'.out.trans (hB.mono HB'.out.size))
          clear hB
          go_wp2_with fail
          go_roundw
          case rel => exact ⟨i + 1, D', by omega, by go_num, HP9, HO', HB9⟩
          case measure => simp [intOf] <;> omega
      by_cases z2 : k = 2
      · subst z2
        go_upto_region 26 with (first
        | (go_at_call 22
           (with_reducible refine (c_FuseD HP.out.dk av ha).mono ?_)
           rintro e w9 ⟨rfl, hk9, f9a⟩
           have f9 := f9a.mono (S1 := fun k => k = p ∨ k = g ∨ k = mb) (fun k _ e => .inl e)
           have HK := Lib.hid hk9
           have HR := Lib.hid (rkfr hne HP.out.rk f9)
           have HB := Lib.hid (pr_bel HB.out HG.out HG2.out f9 (by omega))
           have hx9 := heap_fr X8.out f9 (by have := HL.out; omega)
           clear e0 e1 e2 e3
           obtain ⟨e0, e1, e2, e3⟩ := act4 hx9
           clear hk9 f9 f9a hx9)
        | (go_at_call 23
           (with_reducible refine (r_SetFuse HR.out av ha).mono ?_)
           rintro e w10 ⟨rfl, hk10, f10a⟩
           have f10 := f10a.mono (S1 := fun k => k = q ∨ k = r) (fun k _ e => .inl e)
           have HP' := Lib.hid (Pr.mk (dkfr hne HK.out f10) hk10 hne)
           have HB' := Lib.hid (pr_bel HB.out HG.out HG2.out f10 (by omega))
           clear e0 e1 e2 e3 hk10 f10 f10a HK HR)
        )
        have HOn : Hid ((D.setFuse av).ops ≤ 2 * (i + 1)) := Lib.hid (by have := HO.out; show D.ops ≤ _; omega)
        obtain ⟨D', hD'⟩ : ∃ D', D' = (D.setFuse av) := ⟨_, rfl⟩
        rw [← hD'] at HP'
        have HO' : Hid (D'.ops ≤ 2 * (i + 1)) := Lib.hid (by rw [hD']; exact HOn.out)
        clear hD' HOn HP
        have hLd := fun w (h : Dk w p g mb N D') => c_Latest h b s
        have hLr := fun w (h : Rk w q r c' D') => r_Latest h b s
        obtain ⟨⟨l1, l2⟩, hl⟩ : ∃ r, latest D' b s = r := ⟨_, rfl⟩
        rw [hl] at hLd hLr
        simp only at hLd hLr
        clear hl
        go_wp2_with (first
          | (go_at_call 26
             (with_reducible refine (hLd _ HP'.out.dk).mono ?_)
             rintro e w20 ⟨rfl, hb20⟩
             have HP' := Lib.hid (HP'.out.bel hb20)
             have HB' := Lib.hid (HB'.out.trans (hb20.mono HB'.out.size))
             clear hb20 hLd)
          | (go_at_call 27
             (with_reducible refine (hLr _ HP'.out.rk).mono ?_)
             rintro e w21 ⟨rfl, hb21⟩
             have HP' := Lib.hid (HP'.out.bel hb21)
             have HB' := Lib.hid (HB'.out.trans (hb21.mono HB'.out.size))
             clear hb21 hLr))
        refine wp_region_phi (by kernel_rfl) 17 none (fun _ => false) (fun i_ v wz => match i_ with
          | 0 => v = .int .u32 (l1 : Int)
          | 1 => v = .int .u32 (l1 : Int)
          | 2 => v = .bool false
          | 3 => v = .bool false
          | 4 => v = .int .u64 (l2 : Int)
          | 5 => v = .int .u64 (l2 : Int)
          | 6 => v = .bool false
          | 7 => v = .bool false
          | 8 => v = .bool false
          | 9 => v = .pointer (some ⟨p, 0, none⟩)
          | 10 => v = .int .i64 (D'.ops : Int)
          | 11 => v = .pointer (some ⟨q, 0, none⟩)
          | 12 => v = .pointer (some ⟨q, 0, none⟩)
          | 13 => v = .pointer (some ⟨q, 3, none⟩)
          | 14 => v = .int .i64 (D'.ops : Int)
          | 15 => v = .bool false
          | 16 => v = .bool false
          | _ => True) (by kernel_rfl) ?_ ?_ ?_
        · (repeat' (first | exact allLt_zero | refine allLt_succ ?_ ?_))
          · exact fun _ _ _ h _ => h
          · exact fun _ _ _ h _ => h
          · exact fun _ _ _ h _ => h
          · exact fun _ _ _ h _ => h
          · exact fun _ _ _ h _ => h
          · exact fun _ _ _ h _ => h
          · exact fun _ _ _ h _ => h
          · exact fun _ _ _ h _ => h
          · exact fun _ _ _ h _ => h
          · exact fun _ _ _ h _ => h
          · exact fun _ _ _ h _ => h
          · exact fun _ _ _ h _ => h
          · exact fun _ _ _ h _ => h
          · exact fun _ _ _ h _ => h
          · exact fun _ _ _ h _ => h
          · exact fun _ _ _ h _ => h
          · exact fun _ _ _ h _ => h
        · (repeat' (first | exact allLt_zero | refine allLt_succ ?_ ?_))
          · intro a w' hf he
            have k14 : a.tmps.getD 14 undef = .int .u32 (l1 : Int) := hf.var (by kernel_rfl) rfl
            refine wpOp_step rfl (fun K hK => ?_)
            go_simp
            exact hK _ _ ⟨_, rfl, rfl, World.grownBy.refl _ _⟩
          · intro a w' hf he
            have k16 : a.tmps.getD 16 undef = .int .u32 (l1 : Int) := hf.var (by kernel_rfl) rfl
            refine wpOp_step rfl (fun K hK => ?_)
            go_simp
            exact hK _ _ ⟨_, rfl, rfl, World.grownBy.refl _ _⟩
          · intro a w' hf he
            have f0 : a.tmps.getD 120 undef = .int .u32 (l1 : Int) := he 0 (by kernel_rfl)
            have f1 : a.tmps.getD 121 undef = .int .u32 (l1 : Int) := he 1 (by kernel_rfl)
            refine wpOp_step rfl (fun K hK => ?_)
            go_simp
            exact hK _ _ ⟨_, rfl, rfl, World.grownBy.refl _ _⟩
          · intro a w' hf he
            have f2 : a.tmps.getD 122 undef = .bool false := he 2 (by kernel_rfl)
            refine wpOp_step rfl (fun K hK => ?_)
            go_simp
            exact hK _ _ ⟨_, rfl, rfl, World.grownBy.refl _ _⟩
          · intro a w' hf he
            have k15 : a.tmps.getD 15 undef = .int .u64 (l2 : Int) := hf.var (by kernel_rfl) rfl
            have f3 : a.tmps.getD 123 undef = .bool false := he 3 (by kernel_rfl)
            refine wpOp_run rfl rfl rfl f3 (fun K hK => ?_)
            go_simp
            exact hK _ _ ⟨_, rfl, rfl, World.grownBy.refl _ _⟩
          · intro a w' hf he
            have k17 : a.tmps.getD 17 undef = .int .u64 (l2 : Int) := hf.var (by kernel_rfl) rfl
            have f3 : a.tmps.getD 123 undef = .bool false := he 3 (by kernel_rfl)
            refine wpOp_run rfl rfl rfl f3 (fun K hK => ?_)
            go_simp
            exact hK _ _ ⟨_, rfl, rfl, World.grownBy.refl _ _⟩
          · intro a w' hf he
            have f4 : a.tmps.getD 124 undef = .int .u64 (l2 : Int) := he 4 (by kernel_rfl)
            have f5 : a.tmps.getD 125 undef = .int .u64 (l2 : Int) := he 5 (by kernel_rfl)
            have f3 : a.tmps.getD 123 undef = .bool false := he 3 (by kernel_rfl)
            refine wpOp_run rfl rfl rfl f3 (fun K hK => ?_)
            go_simp
            exact hK _ _ ⟨_, rfl, rfl, World.grownBy.refl _ _⟩
          · intro a w' hf he
            have f3 : a.tmps.getD 123 undef = .bool false := he 3 (by kernel_rfl)
            have f6 : a.tmps.getD 126 undef = .bool false := he 6 (by kernel_rfl)
            refine wpOp_step rfl (fun K hK => ?_)
            go_simp
            exact hK _ _ ⟨_, rfl, rfl, World.grownBy.refl _ _⟩
          · intro a w' hf he
            have f7 : a.tmps.getD 127 undef = .bool false := he 7 (by kernel_rfl)
            refine wpOp_step rfl (fun K hK => ?_)
            go_simp
            exact hK _ _ ⟨_, rfl, rfl, World.grownBy.refl _ _⟩
          · intro a w' hf he
            have k8 : a.tmps.getD 8 undef = .pointer (some ⟨p, 0, none⟩) := hf.var (by kernel_rfl) rfl
            have f8 : a.tmps.getD 128 undef = .bool false := he 8 (by kernel_rfl)
            refine wpOp_run rfl rfl rfl f8 (fun K hK => ?_)
            go_simp
            exact hK _ _ ⟨_, rfl, rfl, World.grownBy.refl _ _⟩
          · intro a w' hf he
            have f9 : a.tmps.getD 129 undef = .pointer (some ⟨p, 0, none⟩) := he 9 (by kernel_rfl)
            have f8 : a.tmps.getD 128 undef = .bool false := he 8 (by kernel_rfl)
            rw [show kindRow _ _ = none from by kernel_rfl] at hf
            refine wpOp_run rfl rfl rfl f8 (fun K hK => ?_)
            go_simp
            refine (c_Ops (HP'.out.dk.bel hf.bel)).mono ?_
            rintro e w2 ⟨rfl, rfl⟩
            exact hK _ _ ⟨_, rfl, rfl, World.grownBy.refl _ _⟩
          · intro a w' hf he
            have k10 : a.tmps.getD 10 undef = .pointer (some ⟨q, 0, none⟩) := hf.var (by kernel_rfl) rfl
            have f8 : a.tmps.getD 128 undef = .bool false := he 8 (by kernel_rfl)
            refine wpOp_run rfl rfl rfl f8 (fun K hK => ?_)
            go_simp
            exact hK _ _ ⟨_, rfl, rfl, World.grownBy.refl _ _⟩
          · intro a w' hf he
            have f11 : a.tmps.getD 131 undef = .pointer (some ⟨q, 0, none⟩) := he 11 (by kernel_rfl)
            have f8 : a.tmps.getD 128 undef = .bool false := he 8 (by kernel_rfl)
            refine wpOp_run rfl rfl rfl f8 (fun K hK => ?_)
            go_simp
            exact hK _ _ ⟨_, rfl, rfl, World.grownBy.refl _ _⟩
          · intro a w' hf he
            have f12 : a.tmps.getD 132 undef = .pointer (some ⟨q, 0, none⟩) := he 12 (by kernel_rfl)
            have f8 : a.tmps.getD 128 undef = .bool false := he 8 (by kernel_rfl)
            refine wpOp_run rfl rfl rfl f8 (fun K hK => ?_)
            go_simp
            exact hK _ _ ⟨_, rfl, rfl, World.grownBy.refl _ _⟩
          · intro a w' hf he
            have f13 : a.tmps.getD 133 undef = .pointer (some ⟨q, 3, none⟩) := he 13 (by kernel_rfl)
            have f8 : a.tmps.getD 128 undef = .bool false := he 8 (by kernel_rfl)
            rw [show kindRow _ _ = none from by kernel_rfl] at hf
            have dd := (HP'.out.rk.bel hf.bel).cells.2.2.2
            refine wpOp_run rfl rfl rfl f8 (fun K hK => ?_)
            go_simp
            exact hK _ _ ⟨_, rfl, rfl, World.grownBy.refl _ _⟩
          · intro a w' hf he
            have f10 : a.tmps.getD 130 undef = .int .i64 (D'.ops : Int) := he 10 (by kernel_rfl)
            have f14 : a.tmps.getD 134 undef = .int .i64 (D'.ops : Int) := he 14 (by kernel_rfl)
            have f8 : a.tmps.getD 128 undef = .bool false := he 8 (by kernel_rfl)
            refine wpOp_run rfl rfl rfl f8 (fun K hK => ?_)
            go_simp
            exact hK _ _ ⟨_, rfl, rfl, World.grownBy.refl _ _⟩
          · intro a w' hf he
            have f8 : a.tmps.getD 128 undef = .bool false := he 8 (by kernel_rfl)
            have f15 : a.tmps.getD 135 undef = .bool false := he 15 (by kernel_rfl)
            refine wpOp_step rfl (fun K hK => ?_)
            go_simp
            exact hK _ _ ⟨_, rfl, rfl, World.grownBy.refl _ _⟩
        · intro a w' hf he
          obtain ⟨u120, f0⟩ : ∃ u, a.tmps.getD 120 undef = u := ⟨_, rfl⟩
          obtain ⟨u121, f1⟩ : ∃ u, a.tmps.getD 121 undef = u := ⟨_, rfl⟩
          obtain ⟨u122, f2⟩ : ∃ u, a.tmps.getD 122 undef = u := ⟨_, rfl⟩
          obtain ⟨u123, f3⟩ : ∃ u, a.tmps.getD 123 undef = u := ⟨_, rfl⟩
          obtain ⟨u124, f4⟩ : ∃ u, a.tmps.getD 124 undef = u := ⟨_, rfl⟩
          obtain ⟨u125, f5⟩ : ∃ u, a.tmps.getD 125 undef = u := ⟨_, rfl⟩
          obtain ⟨u126, f6⟩ : ∃ u, a.tmps.getD 126 undef = u := ⟨_, rfl⟩
          obtain ⟨u127, f7⟩ : ∃ u, a.tmps.getD 127 undef = u := ⟨_, rfl⟩
          obtain ⟨u128, f8⟩ : ∃ u, a.tmps.getD 128 undef = u := ⟨_, rfl⟩
          obtain ⟨u129, f9⟩ : ∃ u, a.tmps.getD 129 undef = u := ⟨_, rfl⟩
          obtain ⟨u130, f10⟩ : ∃ u, a.tmps.getD 130 undef = u := ⟨_, rfl⟩
          obtain ⟨u131, f11⟩ : ∃ u, a.tmps.getD 131 undef = u := ⟨_, rfl⟩
          obtain ⟨u132, f12⟩ : ∃ u, a.tmps.getD 132 undef = u := ⟨_, rfl⟩
          obtain ⟨u133, f13⟩ : ∃ u, a.tmps.getD 133 undef = u := ⟨_, rfl⟩
          obtain ⟨u134, f14⟩ : ∃ u, a.tmps.getD 134 undef = u := ⟨_, rfl⟩
          obtain ⟨u135, f15⟩ : ∃ u, a.tmps.getD 135 undef = u := ⟨_, rfl⟩
          have f16 : a.tmps.getD 136 undef = .bool false := he 16 (by decide)
          have hlit := hf.lit ((120, u120) :: (121, u121) :: (122, u122) :: (123, u123) :: (124, u124) :: (125, u125) :: (126, u126) :: (127, u127) :: (128, u128) :: (129, u129) :: (130, u130) :: (131, u131) :: (132, u132) :: (133, u133) :: (134, u134) :: (135, u135) :: (136, .bool false) :: []) (by kernel_rfl) ⟨f0, f1, f2, f3, f4, f5, f6, f7, f8, f9, f10, f11, f12, f13, f14, f15, f16, trivial⟩
          have hB := hf.bel
          clear he hf f0 f1 f2 f3 f4 f5 f6 f7 f8 f9 f10 f11 f12 f13 f14 f15 f16 
          subst hlit
          simp only [putAll_nil, putAll_cons, Act.put, List.setIfInBounds_toArray, List.set_cons_zero, List.set_cons_succ]
          simp only [List.drop_succ_cons, List.drop_zero]
          have HP9 := Lib.hid (HP'.out.bel hB)
          have HB9 := Lib.hid (HB'.out.trans (hB.mono HB'.out.size))
          clear hB
          go_wp2_with fail
          go_roundw
          case rel => exact ⟨i + 1, D', by omega, by go_num, HP9, HO', HB9⟩
          case measure => simp [intOf] <;> omega
      by_cases z3 : k = 3
      · subst z3
        go_wp2_with fail
        refine wp_region_fr (by kernel_rfl) 13 (fun i_ => match i_ with | 5 => 1 | 11 => 2 | _ => 0) (fun c_ => match c_ with | 1 => fun k => k = p ∨ k = g ∨ k = mb | 2 => fun k => k = q ∨ k = r | _ => fun _ => False) (fun i_ => match i_ with | 0 => [1, 2] | 1 => [1, 2] | 2 => [1, 2] | 3 => [1, 2] | 4 => [1, 2] | 5 => [2] | 6 => [1, 2] | 7 => [1, 2] | 8 => [1, 2] | 9 => [1, 2] | 10 => [1, 2] | _ => []) (fun i_ => match i_ with | 6 => [1] | 7 => [1] | 8 => [1] | 9 => [1] | 10 => [1] | 11 => [1] | 12 => [1, 2] | _ => []) [1, 2] (fun i_ v wz => match i_ with
          | 0 => v = .pointer (some ⟨p, 0, none⟩)
          | 1 => v = .pointer (some ⟨Bx, 1, none⟩)
          | 2 => v = .int .i64 av
          | 3 => v = .pointer (some ⟨Bx, 4, none⟩)
          | 4 => v = .agg (bytesV s2).toArray
          | 5 => v = .int .i64 ((D.write av s2).2 : Int) ∧ Dk wz p g mb N (D.write av s2).1
          | 6 => v = .pointer (some ⟨q, 0, none⟩)
          | 7 => v = .pointer (some ⟨Bx, 1, none⟩)
          | 8 => v = .int .i64 av
          | 9 => v = .pointer (some ⟨Bx, 4, none⟩)
          | 10 => v = .agg (bytesV s2).toArray
          | 11 => v = .int .i64 ((D.write av s2).2 : Int) ∧ Rk wz q r c' (D.write av s2).1
          | 12 => v = .bool false
          | _ => True) (by kernel_rfl) (by kernel_rfl) ?_ ?_ ?_
        · (repeat' (first | exact allLt_zero | refine allLt_succ ?_ ?_))
          · exact fun _ _ _ h _ => h
          · exact fun _ _ _ h _ => h
          · exact fun _ _ _ h _ => h
          · exact fun _ _ _ h _ => h
          · exact fun _ _ _ h _ => h
          · intro v w1 w2 h hg
            replace hg : Fr (fun k => (fun k => k = q ∨ k = r) k ∨ False) w1 w2 := hg
            replace hg := hg.un1
            exact ⟨h.1, dkfr hne h.2 hg⟩
          · exact fun _ _ _ h _ => h
          · exact fun _ _ _ h _ => h
          · exact fun _ _ _ h _ => h
          · exact fun _ _ _ h _ => h
          · exact fun _ _ _ h _ => h
          · intro v w1 w2 h hg
            replace hg : Fr (fun k => False) w1 w2 := hg
            exact ⟨h.1, h.2.fr hg (fun e => e) (fun e => e)⟩
          · exact fun _ _ _ h _ => h
        · (repeat' (first | exact allLt_zero | refine allLt_succ ?_ ?_))
          · intro a w' hf he
            have k8 : a.tmps.getD 8 undef = .pointer (some ⟨p, 0, none⟩) := hf.var (by kernel_rfl) rfl
            refine wpOp_step rfl (fun K hK => ?_)
            go_simp
            exact hK _ _ ⟨_, rfl, rfl, Fr.refl _ _⟩
          · intro a w' hf he
            have k13 : a.tmps.getD 13 undef = .pointer (some ⟨Bx, 0, none⟩) := hf.var (by kernel_rfl) rfl
            have hfr : Fr (fun k => False) _ w' := hf.of_start
            refine wpOp_step rfl (fun K hK => ?_)
            go_simp
            exact hK _ _ ⟨_, rfl, rfl, Fr.refl _ _⟩
          · intro a w' hf he
            have f1 : a.tmps.getD 94 undef = .pointer (some ⟨Bx, 1, none⟩) := he 1 (by kernel_rfl)
            have hfr : Fr (fun k => False) _ w' := hf.of_start
            have hx := heap_fr X8.out hfr (by first | exact fun e => e | (intro e; simp only [or_false] at e; omega) | omega)
            have dd := (act4 hx).2.1
            clear hx
            refine wpOp_step rfl (fun K hK => ?_)
            go_simp
            exact hK _ _ ⟨_, rfl, rfl, Fr.refl _ _⟩
          · intro a w' hf he
            have k13 : a.tmps.getD 13 undef = .pointer (some ⟨Bx, 0, none⟩) := hf.var (by kernel_rfl) rfl
            have hfr : Fr (fun k => False) _ w' := hf.of_start
            refine wpOp_step rfl (fun K hK => ?_)
            go_simp
            exact hK _ _ ⟨_, rfl, rfl, Fr.refl _ _⟩
          · intro a w' hf he
            have f3 : a.tmps.getD 96 undef = .pointer (some ⟨Bx, 4, none⟩) := he 3 (by kernel_rfl)
            have hfr : Fr (fun k => False) _ w' := hf.of_start
            have hx := heap_fr X8.out hfr (by first | exact fun e => e | (intro e; simp only [or_false] at e; omega) | omega)
            refine wpOp_step rfl (fun K hK => ?_)
            refine wp_load_rd 35 (.tmp 96) rfl ⟨Bx, 4, none⟩ f3 (bytesV s2) _ (act_sec hx) Try.underlying35 rfl (by rw [bytesV_length, Hs2.out]; kernel_rfl) ?_
            exact hK _ _ ⟨_, rfl, rfl, Fr.refl _ _⟩
          · intro a w' hf he
            have f0 : a.tmps.getD 93 undef = .pointer (some ⟨p, 0, none⟩) := he 0 (by kernel_rfl)
            have f2 : a.tmps.getD 95 undef = .int .i64 av := he 2 (by kernel_rfl)
            have f4 : a.tmps.getD 97 undef = .agg (bytesV s2).toArray := he 4 (by kernel_rfl)
            have hfr : Fr (fun k => False) _ w' := hf.of_start
            have hd := HP.out.dk.fr hfr (fun e => e) (fun e => e) (fun e => e)
            refine wpOp_step rfl (fun K hK => ?_)
            go_simp
            refine (c_dWriteP hd (Nat.lt_of_le_of_lt (Nat.le_succ _) ho.out) av ha s2 Hs2.out).mono ?_
            rintro e w2 ⟨rfl, hk2, f2⟩
            exact hK _ _ ⟨_, rfl, ⟨rfl, hk2⟩, f2.mono (fun k _ e => .inl e)⟩
          · intro a w' hf he
            have k10 : a.tmps.getD 10 undef = .pointer (some ⟨q, 0, none⟩) := hf.var (by kernel_rfl) rfl
            refine wpOp_step rfl (fun K hK => ?_)
            go_simp
            exact hK _ _ ⟨_, rfl, rfl, Fr.refl _ _⟩
          · intro a w' hf he
            have k13 : a.tmps.getD 13 undef = .pointer (some ⟨Bx, 0, none⟩) := hf.var (by kernel_rfl) rfl
            have hfr : Fr (fun k => (fun k => k = p ∨ k = g ∨ k = mb) k ∨ False) _ w' := hf.of_start
            replace hfr := hfr.un1
            refine wpOp_step rfl (fun K hK => ?_)
            go_simp
            exact hK _ _ ⟨_, rfl, rfl, Fr.refl _ _⟩
          · intro a w' hf he
            have f7 : a.tmps.getD 100 undef = .pointer (some ⟨Bx, 1, none⟩) := he 7 (by kernel_rfl)
            have hfr : Fr (fun k => (fun k => k = p ∨ k = g ∨ k = mb) k ∨ False) _ w' := hf.of_start
            replace hfr := hfr.un1
            have hx := heap_fr X8.out hfr (by first | exact fun e => e | (intro e; simp only [or_false] at e; omega) | omega)
            have dd := (act4 hx).2.1
            clear hx
            refine wpOp_step rfl (fun K hK => ?_)
            go_simp
            exact hK _ _ ⟨_, rfl, rfl, Fr.refl _ _⟩
          · intro a w' hf he
            have k13 : a.tmps.getD 13 undef = .pointer (some ⟨Bx, 0, none⟩) := hf.var (by kernel_rfl) rfl
            have hfr : Fr (fun k => (fun k => k = p ∨ k = g ∨ k = mb) k ∨ False) _ w' := hf.of_start
            replace hfr := hfr.un1
            refine wpOp_step rfl (fun K hK => ?_)
            go_simp
            exact hK _ _ ⟨_, rfl, rfl, Fr.refl _ _⟩
          · intro a w' hf he
            have f9 : a.tmps.getD 102 undef = .pointer (some ⟨Bx, 4, none⟩) := he 9 (by kernel_rfl)
            have hfr : Fr (fun k => (fun k => k = p ∨ k = g ∨ k = mb) k ∨ False) _ w' := hf.of_start
            replace hfr := hfr.un1
            have hx := heap_fr X8.out hfr (by first | exact fun e => e | (intro e; simp only [or_false] at e; omega) | omega)
            refine wpOp_step rfl (fun K hK => ?_)
            refine wp_load_rd 35 (.tmp 102) rfl ⟨Bx, 4, none⟩ f9 (bytesV s2) _ (act_sec hx) Try.underlying35 rfl (by rw [bytesV_length, Hs2.out]; kernel_rfl) ?_
            exact hK _ _ ⟨_, rfl, rfl, Fr.refl _ _⟩
          · intro a w' hf he
            have f6 : a.tmps.getD 99 undef = .pointer (some ⟨q, 0, none⟩) := he 6 (by kernel_rfl)
            have f8 : a.tmps.getD 101 undef = .int .i64 av := he 8 (by kernel_rfl)
            have f10 : a.tmps.getD 103 undef = .agg (bytesV s2).toArray := he 10 (by kernel_rfl)
            have hfr : Fr (fun k => (fun k => k = p ∨ k = g ∨ k = mb) k ∨ False) _ w' := hf.of_start
            replace hfr := hfr.un1
            have hd := rkfr hne HP.out.rk hfr
            refine wpOp_step rfl (fun K hK => ?_)
            go_simp
            refine (r_Write hd (Nat.lt_of_le_of_lt (Nat.le_succ _) ho.out) av s2 Hs2.out).mono ?_
            rintro e w2 ⟨rfl, hk2, f2⟩
            exact hK _ _ ⟨_, rfl, ⟨rfl, hk2⟩, f2.mono (fun k _ e => .inl e)⟩
          · intro a w' hf he
            obtain ⟨hv5, hk5⟩ := he 5 (by kernel_rfl)
            have f5 : a.tmps.getD 98 undef = _ := hv5
            obtain ⟨hv11, hk11⟩ := he 11 (by kernel_rfl)
            have f11 : a.tmps.getD 104 undef = _ := hv11
            have hfr : Fr (fun k => (fun k => k = p ∨ k = g ∨ k = mb) k ∨ (fun k => k = q ∨ k = r) k ∨ False) _ w' := hf.of_start
            refine wpOp_step rfl (fun K hK => ?_)
            go_simp
            exact hK _ _ ⟨_, rfl, rfl, Fr.refl _ _⟩
        · intro a w' hf he
          obtain ⟨u93, f0⟩ : ∃ u, a.tmps.getD 93 undef = u := ⟨_, rfl⟩
          obtain ⟨u94, f1⟩ : ∃ u, a.tmps.getD 94 undef = u := ⟨_, rfl⟩
          obtain ⟨u95, f2⟩ : ∃ u, a.tmps.getD 95 undef = u := ⟨_, rfl⟩
          obtain ⟨u96, f3⟩ : ∃ u, a.tmps.getD 96 undef = u := ⟨_, rfl⟩
          obtain ⟨u97, f4⟩ : ∃ u, a.tmps.getD 97 undef = u := ⟨_, rfl⟩
          obtain ⟨hv5, hk5⟩ := he 5 (by decide)
          have f5 : a.tmps.getD 98 undef = _ := hv5
          obtain ⟨u99, f6⟩ : ∃ u, a.tmps.getD 99 undef = u := ⟨_, rfl⟩
          obtain ⟨u100, f7⟩ : ∃ u, a.tmps.getD 100 undef = u := ⟨_, rfl⟩
          obtain ⟨u101, f8⟩ : ∃ u, a.tmps.getD 101 undef = u := ⟨_, rfl⟩
          obtain ⟨u102, f9⟩ : ∃ u, a.tmps.getD 102 undef = u := ⟨_, rfl⟩
          obtain ⟨u103, f10⟩ : ∃ u, a.tmps.getD 103 undef = u := ⟨_, rfl⟩
          obtain ⟨hv11, hk11⟩ := he 11 (by decide)
          have f11 : a.tmps.getD 104 undef = _ := hv11
          have f12 : a.tmps.getD 105 undef = .bool false := he 12 (by decide)
          have hlit := hf.lit ((93, u93) :: (94, u94) :: (95, u95) :: (96, u96) :: (97, u97) :: (98, _) :: (99, u99) :: (100, u100) :: (101, u101) :: (102, u102) :: (103, u103) :: (104, _) :: (105, .bool false) :: []) (by kernel_rfl) ⟨f0, f1, f2, f3, f4, f5, f6, f7, f8, f9, f10, f11, f12, trivial⟩
          have hB : Fr (fun k => (fun k => k = p ∨ k = g ∨ k = mb) k ∨ (fun k => k = q ∨ k = r) k ∨ False) _ w' := hf.of_start
          clear he hf f0 f1 f2 f3 f4 f5 f6 f7 f8 f9 f10 f11 f12 hv5 hv11
          subst hlit
          simp only [putAll_nil, putAll_cons, Act.put, List.setIfInBounds_toArray, List.set_cons_zero, List.set_cons_succ]
          simp only [List.drop_succ_cons, List.drop_zero]
          have HP' := Lib.hid (Pr.mk hk5 hk11 hne)
          have HB' := Lib.hid (pr_bel HB.out HG.out HG2.out hB (fun k e => by simp only [or_false] at e; omega))
          have HOn : Hid ((D.write av s2).1.ops ≤ 2 * (i + 1)) := Lib.hid (by have := (write_facts D av s2).1; have := HO.out; omega)
          clear hk5 hk11 hB e0 e1 e2 e3
          obtain ⟨D', hD'⟩ : ∃ D', D' = (D.write av s2).1 := ⟨_, rfl⟩
          rw [← hD'] at HP'
          have HO' : Hid (D'.ops ≤ 2 * (i + 1)) := Lib.hid (by rw [hD']; exact HOn.out)
          clear hD' HOn HP
          have hLd := fun w (h : Dk w p g mb N D') => c_Latest h b s
          have hLr := fun w (h : Rk w q r c' D') => r_Latest h b s
          obtain ⟨⟨l1, l2⟩, hl⟩ : ∃ r, latest D' b s = r := ⟨_, rfl⟩
          rw [hl] at hLd hLr
          simp only at hLd hLr
          clear hl
          go_wp2_with (first
            | (go_at_call 26
               (with_reducible refine (hLd _ HP'.out.dk).mono ?_)
               rintro e w20 ⟨rfl, hb20⟩
               have HP' := Lib.hid (HP'.out.bel hb20)
               have HB' := Lib.hid (HB'.out.trans (hb20.mono HB'.out.size))
               clear hb20 hLd)
            | (go_at_call 27
               (with_reducible refine (hLr _ HP'.out.rk).mono ?_)
               rintro e w21 ⟨rfl, hb21⟩
               have HP' := Lib.hid (HP'.out.bel hb21)
               have HB' := Lib.hid (HB'.out.trans (hb21.mono HB'.out.size))
               clear hb21 hLr))
          refine wp_region_phi (by kernel_rfl) 17 none (fun _ => false) (fun i_ v wz => match i_ with
            | 0 => v = .int .u32 (l1 : Int)
            | 1 => v = .int .u32 (l1 : Int)
            | 2 => v = .bool false
            | 3 => v = .bool false
            | 4 => v = .int .u64 (l2 : Int)
            | 5 => v = .int .u64 (l2 : Int)
            | 6 => v = .bool false
            | 7 => v = .bool false
            | 8 => v = .bool false
            | 9 => v = .pointer (some ⟨p, 0, none⟩)
            | 10 => v = .int .i64 (D'.ops : Int)
            | 11 => v = .pointer (some ⟨q, 0, none⟩)
            | 12 => v = .pointer (some ⟨q, 0, none⟩)
            | 13 => v = .pointer (some ⟨q, 3, none⟩)
            | 14 => v = .int .i64 (D'.ops : Int)
            | 15 => v = .bool false
            | 16 => v = .bool false
            | _ => True) (by kernel_rfl) ?_ ?_ ?_
          · (repeat' (first | exact allLt_zero | refine allLt_succ ?_ ?_))
            · exact fun _ _ _ h _ => h
            · exact fun _ _ _ h _ => h
            · exact fun _ _ _ h _ => h
            · exact fun _ _ _ h _ => h
            · exact fun _ _ _ h _ => h
            · exact fun _ _ _ h _ => h
            · exact fun _ _ _ h _ => h
            · exact fun _ _ _ h _ => h
            · exact fun _ _ _ h _ => h
            · exact fun _ _ _ h _ => h
            · exact fun _ _ _ h _ => h
            · exact fun _ _ _ h _ => h
            · exact fun _ _ _ h _ => h
            · exact fun _ _ _ h _ => h
            · exact fun _ _ _ h _ => h
            · exact fun _ _ _ h _ => h
            · exact fun _ _ _ h _ => h
          · (repeat' (first | exact allLt_zero | refine allLt_succ ?_ ?_))
            · intro a w' hf he
              have k14 : a.tmps.getD 14 undef = .int .u32 (l1 : Int) := hf.var (by kernel_rfl) rfl
              refine wpOp_step rfl (fun K hK => ?_)
              go_simp
              exact hK _ _ ⟨_, rfl, rfl, World.grownBy.refl _ _⟩
            · intro a w' hf he
              have k16 : a.tmps.getD 16 undef = .int .u32 (l1 : Int) := hf.var (by kernel_rfl) rfl
              refine wpOp_step rfl (fun K hK => ?_)
              go_simp
              exact hK _ _ ⟨_, rfl, rfl, World.grownBy.refl _ _⟩
            · intro a w' hf he
              have f0 : a.tmps.getD 120 undef = .int .u32 (l1 : Int) := he 0 (by kernel_rfl)
              have f1 : a.tmps.getD 121 undef = .int .u32 (l1 : Int) := he 1 (by kernel_rfl)
              refine wpOp_step rfl (fun K hK => ?_)
              go_simp
              exact hK _ _ ⟨_, rfl, rfl, World.grownBy.refl _ _⟩
            · intro a w' hf he
              have f2 : a.tmps.getD 122 undef = .bool false := he 2 (by kernel_rfl)
              refine wpOp_step rfl (fun K hK => ?_)
              go_simp
              exact hK _ _ ⟨_, rfl, rfl, World.grownBy.refl _ _⟩
            · intro a w' hf he
              have k15 : a.tmps.getD 15 undef = .int .u64 (l2 : Int) := hf.var (by kernel_rfl) rfl
              have f3 : a.tmps.getD 123 undef = .bool false := he 3 (by kernel_rfl)
              refine wpOp_run rfl rfl rfl f3 (fun K hK => ?_)
              go_simp
              exact hK _ _ ⟨_, rfl, rfl, World.grownBy.refl _ _⟩
            · intro a w' hf he
              have k17 : a.tmps.getD 17 undef = .int .u64 (l2 : Int) := hf.var (by kernel_rfl) rfl
              have f3 : a.tmps.getD 123 undef = .bool false := he 3 (by kernel_rfl)
              refine wpOp_run rfl rfl rfl f3 (fun K hK => ?_)
              go_simp
              exact hK _ _ ⟨_, rfl, rfl, World.grownBy.refl _ _⟩
            · intro a w' hf he
              have f4 : a.tmps.getD 124 undef = .int .u64 (l2 : Int) := he 4 (by kernel_rfl)
              have f5 : a.tmps.getD 125 undef = .int .u64 (l2 : Int) := he 5 (by kernel_rfl)
              have f3 : a.tmps.getD 123 undef = .bool false := he 3 (by kernel_rfl)
              refine wpOp_run rfl rfl rfl f3 (fun K hK => ?_)
              go_simp
              exact hK _ _ ⟨_, rfl, rfl, World.grownBy.refl _ _⟩
            · intro a w' hf he
              have f3 : a.tmps.getD 123 undef = .bool false := he 3 (by kernel_rfl)
              have f6 : a.tmps.getD 126 undef = .bool false := he 6 (by kernel_rfl)
              refine wpOp_step rfl (fun K hK => ?_)
              go_simp
              exact hK _ _ ⟨_, rfl, rfl, World.grownBy.refl _ _⟩
            · intro a w' hf he
              have f7 : a.tmps.getD 127 undef = .bool false := he 7 (by kernel_rfl)
              refine wpOp_step rfl (fun K hK => ?_)
              go_simp
              exact hK _ _ ⟨_, rfl, rfl, World.grownBy.refl _ _⟩
            · intro a w' hf he
              have k8 : a.tmps.getD 8 undef = .pointer (some ⟨p, 0, none⟩) := hf.var (by kernel_rfl) rfl
              have f8 : a.tmps.getD 128 undef = .bool false := he 8 (by kernel_rfl)
              refine wpOp_run rfl rfl rfl f8 (fun K hK => ?_)
              go_simp
              exact hK _ _ ⟨_, rfl, rfl, World.grownBy.refl _ _⟩
            · intro a w' hf he
              have f9 : a.tmps.getD 129 undef = .pointer (some ⟨p, 0, none⟩) := he 9 (by kernel_rfl)
              have f8 : a.tmps.getD 128 undef = .bool false := he 8 (by kernel_rfl)
              rw [show kindRow _ _ = none from by kernel_rfl] at hf
              refine wpOp_run rfl rfl rfl f8 (fun K hK => ?_)
              go_simp
              refine (c_Ops (HP'.out.dk.bel hf.bel)).mono ?_
              rintro e w2 ⟨rfl, rfl⟩
              exact hK _ _ ⟨_, rfl, rfl, World.grownBy.refl _ _⟩
            · intro a w' hf he
              have k10 : a.tmps.getD 10 undef = .pointer (some ⟨q, 0, none⟩) := hf.var (by kernel_rfl) rfl
              have f8 : a.tmps.getD 128 undef = .bool false := he 8 (by kernel_rfl)
              refine wpOp_run rfl rfl rfl f8 (fun K hK => ?_)
              go_simp
              exact hK _ _ ⟨_, rfl, rfl, World.grownBy.refl _ _⟩
            · intro a w' hf he
              have f11 : a.tmps.getD 131 undef = .pointer (some ⟨q, 0, none⟩) := he 11 (by kernel_rfl)
              have f8 : a.tmps.getD 128 undef = .bool false := he 8 (by kernel_rfl)
              refine wpOp_run rfl rfl rfl f8 (fun K hK => ?_)
              go_simp
              exact hK _ _ ⟨_, rfl, rfl, World.grownBy.refl _ _⟩
            · intro a w' hf he
              have f12 : a.tmps.getD 132 undef = .pointer (some ⟨q, 0, none⟩) := he 12 (by kernel_rfl)
              have f8 : a.tmps.getD 128 undef = .bool false := he 8 (by kernel_rfl)
              refine wpOp_run rfl rfl rfl f8 (fun K hK => ?_)
              go_simp
              exact hK _ _ ⟨_, rfl, rfl, World.grownBy.refl _ _⟩
            · intro a w' hf he
              have f13 : a.tmps.getD 133 undef = .pointer (some ⟨q, 3, none⟩) := he 13 (by kernel_rfl)
              have f8 : a.tmps.getD 128 undef = .bool false := he 8 (by kernel_rfl)
              rw [show kindRow _ _ = none from by kernel_rfl] at hf
              have dd := (HP'.out.rk.bel hf.bel).cells.2.2.2
              refine wpOp_run rfl rfl rfl f8 (fun K hK => ?_)
              go_simp
              exact hK _ _ ⟨_, rfl, rfl, World.grownBy.refl _ _⟩
            · intro a w' hf he
              have f10 : a.tmps.getD 130 undef = .int .i64 (D'.ops : Int) := he 10 (by kernel_rfl)
              have f14 : a.tmps.getD 134 undef = .int .i64 (D'.ops : Int) := he 14 (by kernel_rfl)
              have f8 : a.tmps.getD 128 undef = .bool false := he 8 (by kernel_rfl)
              refine wpOp_run rfl rfl rfl f8 (fun K hK => ?_)
              go_simp
              exact hK _ _ ⟨_, rfl, rfl, World.grownBy.refl _ _⟩
            · intro a w' hf he
              have f8 : a.tmps.getD 128 undef = .bool false := he 8 (by kernel_rfl)
              have f15 : a.tmps.getD 135 undef = .bool false := he 15 (by kernel_rfl)
              refine wpOp_step rfl (fun K hK => ?_)
              go_simp
              exact hK _ _ ⟨_, rfl, rfl, World.grownBy.refl _ _⟩
          · intro a w' hf he
            obtain ⟨u120, f0⟩ : ∃ u, a.tmps.getD 120 undef = u := ⟨_, rfl⟩
            obtain ⟨u121, f1⟩ : ∃ u, a.tmps.getD 121 undef = u := ⟨_, rfl⟩
            obtain ⟨u122, f2⟩ : ∃ u, a.tmps.getD 122 undef = u := ⟨_, rfl⟩
            obtain ⟨u123, f3⟩ : ∃ u, a.tmps.getD 123 undef = u := ⟨_, rfl⟩
            obtain ⟨u124, f4⟩ : ∃ u, a.tmps.getD 124 undef = u := ⟨_, rfl⟩
            obtain ⟨u125, f5⟩ : ∃ u, a.tmps.getD 125 undef = u := ⟨_, rfl⟩
            obtain ⟨u126, f6⟩ : ∃ u, a.tmps.getD 126 undef = u := ⟨_, rfl⟩
            obtain ⟨u127, f7⟩ : ∃ u, a.tmps.getD 127 undef = u := ⟨_, rfl⟩
            obtain ⟨u128, f8⟩ : ∃ u, a.tmps.getD 128 undef = u := ⟨_, rfl⟩
            obtain ⟨u129, f9⟩ : ∃ u, a.tmps.getD 129 undef = u := ⟨_, rfl⟩
            obtain ⟨u130, f10⟩ : ∃ u, a.tmps.getD 130 undef = u := ⟨_, rfl⟩
            obtain ⟨u131, f11⟩ : ∃ u, a.tmps.getD 131 undef = u := ⟨_, rfl⟩
            obtain ⟨u132, f12⟩ : ∃ u, a.tmps.getD 132 undef = u := ⟨_, rfl⟩
            obtain ⟨u133, f13⟩ : ∃ u, a.tmps.getD 133 undef = u := ⟨_, rfl⟩
            obtain ⟨u134, f14⟩ : ∃ u, a.tmps.getD 134 undef = u := ⟨_, rfl⟩
            obtain ⟨u135, f15⟩ : ∃ u, a.tmps.getD 135 undef = u := ⟨_, rfl⟩
            have f16 : a.tmps.getD 136 undef = .bool false := he 16 (by decide)
            have hlit := hf.lit ((120, u120) :: (121, u121) :: (122, u122) :: (123, u123) :: (124, u124) :: (125, u125) :: (126, u126) :: (127, u127) :: (128, u128) :: (129, u129) :: (130, u130) :: (131, u131) :: (132, u132) :: (133, u133) :: (134, u134) :: (135, u135) :: (136, .bool false) :: []) (by kernel_rfl) ⟨f0, f1, f2, f3, f4, f5, f6, f7, f8, f9, f10, f11, f12, f13, f14, f15, f16, trivial⟩
            have hB := hf.bel
            clear he hf f0 f1 f2 f3 f4 f5 f6 f7 f8 f9 f10 f11 f12 f13 f14 f15 f16 
            subst hlit
            simp only [putAll_nil, putAll_cons, Act.put, List.setIfInBounds_toArray, List.set_cons_zero, List.set_cons_succ]
            simp only [List.drop_succ_cons, List.drop_zero]
            have HP9 := Lib.hid (HP'.out.bel hB)
            have HB9 := Lib.hid (HB'.out.trans (hB.mono HB'.out.size))
            clear hB
            go_wp2_with fail
            go_roundw
            case rel => exact ⟨i + 1, D', by omega, by go_num, HP9, HO', HB9⟩
            case measure => simp [intOf] <;> omega
      have y0 : (k == 0) = false := by simpa using z0
      have y1 : (k == 1) = false := by simpa using z1
      have y2 : (k == 2) = false := by simpa using z2
      have y3 : (k == 3) = false := by simpa using z3
      go_upto_region 26 with fail
      have HP' := HP
      have HB' := HB
      have HOn : Hid (D.ops ≤ 2 * (i + 1)) := Lib.hid (by have := HO.out; omega)
      clear e0 e1 e2 e3
      obtain ⟨D', hD'⟩ : ∃ D', D' = D := ⟨_, rfl⟩
      rw [← hD'] at HP'
      have HO' : Hid (D'.ops ≤ 2 * (i + 1)) := Lib.hid (by rw [hD']; exact HOn.out)
      clear hD' HOn HP
      have hLd := fun w (h : Dk w p g mb N D') => c_Latest h b s
      have hLr := fun w (h : Rk w q r c' D') => r_Latest h b s
      obtain ⟨⟨l1, l2⟩, hl⟩ : ∃ r, latest D' b s = r := ⟨_, rfl⟩
      rw [hl] at hLd hLr
      simp only at hLd hLr
      clear hl
      go_wp2_with (first
        | (go_at_call 26
           (with_reducible refine (hLd _ HP'.out.dk).mono ?_)
           rintro e w20 ⟨rfl, hb20⟩
           have HP' := Lib.hid (HP'.out.bel hb20)
           have HB' := Lib.hid (HB'.out.trans (hb20.mono HB'.out.size))
           clear hb20 hLd)
        | (go_at_call 27
           (with_reducible refine (hLr _ HP'.out.rk).mono ?_)
           rintro e w21 ⟨rfl, hb21⟩
           have HP' := Lib.hid (HP'.out.bel hb21)
           have HB' := Lib.hid (HB'.out.trans (hb21.mono HB'.out.size))
           clear hb21 hLr))
      refine wp_region_phi (by kernel_rfl) 17 none (fun _ => false) (fun i_ v wz => match i_ with
        | 0 => v = .int .u32 (l1 : Int)
        | 1 => v = .int .u32 (l1 : Int)
        | 2 => v = .bool false
        | 3 => v = .bool false
        | 4 => v = .int .u64 (l2 : Int)
        | 5 => v = .int .u64 (l2 : Int)
        | 6 => v = .bool false
        | 7 => v = .bool false
        | 8 => v = .bool false
        | 9 => v = .pointer (some ⟨p, 0, none⟩)
        | 10 => v = .int .i64 (D'.ops : Int)
        | 11 => v = .pointer (some ⟨q, 0, none⟩)
        | 12 => v = .pointer (some ⟨q, 0, none⟩)
        | 13 => v = .pointer (some ⟨q, 3, none⟩)
        | 14 => v = .int .i64 (D'.ops : Int)
        | 15 => v = .bool false
        | 16 => v = .bool false
        | _ => True) (by kernel_rfl) ?_ ?_ ?_
      · (repeat' (first | exact allLt_zero | refine allLt_succ ?_ ?_))
        · exact fun _ _ _ h _ => h
        · exact fun _ _ _ h _ => h
        · exact fun _ _ _ h _ => h
        · exact fun _ _ _ h _ => h
        · exact fun _ _ _ h _ => h
        · exact fun _ _ _ h _ => h
        · exact fun _ _ _ h _ => h
        · exact fun _ _ _ h _ => h
        · exact fun _ _ _ h _ => h
        · exact fun _ _ _ h _ => h
        · exact fun _ _ _ h _ => h
        · exact fun _ _ _ h _ => h
        · exact fun _ _ _ h _ => h
        · exact fun _ _ _ h _ => h
        · exact fun _ _ _ h _ => h
        · exact fun _ _ _ h _ => h
        · exact fun _ _ _ h _ => h
      · (repeat' (first | exact allLt_zero | refine allLt_succ ?_ ?_))
        · intro a w' hf he
          have k14 : a.tmps.getD 14 undef = .int .u32 (l1 : Int) := hf.var (by kernel_rfl) rfl
          refine wpOp_step rfl (fun K hK => ?_)
          go_simp
          exact hK _ _ ⟨_, rfl, rfl, World.grownBy.refl _ _⟩
        · intro a w' hf he
          have k16 : a.tmps.getD 16 undef = .int .u32 (l1 : Int) := hf.var (by kernel_rfl) rfl
          refine wpOp_step rfl (fun K hK => ?_)
          go_simp
          exact hK _ _ ⟨_, rfl, rfl, World.grownBy.refl _ _⟩
        · intro a w' hf he
          have f0 : a.tmps.getD 120 undef = .int .u32 (l1 : Int) := he 0 (by kernel_rfl)
          have f1 : a.tmps.getD 121 undef = .int .u32 (l1 : Int) := he 1 (by kernel_rfl)
          refine wpOp_step rfl (fun K hK => ?_)
          go_simp
          exact hK _ _ ⟨_, rfl, rfl, World.grownBy.refl _ _⟩
        · intro a w' hf he
          have f2 : a.tmps.getD 122 undef = .bool false := he 2 (by kernel_rfl)
          refine wpOp_step rfl (fun K hK => ?_)
          go_simp
          exact hK _ _ ⟨_, rfl, rfl, World.grownBy.refl _ _⟩
        · intro a w' hf he
          have k15 : a.tmps.getD 15 undef = .int .u64 (l2 : Int) := hf.var (by kernel_rfl) rfl
          have f3 : a.tmps.getD 123 undef = .bool false := he 3 (by kernel_rfl)
          refine wpOp_run rfl rfl rfl f3 (fun K hK => ?_)
          go_simp
          exact hK _ _ ⟨_, rfl, rfl, World.grownBy.refl _ _⟩
        · intro a w' hf he
          have k17 : a.tmps.getD 17 undef = .int .u64 (l2 : Int) := hf.var (by kernel_rfl) rfl
          have f3 : a.tmps.getD 123 undef = .bool false := he 3 (by kernel_rfl)
          refine wpOp_run rfl rfl rfl f3 (fun K hK => ?_)
          go_simp
          exact hK _ _ ⟨_, rfl, rfl, World.grownBy.refl _ _⟩
        · intro a w' hf he
          have f4 : a.tmps.getD 124 undef = .int .u64 (l2 : Int) := he 4 (by kernel_rfl)
          have f5 : a.tmps.getD 125 undef = .int .u64 (l2 : Int) := he 5 (by kernel_rfl)
          have f3 : a.tmps.getD 123 undef = .bool false := he 3 (by kernel_rfl)
          refine wpOp_run rfl rfl rfl f3 (fun K hK => ?_)
          go_simp
          exact hK _ _ ⟨_, rfl, rfl, World.grownBy.refl _ _⟩
        · intro a w' hf he
          have f3 : a.tmps.getD 123 undef = .bool false := he 3 (by kernel_rfl)
          have f6 : a.tmps.getD 126 undef = .bool false := he 6 (by kernel_rfl)
          refine wpOp_step rfl (fun K hK => ?_)
          go_simp
          exact hK _ _ ⟨_, rfl, rfl, World.grownBy.refl _ _⟩
        · intro a w' hf he
          have f7 : a.tmps.getD 127 undef = .bool false := he 7 (by kernel_rfl)
          refine wpOp_step rfl (fun K hK => ?_)
          go_simp
          exact hK _ _ ⟨_, rfl, rfl, World.grownBy.refl _ _⟩
        · intro a w' hf he
          have k8 : a.tmps.getD 8 undef = .pointer (some ⟨p, 0, none⟩) := hf.var (by kernel_rfl) rfl
          have f8 : a.tmps.getD 128 undef = .bool false := he 8 (by kernel_rfl)
          refine wpOp_run rfl rfl rfl f8 (fun K hK => ?_)
          go_simp
          exact hK _ _ ⟨_, rfl, rfl, World.grownBy.refl _ _⟩
        · intro a w' hf he
          have f9 : a.tmps.getD 129 undef = .pointer (some ⟨p, 0, none⟩) := he 9 (by kernel_rfl)
          have f8 : a.tmps.getD 128 undef = .bool false := he 8 (by kernel_rfl)
          rw [show kindRow _ _ = none from by kernel_rfl] at hf
          refine wpOp_run rfl rfl rfl f8 (fun K hK => ?_)
          go_simp
          refine (c_Ops (HP'.out.dk.bel hf.bel)).mono ?_
          rintro e w2 ⟨rfl, rfl⟩
          exact hK _ _ ⟨_, rfl, rfl, World.grownBy.refl _ _⟩
        · intro a w' hf he
          have k10 : a.tmps.getD 10 undef = .pointer (some ⟨q, 0, none⟩) := hf.var (by kernel_rfl) rfl
          have f8 : a.tmps.getD 128 undef = .bool false := he 8 (by kernel_rfl)
          refine wpOp_run rfl rfl rfl f8 (fun K hK => ?_)
          go_simp
          exact hK _ _ ⟨_, rfl, rfl, World.grownBy.refl _ _⟩
        · intro a w' hf he
          have f11 : a.tmps.getD 131 undef = .pointer (some ⟨q, 0, none⟩) := he 11 (by kernel_rfl)
          have f8 : a.tmps.getD 128 undef = .bool false := he 8 (by kernel_rfl)
          refine wpOp_run rfl rfl rfl f8 (fun K hK => ?_)
          go_simp
          exact hK _ _ ⟨_, rfl, rfl, World.grownBy.refl _ _⟩
        · intro a w' hf he
          have f12 : a.tmps.getD 132 undef = .pointer (some ⟨q, 0, none⟩) := he 12 (by kernel_rfl)
          have f8 : a.tmps.getD 128 undef = .bool false := he 8 (by kernel_rfl)
          refine wpOp_run rfl rfl rfl f8 (fun K hK => ?_)
          go_simp
          exact hK _ _ ⟨_, rfl, rfl, World.grownBy.refl _ _⟩
        · intro a w' hf he
          have f13 : a.tmps.getD 133 undef = .pointer (some ⟨q, 3, none⟩) := he 13 (by kernel_rfl)
          have f8 : a.tmps.getD 128 undef = .bool false := he 8 (by kernel_rfl)
          rw [show kindRow _ _ = none from by kernel_rfl] at hf
          have dd := (HP'.out.rk.bel hf.bel).cells.2.2.2
          refine wpOp_run rfl rfl rfl f8 (fun K hK => ?_)
          go_simp
          exact hK _ _ ⟨_, rfl, rfl, World.grownBy.refl _ _⟩
        · intro a w' hf he
          have f10 : a.tmps.getD 130 undef = .int .i64 (D'.ops : Int) := he 10 (by kernel_rfl)
          have f14 : a.tmps.getD 134 undef = .int .i64 (D'.ops : Int) := he 14 (by kernel_rfl)
          have f8 : a.tmps.getD 128 undef = .bool false := he 8 (by kernel_rfl)
          refine wpOp_run rfl rfl rfl f8 (fun K hK => ?_)
          go_simp
          exact hK _ _ ⟨_, rfl, rfl, World.grownBy.refl _ _⟩
        · intro a w' hf he
          have f8 : a.tmps.getD 128 undef = .bool false := he 8 (by kernel_rfl)
          have f15 : a.tmps.getD 135 undef = .bool false := he 15 (by kernel_rfl)
          refine wpOp_step rfl (fun K hK => ?_)
          go_simp
          exact hK _ _ ⟨_, rfl, rfl, World.grownBy.refl _ _⟩
      · intro a w' hf he
        obtain ⟨u120, f0⟩ : ∃ u, a.tmps.getD 120 undef = u := ⟨_, rfl⟩
        obtain ⟨u121, f1⟩ : ∃ u, a.tmps.getD 121 undef = u := ⟨_, rfl⟩
        obtain ⟨u122, f2⟩ : ∃ u, a.tmps.getD 122 undef = u := ⟨_, rfl⟩
        obtain ⟨u123, f3⟩ : ∃ u, a.tmps.getD 123 undef = u := ⟨_, rfl⟩
        obtain ⟨u124, f4⟩ : ∃ u, a.tmps.getD 124 undef = u := ⟨_, rfl⟩
        obtain ⟨u125, f5⟩ : ∃ u, a.tmps.getD 125 undef = u := ⟨_, rfl⟩
        obtain ⟨u126, f6⟩ : ∃ u, a.tmps.getD 126 undef = u := ⟨_, rfl⟩
        obtain ⟨u127, f7⟩ : ∃ u, a.tmps.getD 127 undef = u := ⟨_, rfl⟩
        obtain ⟨u128, f8⟩ : ∃ u, a.tmps.getD 128 undef = u := ⟨_, rfl⟩
        obtain ⟨u129, f9⟩ : ∃ u, a.tmps.getD 129 undef = u := ⟨_, rfl⟩
        obtain ⟨u130, f10⟩ : ∃ u, a.tmps.getD 130 undef = u := ⟨_, rfl⟩
        obtain ⟨u131, f11⟩ : ∃ u, a.tmps.getD 131 undef = u := ⟨_, rfl⟩
        obtain ⟨u132, f12⟩ : ∃ u, a.tmps.getD 132 undef = u := ⟨_, rfl⟩
        obtain ⟨u133, f13⟩ : ∃ u, a.tmps.getD 133 undef = u := ⟨_, rfl⟩
        obtain ⟨u134, f14⟩ : ∃ u, a.tmps.getD 134 undef = u := ⟨_, rfl⟩
        obtain ⟨u135, f15⟩ : ∃ u, a.tmps.getD 135 undef = u := ⟨_, rfl⟩
        have f16 : a.tmps.getD 136 undef = .bool false := he 16 (by decide)
        have hlit := hf.lit ((120, u120) :: (121, u121) :: (122, u122) :: (123, u123) :: (124, u124) :: (125, u125) :: (126, u126) :: (127, u127) :: (128, u128) :: (129, u129) :: (130, u130) :: (131, u131) :: (132, u132) :: (133, u133) :: (134, u134) :: (135, u135) :: (136, .bool false) :: []) (by kernel_rfl) ⟨f0, f1, f2, f3, f4, f5, f6, f7, f8, f9, f10, f11, f12, f13, f14, f15, f16, trivial⟩
        have hB := hf.bel
        clear he hf f0 f1 f2 f3 f4 f5 f6 f7 f8 f9 f10 f11 f12 f13 f14 f15 f16 
        subst hlit
        simp only [putAll_nil, putAll_cons, Act.put, List.setIfInBounds_toArray, List.set_cons_zero, List.set_cons_succ]
        simp only [List.drop_succ_cons, List.drop_zero]
        have HP9 := Lib.hid (HP'.out.bel hB)
        have HB9 := Lib.hid (HB'.out.trans (hB.mono HB'.out.size))
        clear hB
        go_wp2_with fail
        go_roundw
        case rel => exact ⟨i + 1, D', by omega, by go_num, HP9, HO', HB9⟩
        case measure => simp [intOf] <;> omega
    · obtain rfl : i = nl := by omega
      go_wp2_with (first
        | (go_at_call 15; (with_reducible refine (c_lives _).mono ?_); rintro e w5 ⟨rfl, b5⟩))
      go_ret
      exact ⟨rfl, HB.out.trans (b5.mono HB.out.size)⟩
end Go.Proofs.Ytpbcmghfhflkbaa.Slots
