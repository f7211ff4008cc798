/- The law DataActs, walked. Conditions: none. -/
import Derived.Test.YtplemdgihlabgaaDatRef
import Derived.Test.YtplemdgihlabgaaDataKeeps
import Derived.Test.YtplemdgihlabgaaPair
import Derived.Test.YtplemdgihlabgaaSlRows
import Derived.Deep.CutBlock
set_option linter.unusedVariables false
set_option linter.unusedSimpArgs false
namespace Go.Proofs.Ytplemdgihlabgaa.Data
open Go.RowKit Tw Disk
set_option maxHeartbeats 8000000
set_option maxRecDepth 100000
def ActL : List Leaf := [.int .i64, .int .i64, .int .u64, .int .i64, .int .i64, .bytes]
theorem act_of2 {W : World} {r : List Value} (h : RowOk W ActL r) :
    ∃ (k a : Int) (m : Nat) (x y : Int) (A : Option Addr) (n cb : Nat) (b : List UInt8), r = actV k a m x y A n cb ∧ (-9223372036854775808 ≤ a ∧ a ≤ 9223372036854775807) ∧ m < 18446744073709551616 ∧ Byt W A n cb b := by
  obtain ⟨v1, r1, rfl, k1, h⟩ := rowOk_cons h
  obtain ⟨v2, r2, rfl, k2, h⟩ := rowOk_cons h
  obtain ⟨v3, r3, rfl, k3, h⟩ := rowOk_cons h
  obtain ⟨v4, r4, rfl, k4, h⟩ := rowOk_cons h
  obtain ⟨v5, r5, rfl, k5, h⟩ := rowOk_cons h
  obtain ⟨v6, r6, rfl, k6, h⟩ := rowOk_cons h
  obtain rfl := rowOk_nil h
  obtain ⟨z1, rfl, q1⟩ := leaf_i64 k1
  obtain ⟨z2, rfl, q2⟩ := leaf_i64 k2
  obtain ⟨z3, rfl, q3⟩ := leaf_u64 k3
  obtain ⟨z4, rfl, q4⟩ := leaf_i64 k4
  obtain ⟨z5, rfl, q5⟩ := leaf_i64 k5
  obtain ⟨A, n, cb, b, rfl, hb⟩ := k6
  exact ⟨z1, z2, z3, z4, z5, A, n, cb, b, rfl, q2, q3, hb⟩
def act0 : Array Value := #[.int .i64 0, .int .i64 0, .int .u64 0, .int .i64 0, .int .i64 0, .slice none 0 0]
theorem one_act {k a : Int} {m : Nat} {x y : Int} {A : Option Addr} {n cb : Nat} : ∀ v ∈ (actV k a m x y A n cb).toArray, v.oneCell' = true := by
  intro v hv
  simp only [actV, List.mem_toArray, List.mem_cons, List.not_mem_nil, or_false] at hv
  rcases hv with rfl | rfl | rfl | rfl | rfl | rfl <;> rfl
theorem act6 {W : World} {g : Nat} {k a : Int} {m : Nat} {x y : Int} {A : Option Addr} {n cb : Nat} {t : TypeId} (h : W.heap[g]? = some (.cells (actV k a m x y A n cb).toArray t (0, 0))) :
    W.cell? ⟨g, 0, none⟩ = some (.int .i64 k) ∧ W.cell? ⟨g, 1, none⟩ = some (.int .i64 a) ∧ W.cell? ⟨g, 2, none⟩ = some (.int .u64 (m : Int)) ∧ W.cell? ⟨g, 3, none⟩ = some (.int .i64 x) ∧ W.cell? ⟨g, 4, none⟩ = some (.int .i64 y) ∧ W.cell? ⟨g, 5, none⟩ = some (.slice A n cb) :=
  ⟨cells_of h 0 _ rfl, cells_of h 1 _ rfl, cells_of h 2 _ rfl, cells_of h 3 _ rfl, cells_of h 4 _ rfl, cells_of h 5 _ rfl⟩
theorem act_span {W : World} {g : Nat} {k a : Int} {m : Nat} {x y : Int} {A : Option Addr} {n cb : Nat} {t : TypeId} (h : W.heap[g]? = some (.cells (actV k a m x y A n cb).toArray t (0, 0))) :
    ∀ j v, ([.int .i64 x, .int .i64 y] : List Value)[j]? = some v → W.cell? ((⟨g, 3, none⟩ : Addr).add j) = some v := by
  intro j v hv
  obtain ⟨_, _, _, h3, h4, _⟩ := act6 h
  match j, hv with
  | 0, hv => injection hv with hv; subst hv; exact h3
  | 1, hv => injection hv with hv; subst hv; exact h4
theorem dWrite_ops {d : Dsk} (hd : d.Ok) (x y : Int) (b : List UInt8) : (dWrite d x y b).1.ops ≤ d.ops + 1024 := by
  have hn := hd.n
  unfold dWrite
  split
  · rename_i hg
    split
    · have := wseq_ops (o := x.toNat) (b := b) (List.range y.toNat) d
      rw [List.length_range] at this
      unfold Span.Good secs at hg
      omega
    · exact Nat.le_add_right _ _
  · exact Nat.le_add_right _ _
theorem act_blk {w : World} {p g mb q r : Nat} {A : Option Addr} {n c : Nat} {b : List UInt8} (h : Byt w A n c b) (hp : w.heap.size ≤ p ∧ w.heap.size ≤ g ∧ w.heap.size ≤ mb) (hq : w.heap.size ≤ q ∧ w.heap.size ≤ r) : (∀ ad, A = some ad → 0 < n → ad.block ≠ p ∧ ad.block ≠ mb) ∧ (∀ ad, A = some ad → 0 < n → ad.block ≠ q ∧ ad.block ≠ r) :=
  ⟨byt_off h hp.1 hp.2.2, byt_off h hq.1 hq.2⟩
theorem w_DataActs (n : Int) (A : Option Addr) (nl cb : Nat) (rows : List (List Value)) (w : World) (hn : -9223372036854775808 ≤ n ∧ n ≤ 9223372036854775807) (hr : SlRows w 6 A nl cb rows) (hro : ∀ (i : Nat) (r : List Value), rows[i]? = some r → RowOk w ActL r) :
    Calls Try.prog 13 #[.int .i64 n, .slice A nl cb] w fun e w' => e = .returned (.bool true) ∧ Below w.heap.size w w' := by
  have Hr := Lib.hid hr
  have Hro := Lib.hid hro
  clear hr hro
  by_cases h1 : n < 1
  · skip
    go_enter Try.func13, Try.ntmps13
    go_wp2_with (first
      | (go_at_call 67; (with_reducible refine (c_lives _).mono ?_); rintro e w5 ⟨rfl, b5⟩))
    go_ret
    exact ⟨rfl, b5⟩
  by_cases h2 : 40 < n
  · skip
    go_enter Try.func13, Try.ntmps13
    go_wp2_with (first
      | (go_at_call 67; (with_reducible refine (c_lives _).mono ?_); rintro e w5 ⟨rfl, b5⟩))
    go_ret
    exact ⟨rfl, b5⟩
  by_cases h3 : 40 < nl
  · skip
    go_enter Try.func13, Try.ntmps13
    go_wp2_with (first
      | (go_at_call 67; (with_reducible refine (c_lives _).mono ?_); rintro e w5 ⟨rfl, b5⟩))
    go_ret
    exact ⟨rfl, b5⟩
  obtain ⟨N, rfl⟩ : ∃ q : Nat, n = (q : Int) := ⟨n.toNat, by omega⟩
  have hN1 : 1 ≤ N := by omega
  have hN2 : N ≤ 40 := by omega
  have hnl : nl ≤ 40 := by omega
  clear h1 h2 h3 hn
  go_enter Try.func13, Try.ntmps13
  go_wp2_with (first
    | (go_at_call 27
       (with_reducible refine (c_dNewI (N : Int) N rfl _ hN1 (by omega)).mono ?_)
       rintro e w1 ⟨p, g, mb, rfl, hk, hge, hb1⟩
       have HB := Lib.hid hb1
       have HK := Lib.hid hk
       have HG := Lib.hid hge
       clear hb1 hk hge)
    | (go_at_call 28
       (with_reducible refine (r_New N _ hN1 (by omega)).mono ?_)
       rintro e w2 ⟨q, r, c', rfl, hk2, hge2, hb2⟩
       have hlk := HK.out.lts
       have HP : Hid (Pr w2 p g mb N q r c' (Dsk.new N)) := Lib.hid ⟨HK.out.bel hb2, hk2, by omega⟩
       have HG2 : Hid (w.heap.size ≤ q ∧ w.heap.size ≤ r) := Lib.hid (by have := HB.out.size; omega)
       have HB := Lib.hid (HB.out.trans (hb2.mono HB.out.size))
       clear hk2 hge2 hb2 hlk HK))
  have hops0 : Hid ((Dsk.new N).ops ≤ 1024 * 0) := Lib.hid (Nat.le_refl _)
  generalize Dsk.new N = D0 at *
  go_loopw [43] (fun v wr => ∃ (i : Nat) (D : Dsk), i ≤ nl ∧ v = .int .i64 (i : Int) ∧ Hid (Pr wr p g mb N q r c' D) ∧ Hid (D.ops ≤ 1024 * i) ∧ Hid (Below w.heap.size w wr)) (fun v _ => nl - (intOf v).toNat)
  case atStart => exact ⟨0, D0, Nat.zero_le _, rfl, HP, hops0, HB⟩
  case round =>
    clear HP HB hops0
    obtain ⟨i, D, hi, rfl, HP, HO, HB⟩ := hrel
    by_cases hin : i < nl
    · obtain ⟨ad, rw_, rfl, hri, hrl, hcell⟩ := Hr.out.at hin
      obtain ⟨k, av, m2, x, y, A2, n2, cb2, b2, rfl, ha, hm2, hb2⟩ := act_of2 (Hro.out i rw_ hri)
      have Hb2 := Lib.hid hb2
      have HA2 := Lib.hid (act_blk hb2 HG.out HG2.out)
      have hble := hb2.le
      have hbcap := hb2.cap
      have ho : Hid (D.ops + 1024 < 1000000000) := Lib.hid (by have := HO.out; omega)
      have hhb : ∀ j v, (actV k av m2 x y A2 n2 cb2)[j]? = some v → wr.cell? ((ad.add (i * 6)).add j) = some v := fun j v hv => by
        have hc := hcell j v hv
        rw [HB.out.cell (block_lt_of_cell hc)]
        exact hc
      have Hcs := Lib.hid hhb
      have HY := Lib.hid (heap_alloc_new wr (.cells act0 153))
      have HYB := Lib.hid ((Below.refl wr.heap.size wr).alloc (Nat.le_refl _) (.cells act0 153))
      have hlp := HP.out.dk.lts
      have hlr := HP.out.rk.lts
      have hne := HP.out.ne
      unfold act0 at HY HYB
      clear hri hrl hcell hhb hb2
      by_cases hb4 : 400 < n2
      · go_wp2_with (first
        | (refine wpL_load_rd rfl 153 (.tmp 45) rfl (ad.add (i * 6)) rfl (actV k av m2 x y A2 n2 cb2) _ Hcs.out Try.underlying153 rfl (by kernel_rfl) ?_)
        | (refine wpL_store_all rfl rfl 153 (.tmp 10) (.tmp 46) rfl _ rfl _ rfl _ _ HY.out (by kernel_rfl) rfl one_act ?_
           intro w8 x8 g8
           have hb8 := HYB.out.grown g8 HYB.out.size (by rintro k ⟨⟩; exact Nat.le_refl _)
           have HP := Lib.hid (HP.out.bel hb8)
           have HB := Lib.hid (HB.out.trans (hb8.mono HB.out.size))
           obtain ⟨e0, e1, e2, e3, e4, e5⟩ := act6 x8
           have X8 := Lib.hid x8
           clear x8 g8 HY HYB hb8 Hcs)
        | (go_at_call 67; (with_reducible refine (c_lives _).mono ?_); rintro e w5 ⟨rfl, b5⟩))
        go_ret
        exact ⟨rfl, HB.out.trans (b5.mono HB.out.size)⟩
      go_upto_block 2 with (first
        | (refine wpL_load_rd rfl 153 (.tmp 45) rfl (ad.add (i * 6)) rfl (actV k av m2 x y A2 n2 cb2) _ Hcs.out Try.underlying153 rfl (by kernel_rfl) ?_)
        | (refine wpL_store_all rfl rfl 153 (.tmp 10) (.tmp 46) rfl _ rfl _ rfl _ _ HY.out (by kernel_rfl) rfl one_act ?_
           intro w8 x8 g8
           have hb8 := HYB.out.grown g8 HYB.out.size (by rintro k ⟨⟩; exact Nat.le_refl _)
           have HP := Lib.hid (HP.out.bel hb8)
           have HB := Lib.hid (HB.out.trans (hb8.mono HB.out.size))
           obtain ⟨e0, e1, e2, e3, e4, e5⟩ := act6 x8
           have X8 := Lib.hid x8
           clear x8 g8 HY HYB hb8 Hcs)
        )
      have hsz8 := HB.out.size
      have hxl := heap_lt X8.out
      generalize wr.heap.size = Bx at *
      go_cut [19, 20, 21, 22, 23, 24, 25, 26, 27, 28, 29, 30, 31, 32, 33, 34, 35, 36, 37, 38, 39, 40, 41, 42, 43] from 11 to 162 (fun v19 v20 v21 v22 v23 v24 v25 v26 v27 v28 v29 v30 v31 v32 v33 v34 v35 v36 v37 v38 v39 v40 v41 v42 v43 w2 => (v19 = .int .i64 (N : Int) ∧ v20 = .bool (decide ((N : Int) < 1)) ∧ v21 = .bool (decide ((N : Int) < 1)) ∧ v22 = .int .i64 (N : Int) ∧ v23 = .bool (decide (40 < (N : Int))) ∧ v24 = .bool (decide ((N : Int) < 1) || decide (40 < (N : Int))) ∧ v25 = .bool (decide ((N : Int) < 1) || decide (40 < (N : Int))) ∧ v26 = .slice (some ad) nl cb ∧ v27 = .int .i64 (nl : Int) ∧ v28 = .bool (decide (40 < (nl : Int))) ∧ v29 = .bool (decide ((N : Int) < 1) || decide (40 < (N : Int)) || decide (40 < (nl : Int))) ∧ v30 = undef ∧ v31 = .tuple #[.pointer (some ⟨p, 0, none⟩), .int .i64 0] ∧ v32 = .int .i64 (N : Int) ∧ v33 = .tuple #[.pointer (some ⟨p, 0, none⟩), .int .i64 0] ∧ v34 = .pointer (some ⟨p, 0, none⟩) ∧ v35 = .int .i64 0 ∧ v36 = .tuple #[.pointer (some ⟨q, 0, none⟩), .int .i64 0] ∧ v37 = .int .i64 (N : Int) ∧ v38 = .tuple #[.pointer (some ⟨q, 0, none⟩), .int .i64 0] ∧ v39 = .pointer (some ⟨q, 0, none⟩) ∧ v40 = .int .i64 0 ∧ v41 = .slice (some ad) nl cb ∧ v42 = .int .i64 (nl : Int) ∧ v43 = .int .i64 (i : Int)) ∧ ∃ D', Hid (Pr w2 p g mb N q r c' D') ∧ Hid (D'.ops ≤ 1024 * (i + 1)) ∧ Hid (Below w.heap.size w w2))
      case first =>
        have HL := Lib.hid (And.intro hlp hlr)
        have HO1 : Hid (D.ops ≤ 1024 * (i + 1)) := Lib.hid (by have := HO.out; omega)
        have hpl := HL.out
        by_cases z0 : k = 0
        · subst z0
          go_wp2_with fail
          refine wp_region_fr (by kernel_rfl) 13 (fun i_ => match i_ with | 5 => 1 | 11 => 2 | _ => 0) (fun c_ => match c_ with | 1 => fun k => k = p ∨ k = g ∨ k = mb | 2 => fun k => k = q ∨ k = r | _ => fun _ => False) (fun i_ => match i_ with | 0 => [1, 2] | 1 => [1, 2] | 2 => [1, 2] | 3 => [1, 2] | 4 => [1, 2] | 5 => [2] | 6 => [1, 2] | 7 => [1, 2] | 8 => [1, 2] | 9 => [1, 2] | 10 => [1, 2] | _ => []) (fun i_ => match i_ with | 6 => [1] | 7 => [1] | 8 => [1] | 9 => [1] | 10 => [1] | 11 => [1] | 12 => [1, 2] | _ => []) [1, 2] (fun i_ v wz => match i_ with
            | 0 => v = .pointer (some ⟨p, 0, none⟩)
            | 1 => v = .pointer (some ⟨Bx, 3, none⟩)
            | 2 => v = .agg #[.int .i64 x, .int .i64 y]
            | 3 => v = .pointer (some ⟨Bx, 5, none⟩)
            | 4 => v = .slice A2 n2 cb2
            | 5 => v = .int .i64 ((dWrite D x y b2).2 : Int) ∧ Dk wz p g mb N (dWrite D x y b2).1
            | 6 => v = .pointer (some ⟨q, 0, none⟩)
            | 7 => v = .pointer (some ⟨Bx, 3, none⟩)
            | 8 => v = .agg #[.int .i64 x, .int .i64 y]
            | 9 => v = .pointer (some ⟨Bx, 5, none⟩)
            | 10 => v = .slice A2 n2 cb2
            | 11 => v = .int .i64 ((dWrite D x y b2).2 : Int) ∧ Rk wz q r c' (dWrite D x y b2).1
            | 12 => v = .bool false
            | _ => True) (by kernel_rfl) (by kernel_rfl) ?_ ?_ ?_
          · (repeat' (first | exact allLt_zero | refine allLt_succ ?_ ?_))
            · exact fun _ _ _ h _ => h
            · exact fun _ _ _ h _ => h
            · exact fun _ _ _ h _ => h
            · exact fun _ _ _ h _ => h
            · exact fun _ _ _ h _ => h
            · intro v w1 w2 h hg
              replace hg : Fr (fun k => (fun k => k = q ∨ k = r) k ∨ False) w1 w2 := hg
              replace hg := hg.un1
              exact ⟨h.1, dkfr hne h.2 hg⟩
            · exact fun _ _ _ h _ => h
            · exact fun _ _ _ h _ => h
            · exact fun _ _ _ h _ => h
            · exact fun _ _ _ h _ => h
            · exact fun _ _ _ h _ => h
            · intro v w1 w2 h hg
              replace hg : Fr (fun k => False) w1 w2 := hg
              exact ⟨h.1, h.2.fr hg (fun e => e) (fun e => e)⟩
            · exact fun _ _ _ h _ => h
          · (repeat' (first | exact allLt_zero | refine allLt_succ ?_ ?_))
            · intro a w' hf he
              have k5 : a.tmps.getD 5 undef = .pointer (some ⟨p, 0, none⟩) := hf.var (by kernel_rfl) rfl
              refine wpOp_step rfl (fun K hK => ?_)
              go_simp
              exact hK _ _ ⟨_, rfl, rfl, Fr.refl _ _⟩
            · intro a w' hf he
              have k10 : a.tmps.getD 10 undef = .pointer (some ⟨Bx, 0, none⟩) := hf.var (by kernel_rfl) rfl
              have hfr : Fr (fun k => False) _ w' := hf.of_start
              refine wpOp_step rfl (fun K hK => ?_)
              go_simp
              exact hK _ _ ⟨_, rfl, rfl, Fr.refl _ _⟩
            · intro a w' hf he
              have f1 : a.tmps.getD 57 undef = .pointer (some ⟨Bx, 3, none⟩) := he 1 (by kernel_rfl)
              have hfr : Fr (fun k => False) _ w' := hf.of_start
              have hx := heap_fr X8.out hfr (by first | exact fun e => e | (intro e; simp only [or_false] at e; omega) | omega)
              refine wpOp_step rfl (fun K hK => ?_)
              refine wp_load_rd 61 (.tmp 57) rfl ⟨Bx, 3, none⟩ f1 [.int .i64 x, .int .i64 y] _ (act_span hx) Try.underlying61 rfl (by kernel_rfl) ?_
              exact hK _ _ ⟨_, rfl, rfl, Fr.refl _ _⟩
            · intro a w' hf he
              have k10 : a.tmps.getD 10 undef = .pointer (some ⟨Bx, 0, none⟩) := hf.var (by kernel_rfl) rfl
              have hfr : Fr (fun k => False) _ w' := hf.of_start
              refine wpOp_step rfl (fun K hK => ?_)
              go_simp
              exact hK _ _ ⟨_, rfl, rfl, Fr.refl _ _⟩
            · intro a w' hf he
              have f3 : a.tmps.getD 59 undef = .pointer (some ⟨Bx, 5, none⟩) := he 3 (by kernel_rfl)
              have hfr : Fr (fun k => False) _ w' := hf.of_start
              have hx := heap_fr X8.out hfr (by first | exact fun e => e | (intro e; simp only [or_false] at e; omega) | omega)
              have dd := (act6 hx).2.2.2.2.2
              clear hx
              refine wpOp_step rfl (fun K hK => ?_)
              go_simp
              exact hK _ _ ⟨_, rfl, rfl, Fr.refl _ _⟩
            · intro a w' hf he
              have f0 : a.tmps.getD 56 undef = .pointer (some ⟨p, 0, none⟩) := he 0 (by kernel_rfl)
              have f2 : a.tmps.getD 58 undef = .agg #[.int .i64 x, .int .i64 y] := he 2 (by kernel_rfl)
              have f4 : a.tmps.getD 60 undef = .slice A2 n2 cb2 := he 4 (by kernel_rfl)
              have hfr : Fr (fun k => False) _ w' := hf.of_start
              have hd := HP.out.dk.fr hfr (fun e => e) (fun e => e) (fun e => e)
              have hby := Hb2.out.bel (HB.out.trans (hfr.bel (B := w.heap.size) (fun k e => by have := HG.out; have := HG2.out; first | exact e.elim | (simp only [or_false] at e; omega) | omega) HB.out.size))
              refine wpOp_step rfl (fun K hK => ?_)
              go_simp
              refine (c_Write hd ho.out x y A2 n2 cb2 b2 hby HA2.out.1).mono ?_
              rintro e w2 ⟨rfl, hk2, f2⟩
              exact hK _ _ ⟨_, rfl, ⟨rfl, hk2⟩, f2.mono (fun k _ e => .inl (e.elim .inl (fun e => .inr (.inr e))))⟩
            · intro a w' hf he
              have k7 : a.tmps.getD 7 undef = .pointer (some ⟨q, 0, none⟩) := hf.var (by kernel_rfl) rfl
              refine wpOp_step rfl (fun K hK => ?_)
              go_simp
              exact hK _ _ ⟨_, rfl, rfl, Fr.refl _ _⟩
            · intro a w' hf he
              have k10 : a.tmps.getD 10 undef = .pointer (some ⟨Bx, 0, none⟩) := hf.var (by kernel_rfl) rfl
              have hfr : Fr (fun k => (fun k => k = p ∨ k = g ∨ k = mb) k ∨ False) _ w' := hf.of_start
              replace hfr := hfr.un1
              refine wpOp_step rfl (fun K hK => ?_)
              go_simp
              exact hK _ _ ⟨_, rfl, rfl, Fr.refl _ _⟩
            · intro a w' hf he
              have f7 : a.tmps.getD 63 undef = .pointer (some ⟨Bx, 3, none⟩) := he 7 (by kernel_rfl)
              have hfr : Fr (fun k => (fun k => k = p ∨ k = g ∨ k = mb) k ∨ False) _ w' := hf.of_start
              replace hfr := hfr.un1
              have hx := heap_fr X8.out hfr (by first | exact fun e => e | (intro e; simp only [or_false] at e; omega) | omega)
              refine wpOp_step rfl (fun K hK => ?_)
              refine wp_load_rd 61 (.tmp 63) rfl ⟨Bx, 3, none⟩ f7 [.int .i64 x, .int .i64 y] _ (act_span hx) Try.underlying61 rfl (by kernel_rfl) ?_
              exact hK _ _ ⟨_, rfl, rfl, Fr.refl _ _⟩
            · intro a w' hf he
              have k10 : a.tmps.getD 10 undef = .pointer (some ⟨Bx, 0, none⟩) := hf.var (by kernel_rfl) rfl
              have hfr : Fr (fun k => (fun k => k = p ∨ k = g ∨ k = mb) k ∨ False) _ w' := hf.of_start
              replace hfr := hfr.un1
              refine wpOp_step rfl (fun K hK => ?_)
              go_simp
              exact hK _ _ ⟨_, rfl, rfl, Fr.refl _ _⟩
            · intro a w' hf he
              have f9 : a.tmps.getD 65 undef = .pointer (some ⟨Bx, 5, none⟩) := he 9 (by kernel_rfl)
              have hfr : Fr (fun k => (fun k => k = p ∨ k = g ∨ k = mb) k ∨ False) _ w' := hf.of_start
              replace hfr := hfr.un1
              have hx := heap_fr X8.out hfr (by first | exact fun e => e | (intro e; simp only [or_false] at e; omega) | omega)
              have dd := (act6 hx).2.2.2.2.2
              clear hx
              refine wpOp_step rfl (fun K hK => ?_)
              go_simp
              exact hK _ _ ⟨_, rfl, rfl, Fr.refl _ _⟩
            · intro a w' hf he
              have f6 : a.tmps.getD 62 undef = .pointer (some ⟨q, 0, none⟩) := he 6 (by kernel_rfl)
              have f8 : a.tmps.getD 64 undef = .agg #[.int .i64 x, .int .i64 y] := he 8 (by kernel_rfl)
              have f10 : a.tmps.getD 66 undef = .slice A2 n2 cb2 := he 10 (by kernel_rfl)
              have hfr : Fr (fun k => (fun k => k = p ∨ k = g ∨ k = mb) k ∨ False) _ w' := hf.of_start
              replace hfr := hfr.un1
              have hd := rkfr hne HP.out.rk hfr
              have hby := Hb2.out.bel (HB.out.trans (hfr.bel (B := w.heap.size) (fun k e => by have := HG.out; have := HG2.out; first | exact e.elim | (simp only [or_false] at e; omega) | omega) HB.out.size))
              refine wpOp_step rfl (fun K hK => ?_)
              go_simp
              refine (r_dWrite hd ho.out x y A2 n2 cb2 b2 hby HA2.out.2).mono ?_
              rintro e w2 ⟨rfl, hk2, f2⟩
              exact hK _ _ ⟨_, rfl, ⟨rfl, hk2⟩, f2.mono (fun k _ e => .inl e)⟩
            · intro a w' hf he
              obtain ⟨hv5, hk5⟩ := he 5 (by kernel_rfl)
              have f5 : a.tmps.getD 61 undef = _ := hv5
              obtain ⟨hv11, hk11⟩ := he 11 (by kernel_rfl)
              have f11 : a.tmps.getD 67 undef = _ := hv11
              have hfr : Fr (fun k => (fun k => k = p ∨ k = g ∨ k = mb) k ∨ (fun k => k = q ∨ k = r) k ∨ False) _ w' := hf.of_start
              refine wpOp_step rfl (fun K hK => ?_)
              go_simp
              exact hK _ _ ⟨_, rfl, rfl, Fr.refl _ _⟩
          · intro a w' hf he
            obtain ⟨u56, f0⟩ : ∃ u, a.tmps.getD 56 undef = u := ⟨_, rfl⟩
            obtain ⟨u57, f1⟩ : ∃ u, a.tmps.getD 57 undef = u := ⟨_, rfl⟩
            obtain ⟨u58, f2⟩ : ∃ u, a.tmps.getD 58 undef = u := ⟨_, rfl⟩
            obtain ⟨u59, f3⟩ : ∃ u, a.tmps.getD 59 undef = u := ⟨_, rfl⟩
            obtain ⟨u60, f4⟩ : ∃ u, a.tmps.getD 60 undef = u := ⟨_, rfl⟩
            obtain ⟨hv5, hk5⟩ := he 5 (by decide)
            have f5 : a.tmps.getD 61 undef = _ := hv5
            obtain ⟨u62, f6⟩ : ∃ u, a.tmps.getD 62 undef = u := ⟨_, rfl⟩
            obtain ⟨u63, f7⟩ : ∃ u, a.tmps.getD 63 undef = u := ⟨_, rfl⟩
            obtain ⟨u64, f8⟩ : ∃ u, a.tmps.getD 64 undef = u := ⟨_, rfl⟩
            obtain ⟨u65, f9⟩ : ∃ u, a.tmps.getD 65 undef = u := ⟨_, rfl⟩
            obtain ⟨u66, f10⟩ : ∃ u, a.tmps.getD 66 undef = u := ⟨_, rfl⟩
            obtain ⟨hv11, hk11⟩ := he 11 (by decide)
            have f11 : a.tmps.getD 67 undef = _ := hv11
            have f12 : a.tmps.getD 68 undef = .bool false := he 12 (by decide)
            have hlit := hf.lit ((56, u56) :: (57, u57) :: (58, u58) :: (59, u59) :: (60, u60) :: (61, _) :: (62, u62) :: (63, u63) :: (64, u64) :: (65, u65) :: (66, u66) :: (67, _) :: (68, .bool false) :: []) (by kernel_rfl) ⟨f0, f1, f2, f3, f4, f5, f6, f7, f8, f9, f10, f11, f12, trivial⟩
            have hB : Fr (fun k => (fun k => k = p ∨ k = g ∨ k = mb) k ∨ (fun k => k = q ∨ k = r) k ∨ False) _ w' := hf.of_start
            clear he hf f0 f1 f2 f3 f4 f5 f6 f7 f8 f9 f10 f11 f12 hv5 hv11
            subst hlit
            simp only [putAll_nil, putAll_cons, Act.put, List.setIfInBounds_toArray, List.set_cons_zero, List.set_cons_succ]
            simp only [List.drop_succ_cons, List.drop_zero]
            go_wp2_with fail
            go_meet
            case rel => exact ⟨⟨rfl, rfl, rfl, rfl, rfl, rfl, rfl, rfl, rfl, rfl, rfl, rfl, rfl, rfl, rfl, rfl, rfl, rfl, rfl, rfl, rfl, rfl, rfl, rfl, rfl⟩, _, Lib.hid ⟨hk5, hk11, hne⟩, Lib.hid (Nat.le_trans (dWrite_ops HP.out.dk.ok _ _ _) (by have := HO.out; omega)), Lib.hid (HB.out.trans (hB.bel (B := w.heap.size) (fun k e => by have := HG.out; have := HG2.out; simp only [or_false] at e; omega) HB.out.size))⟩
        by_cases z1 : k = 1
        · subst z1
          obtain ⟨⟨t, E⟩, hT⟩ : ∃ R, dRead D x y = R := ⟨_, rfl⟩
          have HT := Lib.hid hT
          clear hT
          go_wp2_with (first
            | (refine wpL_load_rd rfl 61 (.tmp 73) rfl ⟨Bx, 3, none⟩ rfl [.int .i64 x, .int .i64 y] _ (act_span X8.out) Try.underlying61 rfl (by kernel_rfl) ?_)
            | (refine wpL_load_rd rfl 61 (.tmp 80) rfl ⟨Bx, 3, none⟩ rfl [.int .i64 x, .int .i64 y] _ (act_span X9.out) Try.underlying61 rfl (by kernel_rfl) ?_)
            | (go_at_call 70
               (with_reducible refine (c_Read HP.out.dk x y).mono ?_)
               rw [HT.out]
               rintro e w9 ⟨A3, c3, rfl, ho3, hb3⟩
               have HP := Lib.hid (HP.out.bel hb3)
               have HB := Lib.hid (HB.out.trans (hb3.mono HB.out.size))
               have hx9 := (hb3.block _ hxl).trans X8.out
               have X9 := Lib.hid hx9
               have O3 := Lib.hid ho3.rd
               clear e0 e1 e2 e3 e4 e5
               obtain ⟨e0, e1, e2, e3, e4, e5⟩ := act6 hx9
               clear ho3 hb3 hx9)
            | (go_at_call 71
               (with_reducible refine (r_dRead HP.out.rk x y).mono ?_)
               rw [HT.out]
               rintro e w10 ⟨A4, c4, rfl, ho4, hb4⟩
               have HP := Lib.hid (HP.out.bel hb4)
               have HB := Lib.hid (HB.out.trans (hb4.mono HB.out.size))
               have s1 := run_str (P := Try.prog) w10 62 9 5 A3 t.length c3 t Try.underlying62 Try.underlying5 Try.underlying9 (O3.out.bel hb4)
               have s2 := run_str (P := Try.prog) w10 62 9 5 A4 t.length c4 t Try.underlying62 Try.underlying5 Try.underlying9 ho4.rd
               clear e0 e1 e2 e3 e4 e5 ho4 hb4))
          go_meet
          case rel => exact ⟨⟨rfl, rfl, rfl, rfl, rfl, rfl, rfl, rfl, rfl, rfl, rfl, rfl, rfl, rfl, rfl, rfl, rfl, rfl, rfl, rfl, rfl, rfl, rfl, rfl, rfl⟩, D, HP, HO1, HB⟩
        by_cases z2 : k = 2
        · subst z2
          obtain ⟨⟨t, E⟩, hT⟩ : ∃ R, dRead D (whole av).1 (whole av).2 = R := ⟨_, rfl⟩
          have HT := Lib.hid hT
          clear hT
          go_wp2_with (first
            | (go_at_call 72
               (with_reducible refine (c_ExtentE HP.out.dk av ha).mono ?_)
               rw [HT.out]
               rintro e w9 ⟨A3, c3, rfl, ho3, hb3⟩
               have HP := Lib.hid (HP.out.bel hb3)
               have HB := Lib.hid (HB.out.trans (hb3.mono HB.out.size))
               have hx9 := (hb3.block _ hxl).trans X8.out
               have X9 := Lib.hid hx9
               have O3 := Lib.hid ho3.rd
               clear e0 e1 e2 e3 e4 e5
               obtain ⟨e0, e1, e2, e3, e4, e5⟩ := act6 hx9
               clear ho3 hb3 hx9)
            | (go_at_call 73
               (with_reducible refine (r_Extent HP.out.rk av ha).mono ?_)
               rw [HT.out]
               rintro e w10 ⟨A4, c4, rfl, ho4, hb4⟩
               have HP := Lib.hid (HP.out.bel hb4)
               have HB := Lib.hid (HB.out.trans (hb4.mono HB.out.size))
               have s1 := run_str (P := Try.prog) w10 62 9 5 A3 t.length c3 t Try.underlying62 Try.underlying5 Try.underlying9 (O3.out.bel hb4)
               have s2 := run_str (P := Try.prog) w10 62 9 5 A4 t.length c4 t Try.underlying62 Try.underlying5 Try.underlying9 ho4.rd
               clear e0 e1 e2 e3 e4 e5 ho4 hb4))
          go_meet
          case rel => exact ⟨⟨rfl, rfl, rfl, rfl, rfl, rfl, rfl, rfl, rfl, rfl, rfl, rfl, rfl, rfl, rfl, rfl, rfl, rfl, rfl, rfl, rfl, rfl, rfl, rfl, rfl⟩, D, HP, HO1, HB⟩
        by_cases z3 : k = 3
        · subst z3
          go_wp2_with fail
          refine wp_region_fr (by kernel_rfl) 13 (fun i_ => match i_ with | 5 => 1 | 11 => 2 | _ => 0) (fun c_ => match c_ with | 1 => fun k => k = p ∨ k = g ∨ k = mb | 2 => fun k => k = q ∨ k = r | _ => fun _ => False) (fun i_ => match i_ with | 0 => [1, 2] | 1 => [1, 2] | 2 => [1, 2] | 3 => [1, 2] | 4 => [1, 2] | 5 => [2] | 6 => [1, 2] | 7 => [1, 2] | 8 => [1, 2] | 9 => [1, 2] | 10 => [1, 2] | _ => []) (fun i_ => match i_ with | 6 => [1] | 7 => [1] | 8 => [1] | 9 => [1] | 10 => [1] | 11 => [1] | 12 => [1, 2] | _ => []) [1, 2] (fun i_ v wz => match i_ with
            | 0 => v = .pointer (some ⟨p, 0, none⟩)
            | 1 => v = .pointer (some ⟨Bx, 1, none⟩)
            | 2 => v = .int .i64 av
            | 3 => v = .pointer (some ⟨Bx, 5, none⟩)
            | 4 => v = .slice A2 n2 cb2
            | 5 => v = .int .i64 ((dWrite D (whole av).1 (whole av).2 b2).2 : Int) ∧ Dk wz p g mb N (dWrite D (whole av).1 (whole av).2 b2).1
            | 6 => v = .pointer (some ⟨q, 0, none⟩)
            | 7 => v = .pointer (some ⟨Bx, 1, none⟩)
            | 8 => v = .int .i64 av
            | 9 => v = .pointer (some ⟨Bx, 5, none⟩)
            | 10 => v = .slice A2 n2 cb2
            | 11 => v = .int .i64 ((dWrite D (whole av).1 (whole av).2 b2).2 : Int) ∧ Rk wz q r c' (dWrite D (whole av).1 (whole av).2 b2).1
            | 12 => v = .bool false
            | _ => True) (by kernel_rfl) (by kernel_rfl) ?_ ?_ ?_
          · (repeat' (first | exact allLt_zero | refine allLt_succ ?_ ?_))
            · exact fun _ _ _ h _ => h
            · exact fun _ _ _ h _ => h
            · exact fun _ _ _ h _ => h
            · exact fun _ _ _ h _ => h
            · exact fun _ _ _ h _ => h
            · intro v w1 w2 h hg
              replace hg : Fr (fun k => (fun k => k = q ∨ k = r) k ∨ False) w1 w2 := hg
              replace hg := hg.un1
              exact ⟨h.1, dkfr hne h.2 hg⟩
            · exact fun _ _ _ h _ => h
            · exact fun _ _ _ h _ => h
            · exact fun _ _ _ h _ => h
            · exact fun _ _ _ h _ => h
            · exact fun _ _ _ h _ => h
            · intro v w1 w2 h hg
              replace hg : Fr (fun k => False) w1 w2 := hg
              exact ⟨h.1, h.2.fr hg (fun e => e) (fun e => e)⟩
            · exact fun _ _ _ h _ => h
          · (repeat' (first | exact allLt_zero | refine allLt_succ ?_ ?_))
            · intro a w' hf he
              have k5 : a.tmps.getD 5 undef = .pointer (some ⟨p, 0, none⟩) := hf.var (by kernel_rfl) rfl
              refine wpOp_step rfl (fun K hK => ?_)
              go_simp
              exact hK _ _ ⟨_, rfl, rfl, Fr.refl _ _⟩
            · intro a w' hf he
              have k10 : a.tmps.getD 10 undef = .pointer (some ⟨Bx, 0, none⟩) := hf.var (by kernel_rfl) rfl
              have hfr : Fr (fun k => False) _ w' := hf.of_start
              refine wpOp_step rfl (fun K hK => ?_)
              go_simp
              exact hK _ _ ⟨_, rfl, rfl, Fr.refl _ _⟩
            · intro a w' hf he
              have f1 : a.tmps.getD 124 undef = .pointer (some ⟨Bx, 1, none⟩) := he 1 (by kernel_rfl)
              have hfr : Fr (fun k => False) _ w' := hf.of_start
              have hx := heap_fr X8.out hfr (by first | exact fun e => e | (intro e; simp only [or_false] at e; omega) | omega)
              have dd := (act6 hx).2.1
              clear hx
              refine wpOp_step rfl (fun K hK => ?_)
              go_simp
              exact hK _ _ ⟨_, rfl, rfl, Fr.refl _ _⟩
            · intro a w' hf he
              have k10 : a.tmps.getD 10 undef = .pointer (some ⟨Bx, 0, none⟩) := hf.var (by kernel_rfl) rfl
              have hfr : Fr (fun k => False) _ w' := hf.of_start
              refine wpOp_step rfl (fun K hK => ?_)
              go_simp
              exact hK _ _ ⟨_, rfl, rfl, Fr.refl _ _⟩
            · intro a w' hf he
              have f3 : a.tmps.getD 126 undef = .pointer (some ⟨Bx, 5, none⟩) := he 3 (by kernel_rfl)
              have hfr : Fr (fun k => False) _ w' := hf.of_start
              have hx := heap_fr X8.out hfr (by first | exact fun e => e | (intro e; simp only [or_false] at e; omega) | omega)
              have dd := (act6 hx).2.2.2.2.2
              clear hx
              refine wpOp_step rfl (fun K hK => ?_)
              go_simp
              exact hK _ _ ⟨_, rfl, rfl, Fr.refl _ _⟩
            · intro a w' hf he
              have f0 : a.tmps.getD 123 undef = .pointer (some ⟨p, 0, none⟩) := he 0 (by kernel_rfl)
              have f2 : a.tmps.getD 125 undef = .int .i64 av := he 2 (by kernel_rfl)
              have f4 : a.tmps.getD 127 undef = .slice A2 n2 cb2 := he 4 (by kernel_rfl)
              have hfr : Fr (fun k => False) _ w' := hf.of_start
              have hd := HP.out.dk.fr hfr (fun e => e) (fun e => e) (fun e => e)
              have hby := Hb2.out.bel (HB.out.trans (hfr.bel (B := w.heap.size) (fun k e => by have := HG.out; have := HG2.out; first | exact e.elim | (simp only [or_false] at e; omega) | omega) HB.out.size))
              refine wpOp_step rfl (fun K hK => ?_)
              go_simp
              refine (c_SetExtentE hd ho.out av ha A2 n2 cb2 b2 hby HA2.out.1).mono ?_
              rintro e w2 ⟨rfl, hk2, f2⟩
              exact hK _ _ ⟨_, rfl, ⟨rfl, hk2⟩, f2.mono (fun k _ e => .inl (e.elim .inl (fun e => .inr (.inr e))))⟩
            · intro a w' hf he
              have k7 : a.tmps.getD 7 undef = .pointer (some ⟨q, 0, none⟩) := hf.var (by kernel_rfl) rfl
              refine wpOp_step rfl (fun K hK => ?_)
              go_simp
              exact hK _ _ ⟨_, rfl, rfl, Fr.refl _ _⟩
            · intro a w' hf he
              have k10 : a.tmps.getD 10 undef = .pointer (some ⟨Bx, 0, none⟩) := hf.var (by kernel_rfl) rfl
              have hfr : Fr (fun k => (fun k => k = p ∨ k = g ∨ k = mb) k ∨ False) _ w' := hf.of_start
              replace hfr := hfr.un1
              refine wpOp_step rfl (fun K hK => ?_)
              go_simp
              exact hK _ _ ⟨_, rfl, rfl, Fr.refl _ _⟩
            · intro a w' hf he
              have f7 : a.tmps.getD 130 undef = .pointer (some ⟨Bx, 1, none⟩) := he 7 (by kernel_rfl)
              have hfr : Fr (fun k => (fun k => k = p ∨ k = g ∨ k = mb) k ∨ False) _ w' := hf.of_start
              replace hfr := hfr.un1
              have hx := heap_fr X8.out hfr (by first | exact fun e => e | (intro e; simp only [or_false] at e; omega) | omega)
              have dd := (act6 hx).2.1
              clear hx
              refine wpOp_step rfl (fun K hK => ?_)
              go_simp
              exact hK _ _ ⟨_, rfl, rfl, Fr.refl _ _⟩
            · intro a w' hf he
              have k10 : a.tmps.getD 10 undef = .pointer (some ⟨Bx, 0, none⟩) := hf.var (by kernel_rfl) rfl
              have hfr : Fr (fun k => (fun k => k = p ∨ k = g ∨ k = mb) k ∨ False) _ w' := hf.of_start
              replace hfr := hfr.un1
              refine wpOp_step rfl (fun K hK => ?_)
              go_simp
              exact hK _ _ ⟨_, rfl, rfl, Fr.refl _ _⟩
            · intro a w' hf he
              have f9 : a.tmps.getD 132 undef = .pointer (some ⟨Bx, 5, none⟩) := he 9 (by kernel_rfl)
              have hfr : Fr (fun k => (fun k => k = p ∨ k = g ∨ k = mb) k ∨ False) _ w' := hf.of_start
              replace hfr := hfr.un1
              have hx := heap_fr X8.out hfr (by first | exact fun e => e | (intro e; simp only [or_false] at e; omega) | omega)
              have dd := (act6 hx).2.2.2.2.2
              clear hx
              refine wpOp_step rfl (fun K hK => ?_)
              go_simp
              exact hK _ _ ⟨_, rfl, rfl, Fr.refl _ _⟩
            · intro a w' hf he
              have f6 : a.tmps.getD 129 undef = .pointer (some ⟨q, 0, none⟩) := he 6 (by kernel_rfl)
              have f8 : a.tmps.getD 131 undef = .int .i64 av := he 8 (by kernel_rfl)
              have f10 : a.tmps.getD 133 undef = .slice A2 n2 cb2 := he 10 (by kernel_rfl)
              have hfr : Fr (fun k => (fun k => k = p ∨ k = g ∨ k = mb) k ∨ False) _ w' := hf.of_start
              replace hfr := hfr.un1
              have hd := rkfr hne HP.out.rk hfr
              have hby := Hb2.out.bel (HB.out.trans (hfr.bel (B := w.heap.size) (fun k e => by have := HG.out; have := HG2.out; first | exact e.elim | (simp only [or_false] at e; omega) | omega) HB.out.size))
              refine wpOp_step rfl (fun K hK => ?_)
              go_simp
              refine (r_SetExtent hd ho.out av ha A2 n2 cb2 b2 hby HA2.out.2).mono ?_
              rintro e w2 ⟨rfl, hk2, f2⟩
              exact hK _ _ ⟨_, rfl, ⟨rfl, hk2⟩, f2.mono (fun k _ e => .inl e)⟩
            · intro a w' hf he
              obtain ⟨hv5, hk5⟩ := he 5 (by kernel_rfl)
              have f5 : a.tmps.getD 128 undef = _ := hv5
              obtain ⟨hv11, hk11⟩ := he 11 (by kernel_rfl)
              have f11 : a.tmps.getD 134 undef = _ := hv11
              have hfr : Fr (fun k => (fun k => k = p ∨ k = g ∨ k = mb) k ∨ (fun k => k = q ∨ k = r) k ∨ False) _ w' := hf.of_start
              refine wpOp_step rfl (fun K hK => ?_)
              go_simp
              exact hK _ _ ⟨_, rfl, rfl, Fr.refl _ _⟩
          · intro a w' hf he
            obtain ⟨u123, f0⟩ : ∃ u, a.tmps.getD 123 undef = u := ⟨_, rfl⟩
            obtain ⟨u124, f1⟩ : ∃ u, a.tmps.getD 124 undef = u := ⟨_, rfl⟩
            obtain ⟨u125, f2⟩ : ∃ u, a.tmps.getD 125 undef = u := ⟨_, rfl⟩
            obtain ⟨u126, f3⟩ : ∃ u, a.tmps.getD 126 undef = u := ⟨_, rfl⟩
            obtain ⟨u127, f4⟩ : ∃ u, a.tmps.getD 127 undef = u := ⟨_, rfl⟩
            obtain ⟨hv5, hk5⟩ := he 5 (by decide)
            have f5 : a.tmps.getD 128 undef = _ := hv5
            obtain ⟨u129, f6⟩ : ∃ u, a.tmps.getD 129 undef = u := ⟨_, rfl⟩
            obtain ⟨u130, f7⟩ : ∃ u, a.tmps.getD 130 undef = u := ⟨_, rfl⟩
            obtain ⟨u131, f8⟩ : ∃ u, a.tmps.getD 131 undef = u := ⟨_, rfl⟩
            obtain ⟨u132, f9⟩ : ∃ u, a.tmps.getD 132 undef = u := ⟨_, rfl⟩
            obtain ⟨u133, f10⟩ : ∃ u, a.tmps.getD 133 undef = u := ⟨_, rfl⟩
            obtain ⟨hv11, hk11⟩ := he 11 (by decide)
            have f11 : a.tmps.getD 134 undef = _ := hv11
            have f12 : a.tmps.getD 135 undef = .bool false := he 12 (by decide)
            have hlit := hf.lit ((123, u123) :: (124, u124) :: (125, u125) :: (126, u126) :: (127, u127) :: (128, _) :: (129, u129) :: (130, u130) :: (131, u131) :: (132, u132) :: (133, u133) :: (134, _) :: (135, .bool false) :: []) (by kernel_rfl) ⟨f0, f1, f2, f3, f4, f5, f6, f7, f8, f9, f10, f11, f12, trivial⟩
            have hB : Fr (fun k => (fun k => k = p ∨ k = g ∨ k = mb) k ∨ (fun k => k = q ∨ k = r) k ∨ False) _ w' := hf.of_start
            clear he hf f0 f1 f2 f3 f4 f5 f6 f7 f8 f9 f10 f11 f12 hv5 hv11
            subst hlit
            simp only [putAll_nil, putAll_cons, Act.put, List.setIfInBounds_toArray, List.set_cons_zero, List.set_cons_succ]
            simp only [List.drop_succ_cons, List.drop_zero]
            go_wp2_with fail
            go_meet
            case rel => exact ⟨⟨rfl, rfl, rfl, rfl, rfl, rfl, rfl, rfl, rfl, rfl, rfl, rfl, rfl, rfl, rfl, rfl, rfl, rfl, rfl, rfl, rfl, rfl, rfl, rfl, rfl⟩, _, Lib.hid ⟨hk5, hk11, hne⟩, Lib.hid (Nat.le_trans (dWrite_ops HP.out.dk.ok _ _ _) (by have := HO.out; omega)), Lib.hid (HB.out.trans (hB.bel (B := w.heap.size) (fun k e => by have := HG.out; have := HG2.out; simp only [or_false] at e; omega) HB.out.size))⟩
        by_cases z4 : k = 4
        · subst z4
          go_wp2_with (first
            | (go_at_call 18
               (with_reducible refine (c_Flush HP.out.dk (Nat.lt_of_le_of_lt (Nat.le_add_right _ _) ho.out)).mono ?_)
               rintro e w9 ⟨rfl, hk9, f9a⟩
               have f9 := f9a.mono (S1 := fun k => k = p ∨ k = g ∨ k = mb) (fun k _ e => e)
               have HK := Lib.hid hk9
               have HR := Lib.hid (rkfr hne HP.out.rk f9)
               have HB := Lib.hid (HB.out.trans (f9.bel (B := w.heap.size) (fun k e => by have := HG.out; omega) HB.out.size))
               have hx9 := heap_fr X8.out f9 (by have := HL.out; omega)
               clear e0 e1 e2 e3 e4 e5
               obtain ⟨e0, e1, e2, e3, e4, e5⟩ := act6 hx9
               clear hk9 f9 f9a hx9)
            | (go_at_call 76
               (with_reducible refine (r_Flush HR.out (Nat.lt_of_le_of_lt (Nat.le_add_right _ _) ho.out)).mono ?_)
               rintro e w10 ⟨rfl, hk10, f10a⟩
               have f10 := f10a.mono (S1 := fun k => k = q ∨ k = r) (fun k _ e => e)
               have HR2 := Lib.hid hk10
               have HK2 := Lib.hid (dkfr hne HK.out f10)
               have HB := Lib.hid (HB.out.trans (f10.bel (B := w.heap.size) (fun k e => by have := HG2.out; omega) HB.out.size))
               clear e0 e1 e2 e3 e4 e5 hk10 f10 f10a))
          go_meet
          case rel => exact ⟨⟨rfl, rfl, rfl, rfl, rfl, rfl, rfl, rfl, rfl, rfl, rfl, rfl, rfl, rfl, rfl, rfl, rfl, rfl, rfl, rfl, rfl, rfl, rfl, rfl, rfl⟩, _, Lib.hid ⟨HK2.out, HR2.out, hne⟩, Lib.hid (Nat.le_trans (flush_facts D).1 (by have := HO.out; omega)), HB⟩
        by_cases z5 : k = 5
        · subst z5
          go_wp2_with (first
            | (go_at_call 16
               (with_reducible refine (c_Crash HP.out.dk m2 hm2).mono ?_)
               rintro e w9 ⟨rfl, hk9, f9a⟩
               have f9 := f9a.mono (S1 := fun k => k = p ∨ k = g ∨ k = mb) (fun k _ e => e)
               have HK := Lib.hid hk9
               have HR := Lib.hid (rkfr hne HP.out.rk f9)
               have HB := Lib.hid (HB.out.trans (f9.bel (B := w.heap.size) (fun k e => by have := HG.out; omega) HB.out.size))
               have hx9 := heap_fr X8.out f9 (by have := HL.out; omega)
               clear e0 e1 e2 e3 e4 e5
               obtain ⟨e0, e1, e2, e3, e4, e5⟩ := act6 hx9
               clear hk9 f9 f9a hx9)
            | (go_at_call 77
               (with_reducible refine (r_Crash HR.out m2 hm2).mono ?_)
               rintro e w10 ⟨rfl, hk10, f10a⟩
               have f10 := f10a.mono (S1 := fun k => k = q ∨ k = r) (fun k _ e => e)
               have HR2 := Lib.hid hk10
               have HK2 := Lib.hid (dkfr hne HK.out f10)
               have HB := Lib.hid (HB.out.trans (f10.bel (B := w.heap.size) (fun k e => by have := HG2.out; omega) HB.out.size))
               clear e0 e1 e2 e3 e4 e5 hk10 f10 f10a))
          go_meet
          case rel => exact ⟨⟨rfl, rfl, rfl, rfl, rfl, rfl, rfl, rfl, rfl, rfl, rfl, rfl, rfl, rfl, rfl, rfl, rfl, rfl, rfl, rfl, rfl, rfl, rfl, rfl, rfl⟩, _, Lib.hid ⟨HK2.out, HR2.out, hne⟩, Lib.hid (HO1.out), HB⟩
        by_cases z6 : k = 6
        · subst z6
          go_wp2_with (first
            | (go_at_call 15
               (with_reducible refine (c_FuseD HP.out.dk av ha).mono ?_)
               rintro e w9 ⟨rfl, hk9, f9a⟩
               have f9 := f9a.mono (S1 := fun k => k = p ∨ k = g ∨ k = mb) (fun k _ e => .inl e)
               have HK := Lib.hid hk9
               have HR := Lib.hid (rkfr hne HP.out.rk f9)
               have HB := Lib.hid (HB.out.trans (f9.bel (B := w.heap.size) (fun k e => by have := HG.out; omega) HB.out.size))
               have hx9 := heap_fr X8.out f9 (by have := HL.out; omega)
               clear e0 e1 e2 e3 e4 e5
               obtain ⟨e0, e1, e2, e3, e4, e5⟩ := act6 hx9
               clear hk9 f9 f9a hx9)
            | (go_at_call 78
               (with_reducible refine (r_SetFuse HR.out av ha).mono ?_)
               rintro e w10 ⟨rfl, hk10, f10a⟩
               have f10 := f10a.mono (S1 := fun k => k = q ∨ k = r) (fun k _ e => .inl e)
               have HR2 := Lib.hid hk10
               have HK2 := Lib.hid (dkfr hne HK.out f10)
               have HB := Lib.hid (HB.out.trans (f10.bel (B := w.heap.size) (fun k e => by have := HG2.out; omega) HB.out.size))
               clear e0 e1 e2 e3 e4 e5 hk10 f10 f10a))
          go_meet
          case rel => exact ⟨⟨rfl, rfl, rfl, rfl, rfl, rfl, rfl, rfl, rfl, rfl, rfl, rfl, rfl, rfl, rfl, rfl, rfl, rfl, rfl, rfl, rfl, rfl, rfl, rfl, rfl⟩, _, Lib.hid ⟨HK2.out, HR2.out, hne⟩, Lib.hid (HO1.out), HB⟩
        have y0 : (k == 0) = false := by simpa using z0
        have y1 : (k == 1) = false := by simpa using z1
        have y2 : (k == 2) = false := by simpa using z2
        have y3 : (k == 3) = false := by simpa using z3
        have y4 : (k == 4) = false := by simpa using z4
        have y5 : (k == 5) = false := by simpa using z5
        have y6 : (k == 6) = false := by simpa using z6
        go_wp2_with fail
        go_meet
        case rel => exact ⟨⟨rfl, rfl, rfl, rfl, rfl, rfl, rfl, rfl, rfl, rfl, rfl, rfl, rfl, rfl, rfl, rfl, rfl, rfl, rfl, rfl, rfl, rfl, rfl, rfl, rfl⟩, D, HP, HO1, HB⟩
      case rest =>
        obtain ⟨⟨rfl, rfl, rfl, rfl, rfl, rfl, rfl, rfl, rfl, rfl, rfl, rfl, rfl, rfl, rfl, rfl, rfl, rfl, rfl, rfl, rfl, rfl, rfl, rfl, rfl⟩, D', HP', HO', HB'⟩ := hcut
        have hiL : Hid (D'.ops ≤ 1024 * (i + 1)) := HO'
        go_wp2_with fail
        refine wp_region_phi (by kernel_rfl) 23 none (fun _ => false) (fun i_ v wz => match i_ with
          | 0 => v = .pointer (some ⟨p, 0, none⟩)
          | 1 => v = .int .i64 (secs D')
          | 2 => v = .pointer (some ⟨q, 0, none⟩)
          | 3 => v = .int .i64 (secs D')
          | 4 => v = .bool false
          | 5 => v = .bool false
          | 6 => v = .pointer (some ⟨p, 0, none⟩)
          | 7 => ∃ A3 c3, v = .slice A3 (img D').length c3 ∧ Byt wz A3 (img D').length c3 (img D')
          | 8 => v = .string ⟨(img D').toArray⟩
          | 9 => v = .pointer (some ⟨q, 0, none⟩)
          | 10 => ∃ A3 c3, v = .slice A3 (img D').length c3 ∧ Byt wz A3 (img D').length c3 (img D')
          | 11 => v = .string ⟨(img D').toArray⟩
          | 12 => v = .bool false
          | 13 => v = .bool false
          | 14 => v = .bool false
          | 15 => v = .pointer (some ⟨p, 0, none⟩)
          | 16 => v = .int .i64 (D'.ops : Int)
          | 17 => v = .pointer (some ⟨q, 0, none⟩)
          | 18 => v = .pointer (some ⟨q, 0, none⟩)
          | 19 => v = .pointer (some ⟨q, 3, none⟩)
          | 20 => v = .int .i64 (D'.ops : Int)
          | 21 => v = .bool false
          | 22 => v = .bool false
          | _ => True) (by kernel_rfl) ?_ ?_ ?_
        · (repeat' (first | exact allLt_zero | refine allLt_succ ?_ ?_))
          · exact fun _ _ _ h _ => h
          · exact fun _ _ _ h _ => h
          · exact fun _ _ _ h _ => h
          · exact fun _ _ _ h _ => h
          · exact fun _ _ _ h _ => h
          · exact fun _ _ _ h _ => h
          · exact fun _ _ _ h _ => h
          · intro v w1 w2 h hg
            rw [show kindRow _ _ = none from by kernel_rfl] at hg
            obtain ⟨A3, c3, rfl, hr⟩ := h
            exact ⟨A3, c3, rfl, hr.bel (bel_grown hg)⟩
          · exact fun _ _ _ h _ => h
          · exact fun _ _ _ h _ => h
          · intro v w1 w2 h hg
            rw [show kindRow _ _ = none from by kernel_rfl] at hg
            obtain ⟨A3, c3, rfl, hr⟩ := h
            exact ⟨A3, c3, rfl, hr.bel (bel_grown hg)⟩
          · exact fun _ _ _ h _ => h
          · exact fun _ _ _ h _ => h
          · exact fun _ _ _ h _ => h
          · exact fun _ _ _ h _ => h
          · exact fun _ _ _ h _ => h
          · exact fun _ _ _ h _ => h
          · exact fun _ _ _ h _ => h
          · exact fun _ _ _ h _ => h
          · exact fun _ _ _ h _ => h
          · exact fun _ _ _ h _ => h
          · exact fun _ _ _ h _ => h
          · exact fun _ _ _ h _ => h
        · (repeat' (first | exact allLt_zero | refine allLt_succ ?_ ?_))
          · intro a w' hf he
            have k5 : a.tmps.getD 5 undef = .pointer (some ⟨p, 0, none⟩) := hf.var (by kernel_rfl) rfl
            refine wpOp_step rfl (fun K hK => ?_)
            go_simp
            exact hK _ _ ⟨_, rfl, rfl, World.grownBy.refl _ _⟩
          · intro a w' hf he
            have f0 : a.tmps.getD 163 undef = .pointer (some ⟨p, 0, none⟩) := he 0 (by kernel_rfl)
            rw [show kindRow _ _ = none from by kernel_rfl] at hf
            refine wpOp_step rfl (fun K hK => ?_)
            go_simp
            refine (c_Sectors (HP'.out.dk.bel hf.bel)).mono ?_
            rintro e w2 ⟨rfl, rfl⟩
            exact hK _ _ ⟨_, rfl, rfl, World.grownBy.refl _ _⟩
          · intro a w' hf he
            have k7 : a.tmps.getD 7 undef = .pointer (some ⟨q, 0, none⟩) := hf.var (by kernel_rfl) rfl
            refine wpOp_step rfl (fun K hK => ?_)
            go_simp
            exact hK _ _ ⟨_, rfl, rfl, World.grownBy.refl _ _⟩
          · intro a w' hf he
            have f2 : a.tmps.getD 165 undef = .pointer (some ⟨q, 0, none⟩) := he 2 (by kernel_rfl)
            rw [show kindRow _ _ = none from by kernel_rfl] at hf
            refine wpOp_step rfl (fun K hK => ?_)
            go_simp
            refine (r_Sectors (HP'.out.rk.bel hf.bel)).mono ?_
            rintro e w2 ⟨rfl, rfl⟩
            exact hK _ _ ⟨_, rfl, rfl, World.grownBy.refl _ _⟩
          · intro a w' hf he
            have f1 : a.tmps.getD 164 undef = .int .i64 (secs D') := he 1 (by kernel_rfl)
            have f3 : a.tmps.getD 166 undef = .int .i64 (secs D') := he 3 (by kernel_rfl)
            refine wpOp_step rfl (fun K hK => ?_)
            go_simp
            exact hK _ _ ⟨_, rfl, rfl, World.grownBy.refl _ _⟩
          · intro a w' hf he
            have f4 : a.tmps.getD 167 undef = .bool false := he 4 (by kernel_rfl)
            refine wpOp_step rfl (fun K hK => ?_)
            go_simp
            exact hK _ _ ⟨_, rfl, rfl, World.grownBy.refl _ _⟩
          · intro a w' hf he
            have k5 : a.tmps.getD 5 undef = .pointer (some ⟨p, 0, none⟩) := hf.var (by kernel_rfl) rfl
            have f5 : a.tmps.getD 168 undef = .bool false := he 5 (by kernel_rfl)
            refine wpOp_run rfl rfl rfl f5 (fun K hK => ?_)
            go_simp
            exact hK _ _ ⟨_, rfl, rfl, World.grownBy.refl _ _⟩
          · intro a w' hf he
            have f6 : a.tmps.getD 169 undef = .pointer (some ⟨p, 0, none⟩) := he 6 (by kernel_rfl)
            have f5 : a.tmps.getD 168 undef = .bool false := he 5 (by kernel_rfl)
            rw [show kindRow _ _ = none from by kernel_rfl] at hf
            refine wpOp_run rfl rfl rfl f5 (fun K hK => ?_)
            go_simp
            refine (c_ImageE (HP'.out.dk.bel hf.bel)).mono ?_
            rintro e w2 ⟨A9, c9, rfl, ho9, hb9⟩
            exact hK _ _ ⟨_, rfl, ⟨_, _, rfl, ho9.rd⟩, grown_bel hb9⟩
          · intro a w' hf he
            obtain ⟨A7, c7, hv7, hr7⟩ := he 7 (by kernel_rfl)
            have f7 : a.tmps.getD 170 undef = _ := hv7
            have f5 : a.tmps.getD 168 undef = .bool false := he 5 (by kernel_rfl)
            rw [show kindRow _ _ = none from by kernel_rfl] at hf
            have hcv := run_str (P := Try.prog) w' 62 9 5 A7 (img D').length c7 (img D') Try.underlying62 Try.underlying5 Try.underlying9 hr7
            refine wpOp_run rfl rfl rfl f5 (fun K hK => ?_)
            go_simp
            exact hK _ _ ⟨_, rfl, rfl, World.grownBy.refl _ _⟩
          · intro a w' hf he
            have k7 : a.tmps.getD 7 undef = .pointer (some ⟨q, 0, none⟩) := hf.var (by kernel_rfl) rfl
            have f5 : a.tmps.getD 168 undef = .bool false := he 5 (by kernel_rfl)
            refine wpOp_run rfl rfl rfl f5 (fun K hK => ?_)
            go_simp
            exact hK _ _ ⟨_, rfl, rfl, World.grownBy.refl _ _⟩
          · intro a w' hf he
            have f9 : a.tmps.getD 172 undef = .pointer (some ⟨q, 0, none⟩) := he 9 (by kernel_rfl)
            have f5 : a.tmps.getD 168 undef = .bool false := he 5 (by kernel_rfl)
            rw [show kindRow _ _ = none from by kernel_rfl] at hf
            refine wpOp_run rfl rfl rfl f5 (fun K hK => ?_)
            go_simp
            refine (r_Image (HP'.out.rk.bel hf.bel)).mono ?_
            rintro e w2 ⟨A9, c9, rfl, ho9, hb9⟩
            exact hK _ _ ⟨_, rfl, ⟨_, _, rfl, ho9.rd⟩, grown_bel hb9⟩
          · intro a w' hf he
            obtain ⟨A10, c10, hv10, hr10⟩ := he 10 (by kernel_rfl)
            have f10 : a.tmps.getD 173 undef = _ := hv10
            have f5 : a.tmps.getD 168 undef = .bool false := he 5 (by kernel_rfl)
            rw [show kindRow _ _ = none from by kernel_rfl] at hf
            have hcv := run_str (P := Try.prog) w' 62 9 5 A10 (img D').length c10 (img D') Try.underlying62 Try.underlying5 Try.underlying9 hr10
            refine wpOp_run rfl rfl rfl f5 (fun K hK => ?_)
            go_simp
            exact hK _ _ ⟨_, rfl, rfl, World.grownBy.refl _ _⟩
          · intro a w' hf he
            have f8 : a.tmps.getD 171 undef = .string ⟨(img D').toArray⟩ := he 8 (by kernel_rfl)
            have f11 : a.tmps.getD 174 undef = .string ⟨(img D').toArray⟩ := he 11 (by kernel_rfl)
            have f5 : a.tmps.getD 168 undef = .bool false := he 5 (by kernel_rfl)
            refine wpOp_run rfl rfl rfl f5 (fun K hK => ?_)
            go_simp
            exact hK _ _ ⟨_, rfl, rfl, World.grownBy.refl _ _⟩
          · intro a w' hf he
            have f5 : a.tmps.getD 168 undef = .bool false := he 5 (by kernel_rfl)
            have f12 : a.tmps.getD 175 undef = .bool false := he 12 (by kernel_rfl)
            refine wpOp_step rfl (fun K hK => ?_)
            go_simp
            exact hK _ _ ⟨_, rfl, rfl, World.grownBy.refl _ _⟩
          · intro a w' hf he
            have f13 : a.tmps.getD 176 undef = .bool false := he 13 (by kernel_rfl)
            refine wpOp_step rfl (fun K hK => ?_)
            go_simp
            exact hK _ _ ⟨_, rfl, rfl, World.grownBy.refl _ _⟩
          · intro a w' hf he
            have k5 : a.tmps.getD 5 undef = .pointer (some ⟨p, 0, none⟩) := hf.var (by kernel_rfl) rfl
            have f14 : a.tmps.getD 177 undef = .bool false := he 14 (by kernel_rfl)
            refine wpOp_run rfl rfl rfl f14 (fun K hK => ?_)
            go_simp
            exact hK _ _ ⟨_, rfl, rfl, World.grownBy.refl _ _⟩
          · intro a w' hf he
            have f15 : a.tmps.getD 178 undef = .pointer (some ⟨p, 0, none⟩) := he 15 (by kernel_rfl)
            have f14 : a.tmps.getD 177 undef = .bool false := he 14 (by kernel_rfl)
            rw [show kindRow _ _ = none from by kernel_rfl] at hf
            refine wpOp_run rfl rfl rfl f14 (fun K hK => ?_)
            go_simp
            refine (c_Ops (HP'.out.dk.bel hf.bel)).mono ?_
            rintro e w2 ⟨rfl, rfl⟩
            exact hK _ _ ⟨_, rfl, rfl, World.grownBy.refl _ _⟩
          · intro a w' hf he
            have k7 : a.tmps.getD 7 undef = .pointer (some ⟨q, 0, none⟩) := hf.var (by kernel_rfl) rfl
            have f14 : a.tmps.getD 177 undef = .bool false := he 14 (by kernel_rfl)
            refine wpOp_run rfl rfl rfl f14 (fun K hK => ?_)
            go_simp
            exact hK _ _ ⟨_, rfl, rfl, World.grownBy.refl _ _⟩
          · intro a w' hf he
            have f17 : a.tmps.getD 180 undef = .pointer (some ⟨q, 0, none⟩) := he 17 (by kernel_rfl)
            have f14 : a.tmps.getD 177 undef = .bool false := he 14 (by kernel_rfl)
            refine wpOp_run rfl rfl rfl f14 (fun K hK => ?_)
            go_simp
            exact hK _ _ ⟨_, rfl, rfl, World.grownBy.refl _ _⟩
          · intro a w' hf he
            have f18 : a.tmps.getD 181 undef = .pointer (some ⟨q, 0, none⟩) := he 18 (by kernel_rfl)
            have f14 : a.tmps.getD 177 undef = .bool false := he 14 (by kernel_rfl)
            refine wpOp_run rfl rfl rfl f14 (fun K hK => ?_)
            go_simp
            exact hK _ _ ⟨_, rfl, rfl, World.grownBy.refl _ _⟩
          · intro a w' hf he
            have f19 : a.tmps.getD 182 undef = .pointer (some ⟨q, 3, none⟩) := he 19 (by kernel_rfl)
            have f14 : a.tmps.getD 177 undef = .bool false := he 14 (by kernel_rfl)
            rw [show kindRow _ _ = none from by kernel_rfl] at hf
            have dd := (HP'.out.rk.bel hf.bel).cells.2.2.2
            refine wpOp_run rfl rfl rfl f14 (fun K hK => ?_)
            go_simp
            exact hK _ _ ⟨_, rfl, rfl, World.grownBy.refl _ _⟩
          · intro a w' hf he
            have f16 : a.tmps.getD 179 undef = .int .i64 (D'.ops : Int) := he 16 (by kernel_rfl)
            have f20 : a.tmps.getD 183 undef = .int .i64 (D'.ops : Int) := he 20 (by kernel_rfl)
            have f14 : a.tmps.getD 177 undef = .bool false := he 14 (by kernel_rfl)
            refine wpOp_run rfl rfl rfl f14 (fun K hK => ?_)
            go_simp
            exact hK _ _ ⟨_, rfl, rfl, World.grownBy.refl _ _⟩
          · intro a w' hf he
            have f14 : a.tmps.getD 177 undef = .bool false := he 14 (by kernel_rfl)
            have f21 : a.tmps.getD 184 undef = .bool false := he 21 (by kernel_rfl)
            refine wpOp_step rfl (fun K hK => ?_)
            go_simp
            exact hK _ _ ⟨_, rfl, rfl, World.grownBy.refl _ _⟩
        · intro a w' hf he
          obtain ⟨u163, f0⟩ : ∃ u, a.tmps.getD 163 undef = u := ⟨_, rfl⟩
          obtain ⟨u164, f1⟩ : ∃ u, a.tmps.getD 164 undef = u := ⟨_, rfl⟩
          obtain ⟨u165, f2⟩ : ∃ u, a.tmps.getD 165 undef = u := ⟨_, rfl⟩
          obtain ⟨u166, f3⟩ : ∃ u, a.tmps.getD 166 undef = u := ⟨_, rfl⟩
          obtain ⟨u167, f4⟩ : ∃ u, a.tmps.getD 167 undef = u := ⟨_, rfl⟩
          obtain ⟨u168, f5⟩ : ∃ u, a.tmps.getD 168 undef = u := ⟨_, rfl⟩
          obtain ⟨u169, f6⟩ : ∃ u, a.tmps.getD 169 undef = u := ⟨_, rfl⟩
          obtain ⟨u170, f7⟩ : ∃ u, a.tmps.getD 170 undef = u := ⟨_, rfl⟩
          obtain ⟨u171, f8⟩ : ∃ u, a.tmps.getD 171 undef = u := ⟨_, rfl⟩
          obtain ⟨u172, f9⟩ : ∃ u, a.tmps.getD 172 undef = u := ⟨_, rfl⟩
          obtain ⟨u173, f10⟩ : ∃ u, a.tmps.getD 173 undef = u := ⟨_, rfl⟩
          obtain ⟨u174, f11⟩ : ∃ u, a.tmps.getD 174 undef = u := ⟨_, rfl⟩
          obtain ⟨u175, f12⟩ : ∃ u, a.tmps.getD 175 undef = u := ⟨_, rfl⟩
          obtain ⟨u176, f13⟩ : ∃ u, a.tmps.getD 176 undef = u := ⟨_, rfl⟩
          obtain ⟨u177, f14⟩ : ∃ u, a.tmps.getD 177 undef = u := ⟨_, rfl⟩
          obtain ⟨u178, f15⟩ : ∃ u, a.tmps.getD 178 undef = u := ⟨_, rfl⟩
          obtain ⟨u179, f16⟩ : ∃ u, a.tmps.getD 179 undef = u := ⟨_, rfl⟩
          obtain ⟨u180, f17⟩ : ∃ u, a.tmps.getD 180 undef = u := ⟨_, rfl⟩
          obtain ⟨u181, f18⟩ : ∃ u, a.tmps.getD 181 undef = u := ⟨_, rfl⟩
          obtain ⟨u182, f19⟩ : ∃ u, a.tmps.getD 182 undef = u := ⟨_, rfl⟩
          obtain ⟨u183, f20⟩ : ∃ u, a.tmps.getD 183 undef = u := ⟨_, rfl⟩
          obtain ⟨u184, f21⟩ : ∃ u, a.tmps.getD 184 undef = u := ⟨_, rfl⟩
          have f22 : a.tmps.getD 185 undef = .bool false := he 22 (by decide)
          have hlit := hf.lit ((163, u163) :: (164, u164) :: (165, u165) :: (166, u166) :: (167, u167) :: (168, u168) :: (169, u169) :: (170, u170) :: (171, u171) :: (172, u172) :: (173, u173) :: (174, u174) :: (175, u175) :: (176, u176) :: (177, u177) :: (178, u178) :: (179, u179) :: (180, u180) :: (181, u181) :: (182, u182) :: (183, u183) :: (184, u184) :: (185, .bool false) :: []) (by kernel_rfl) ⟨f0, f1, f2, f3, f4, f5, f6, f7, f8, f9, f10, f11, f12, f13, f14, f15, f16, f17, f18, f19, f20, f21, f22, trivial⟩
          have hB := hf.bel
          clear he hf f0 f1 f2 f3 f4 f5 f6 f7 f8 f9 f10 f11 f12 f13 f14 f15 f16 f17 f18 f19 f20 f21 f22 
          subst hlit
          simp only [putAll_nil, putAll_cons, Act.put, List.setIfInBounds_toArray, List.set_cons_zero, List.set_cons_succ]
          simp only [List.drop_succ_cons, List.drop_zero]
          have HP9 := Lib.hid (HP'.out.bel hB)
          have HB9 := Lib.hid (HB'.out.trans (hB.mono HB'.out.size))
          clear hB
          go_wp2_with fail
          go_roundw
          case rel => exact ⟨i + 1, D', by omega, by go_num, HP9, HO', HB9⟩
          case measure => simp [intOf] <;> omega
    · obtain rfl : i = nl := by omega
      go_wp2_with (first
        | (go_at_call 67; (with_reducible refine (c_lives _).mono ?_); rintro e w5 ⟨rfl, b5⟩))
      go_ret
      exact ⟨rfl, HB.out.trans (b5.mono HB.out.size)⟩
end Go.Proofs.Ytplemdgihlabgaa.Data
