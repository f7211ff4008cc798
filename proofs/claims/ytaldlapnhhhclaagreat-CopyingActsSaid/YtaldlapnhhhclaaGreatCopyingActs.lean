/- The law CopyingActs, walked. Conditions: none. -/
import Derived.Test.YtaldlapnhhhclaaGreatCopyRef
import Derived.Test.YtaldlapnhhhclaaGreatCopyingNone
import Derived.Test.YtaldlapnhhhclaaGreatDataKeeps
set_option linter.unusedVariables false
set_option linter.unusedSimpArgs false
namespace Go.Proofs.YtaldlapnhhhclaaGreat.Copying
open Go.RowKit Tw Disk Slots Go.Proofs.YtaldlapnhhhclaaGreat.Data
set_option maxHeartbeats 8000000
set_option maxRecDepth 100000
theorem cact5 {W : World} {g : Nat} {a0 at_ : Int} {ms : Nat} {k i x : Int} {m : Nat} {wb : Bool} {A : Option Addr} {n cb : Nat} {t : TypeId} (h : W.heap[g]? = some (.cells (cactV a0 at_ ms k i x m wb A n cb).toArray t (0, 0))) :
    W.cell? ⟨g, 0, none⟩ = some (.int .i64 a0) ∧ W.cell? ⟨g, 1, none⟩ = some (.int .i64 at_) ∧ W.cell? ⟨g, 2, none⟩ = some (.int .u64 (ms : Int)) ∧ W.cell? ⟨g, 8, none⟩ = some (.slice A n cb) :=
  ⟨cells_of h 0 _ rfl, cells_of h 1 _ rfl, cells_of h 2 _ rfl, cells_of h 8 _ rfl⟩
def cact0 : Array Value := #[.int .i64 0, .int .i64 0, .int .u64 0, .int .i64 0, .int .i64 0, .int .i64 0, .int .u64 0, .bool false, .slice none 0 0]
theorem cact_one {a0 at_ : Int} {ms : Nat} {k i x : Int} {m : Nat} {wb : Bool} {A : Option Addr} {n cb : Nat} : ∀ v ∈ (cactV a0 at_ ms k i x m wb A n cb).toArray, v.oneCell' = true := by simp [cactV, Value.oneCell']
theorem dWrite_ops4 {d : Dsk} (hd : d.Ok) (x y : Int) (b : List UInt8) : (dWrite d x y b).1.ops ≤ d.ops + 1024 := by
  have hn := hd.n
  unfold dWrite
  split
  · rename_i hg
    split
    · have := wseq_ops (o := x.toNat) (b := b) (List.range y.toNat) d
      rw [List.length_range] at this
      unfold Span.Good secs at hg
      omega
    · exact Nat.le_add_right _ _
  · exact Nat.le_add_right _ _
theorem cact_blk {w : World} {p g mb q r : Nat} {A : Option Addr} {n c : Nat} {b : List UInt8} (h : Byt w A n c b) (hp : w.heap.size ≤ p ∧ w.heap.size ≤ g ∧ w.heap.size ≤ mb) (hq : w.heap.size ≤ q ∧ w.heap.size ≤ r) : (∀ ad, A = some ad → 0 < n → ad.block ≠ p ∧ ad.block ≠ mb) ∧ (∀ ad, A = some ad → 0 < n → ad.block ≠ q ∧ ad.block ≠ r) :=
  ⟨byt_off h hp.1 hp.2.2, byt_off h hq.1 hq.2⟩
theorem w_CopyingActs (n : Int) (A : Option Addr) (nl cb : Nat) (rows : List (List Value)) (w : World) (hr : SlRows w 9 A nl cb rows) (hro : ∀ (i : Nat) (r : List Value), rows[i]? = some r → RowOk w CActL r) :
    Calls Tryz.prog 7 #[.int .i64 n, .slice A nl cb] w fun e w' => e = .returned (.bool true) ∧ Below w.heap.size w w' := by
  have HBq := Lib.hid (Below.refl w.heap.size w)
  have Hr := Lib.hid hr
  have Hro := Lib.hid hro
  clear hr hro
  go_enter Tryz.func7, Tryz.ntmps7
  by_cases h1 : n < 1
  · skip
    go_wp2_with (first
      | (go_at_call 39; (with_reducible refine (c_lives _).mono ?_); rintro e w5 ⟨rfl, b5⟩))
    go_ret
    exact ⟨rfl, HBq.out.trans (b5.mono HBq.out.size)⟩
  by_cases h2 : 30 < n
  · skip
    go_wp2_with (first
      | (go_at_call 39; (with_reducible refine (c_lives _).mono ?_); rintro e w5 ⟨rfl, b5⟩))
    go_ret
    exact ⟨rfl, HBq.out.trans (b5.mono HBq.out.size)⟩
  by_cases h3 : 40 < nl
  · skip
    go_wp2_with (first
      | (go_at_call 39; (with_reducible refine (c_lives _).mono ?_); rintro e w5 ⟨rfl, b5⟩))
    go_ret
    exact ⟨rfl, HBq.out.trans (b5.mono HBq.out.size)⟩
  obtain ⟨N, rfl⟩ : ∃ q : Nat, n = (q : Int) := ⟨n.toNat, by omega⟩
  have hN1 : 1 ≤ N := by omega
  have hN2 : N ≤ 30 := by omega
  have hnl : nl ≤ 40 := by omega
  clear h1 h2 h3
  go_wp2_with (first
    | (go_at_call 17
       (with_reducible refine (c_dNewI' (N : Int) N rfl _ hN1 (by omega)).mono ?_)
       rintro e w1 ⟨p, g, mb, rfl, hk, hge, hb1⟩
       have HB := Lib.hid (HBq.out.trans (hb1.mono HBq.out.size))
       have HK := Lib.hid hk
       have HG : Hid (w.heap.size ≤ p ∧ w.heap.size ≤ g ∧ w.heap.size ≤ mb) := Lib.hid (by have := HBq.out.size; omega)
       clear hb1 hk hge)
    | (go_at_call 18
       (with_reducible refine (r_New N _ hN1 (by omega)).mono ?_)
       rintro e w2 ⟨q, r, c', rfl, hk2, hge2, hb2⟩
       have hlk := HK.out.lts
       have HP : Hid (Pr w2 p g mb N q r c' (Dsk.new N)) := Lib.hid ⟨HK.out.bel hb2, hk2, by omega⟩
       have HG2 : Hid (w.heap.size ≤ q ∧ w.heap.size ≤ r) := Lib.hid (by have := HB.out.size; omega)
       have HB := Lib.hid (HB.out.trans (hb2.mono HB.out.size))
       clear hk2 hge2 hb2 hlk HK))
  have hops0 : Hid ((Dsk.new N).ops ≤ 1030 * 0) := Lib.hid (Nat.le_refl _)
  generalize Dsk.new N = D0 at *
  go_loopw [47] (fun v wr => ∃ (i : Nat) (D : Dsk), i ≤ nl ∧ v = .int .i64 (i : Int) ∧ Hid (Pr wr p g mb N q r c' D) ∧ Hid (D.ops ≤ 1030 * i) ∧ Hid (Below w.heap.size w wr)) (fun v _ => nl - (intOf v).toNat)
  case atStart => exact ⟨0, D0, Nat.zero_le _, rfl, HP, hops0, HB⟩
  case round =>
    clear HP HB hops0
    obtain ⟨i, D, hi, rfl, HP, HO, HB⟩ := hrel
    by_cases hin : i < nl
    · obtain ⟨ad, rw_, rfl, hri, hrl, hcell⟩ := Hr.out.at hin
      obtain ⟨k, av, m2, k2, i2, x2, m3, wb, A2, n2, cb2, b2, rfl, ha, hx2, hm2, hm3, hb2⟩ := cact_of (Hro.out i rw_ hri)
      have Hb2 := Lib.hid hb2
      have HA2 := Lib.hid (cact_blk hb2 HG.out HG2.out)
      have ho : Hid (D.ops + 1030 < 1000000000) := Lib.hid (by have := HO.out; omega)
      have hhb : ∀ j v, (cactV k av m2 k2 i2 x2 m3 wb A2 n2 cb2)[j]? = some v → wr.cell? ((ad.add (i * 9)).add j) = some v := fun j v hv => by
        have hc := hcell j v hv
        rw [HB.out.cell (block_lt_of_cell hc)]
        exact hc
      have Hcs := Lib.hid hhb
      have Hdl : Hid ((cactV k av m2 k2 i2 x2 m3 wb A2 n2 cb2).toArray.size = 9) := Lib.hid (by simpa using hrl)
      have HY := Lib.hid (heap_alloc_new wr (.cells cact0 86))
      have HYB := Lib.hid ((Below.refl wr.heap.size wr).alloc (Nat.le_refl _) (.cells cact0 86))
      have hlp := HP.out.dk.lts
      have hlr := HP.out.rk.lts
      have hne := HP.out.ne
      have HL := Lib.hid (And.intro hlp hlr)
      unfold cact0 at HY HYB
      clear hri hrl hcell hhb hb2
      by_cases hb4 : 200 < n2
      · go_wp2_with (first
        | (refine wpL_load_rd rfl 86 (.tmp 49) rfl (ad.add (i * 9)) rfl (cactV k av m2 k2 i2 x2 m3 wb A2 n2 cb2) _ Hcs.out Tryz.underlying86 rfl (by rw [← List.size_toArray, Hdl.out]; kernel_rfl) ?_)
        | (refine wpL_store_all rfl rfl 86 (.tmp 10) (.tmp 50) rfl _ rfl _ rfl _ _ HY.out (by rw [Hdl.out]; kernel_rfl) (by rw [Hdl.out]; rfl) cact_one ?_
           intro w8 x8 g8
           have hb8 := HYB.out.grown g8 HYB.out.size (by rintro k ⟨⟩; exact Nat.le_refl _)
           have HP := Lib.hid (HP.out.bel hb8)
           have HB := Lib.hid (HB.out.trans (hb8.mono HB.out.size))
           obtain ⟨e0, e1, e2, e8⟩ := cact5 x8
           have X8 := Lib.hid x8
           clear x8 g8 HY HYB hb8 Hcs)
        | (go_at_call 39; (with_reducible refine (c_lives _).mono ?_); rintro e w5 ⟨rfl, b5⟩))
        go_ret
        exact ⟨rfl, HB.out.trans (b5.mono HB.out.size)⟩
      go_upto_block 2 with (first
        | (refine wpL_load_rd rfl 86 (.tmp 49) rfl (ad.add (i * 9)) rfl (cactV k av m2 k2 i2 x2 m3 wb A2 n2 cb2) _ Hcs.out Tryz.underlying86 rfl (by rw [← List.size_toArray, Hdl.out]; kernel_rfl) ?_)
        | (refine wpL_store_all rfl rfl 86 (.tmp 10) (.tmp 50) rfl _ rfl _ rfl _ _ HY.out (by rw [Hdl.out]; kernel_rfl) (by rw [Hdl.out]; rfl) cact_one ?_
           intro w8 x8 g8
           have hb8 := HYB.out.grown g8 HYB.out.size (by rintro k ⟨⟩; exact Nat.le_refl _)
           have HP := Lib.hid (HP.out.bel hb8)
           have HB := Lib.hid (HB.out.trans (hb8.mono HB.out.size))
           obtain ⟨e0, e1, e2, e8⟩ := cact5 x8
           have X8 := Lib.hid x8
           clear x8 g8 HY HYB hb8 Hcs)
        )
      have hsz8 := HB.out.size
      have hxl := heap_lt X8.out
      have hpl := HL.out
      generalize wr.heap.size = Bx at *
      by_cases z0 : k = 0
      · subst z0
        have hcd := fun w1 (h : Dk w1 p g mb N D) (_ : Below w.heap.size w w1) => c_GiveT h av ha
        have hcr := fun w1 (h : Rk w1 q r c' D) (_ : Below w.heap.size w w1) => r_GiveT h av ha
        generalize gE D av = E at *
        generalize gB D av = t at *
        generalize gK E = K1 at *
        generalize gO E av = O1 at *
        go_upto_region 35 with (first
        | (go_at_call 40
           (with_reducible refine (hcd _ HP.out.dk HB.out).mono ?_)
           rintro e w9 ⟨⟨A3, c3, rfl, ho3, hA3⟩, hk9, f9⟩
           have HA3 : Hid (∀ ad, A3 = some ad → ¬ (ad.block = q ∨ ad.block = r)) := Lib.hid (fun ad e => by have := hA3 ad e; have := HP.out.rk.lts; omega)
           have hx9 := heap_fr X8.out f9 (by have := HL.out; omega)
           have HK := Lib.hid hk9
           have HR := Lib.hid (rkfr hne HP.out.rk f9)
           have HB := Lib.hid (pr_bel HB.out HG.out HG2.out f9 (by omega))
           have X8 := Lib.hid hx9
           have O3 := Lib.hid ho3
           have HZ := Lib.hid (heap_alloc_new w9 (.cells m0 25))
           have HZB := Lib.hid ((Below.refl w9.heap.size w9).alloc (Nat.le_refl _) (.cells m0 25))
           have hpl9 := And.intro HK.out.lts HR.out.lts
           unfold m0 at HZ HZB
           clear e0 e1 e2 e8 ho3 hA3 hx9 hk9 f9 hcd)
        | (refine wpL_store_all rfl rfl 25 (.tmp 11) (.tmp 66) rfl _ rfl _ rfl _ _ HZ.out (by kernel_rfl) rfl ms_one ?_
           intro w10 x10 g10
           have hb10 := HZB.out.grown g10 HZB.out.size (by rintro k ⟨⟩; exact Nat.le_refl _)
           have HK := Lib.hid (HK.out.bel hb10)
           have HR := Lib.hid (HR.out.bel hb10)
           have HB := Lib.hid (HB.out.trans (hb10.mono HB.out.size))
           have O3 := Lib.hid (O3.out.bel hb10)
           have X8 := Lib.hid ((hb10.block _ (heap_lt X8.out)).trans X8.out)
           obtain ⟨e0, e1, e2, e8⟩ := cact5 X8.out
           have Y3 := Lib.hid x10
           have hbx := heap_lt X8.out
           clear x10 g10 HZ HZB hb10)
        | (go_at_call 41
           (with_reducible refine (hcr _ HR.out HB.out).mono ?_)
           rintro e w11 ⟨⟨A4, c4, rfl, ho4, _⟩, hk11, f11⟩
           have HR := Lib.hid hk11
           have HK := Lib.hid (dkfr hne HK.out f11)
           have HB := Lib.hid (pr_bel HB.out HG.out HG2.out f11 (by omega))
           have O3 := Lib.hid (O3.out.fr f11 HA3.out)
           have Y3 := Lib.hid (heap_fr Y3.out f11 (by have := hpl9; omega))
           have O4 := Lib.hid ho4
           have HZ := Lib.hid (heap_alloc_new w11 (.cells m0 25))
           have HZB := Lib.hid ((Below.refl w11.heap.size w11).alloc (Nat.le_refl _) (.cells m0 25))
           unfold m0 at HZ HZB
           clear e0 e1 e2 e8 ho4 hk11 f11 hcr)
        | (refine wpL_store_all rfl rfl 25 (.tmp 13) (.tmp 73) rfl _ rfl _ rfl _ _ HZ.out (by kernel_rfl) rfl ms_one ?_
           intro w12 x12 g12
           have hb12 := HZB.out.grown g12 HZB.out.size (by rintro k ⟨⟩; exact Nat.le_refl _)
           have HP := Lib.hid (Pr.mk (HK.out.bel hb12) (HR.out.bel hb12) hne)
           have HB := Lib.hid (HB.out.trans (hb12.mono HB.out.size))
           have O3 := Lib.hid (O3.out.bel hb12)
           have O4 := Lib.hid (O4.out.bel hb12)
           have S3 := Lib.hid ((rd_of_heap (n := 6) ((hb12.block _ (heap_lt Y3.out)).trans Y3.out) rfl (by simp [maxLen])).cell _ rfl)
           have S4 := Lib.hid ((rd_of_heap (n := 6) x12 rfl (by simp [maxLen])).cell _ rfl)
           clear x12 g12 HZ HZB hb12 HK HR)
        | (refine wpL_load_rd rfl 25 (.tmp 11) rfl _ rfl (msV K1 0 O1 0 false A3 t.length c3) _ S3.out Tryz.underlying25 rfl (by kernel_rfl) ?_)
        | (refine wpL_load_rd rfl 25 (.tmp 13) rfl _ rfl (msV K1 0 O1 0 false A4 t.length c4) _ S4.out Tryz.underlying25 rfl (by kernel_rfl) ?_)
        | (go_at_call 42
           (with_reducible refine (r_SameEq K1 0 O1 0 false A3 A4 t.length c3 t.length c4 t _ rfl rfl O3.out O4.out).mono ?_)
           rintro e w13 ⟨rfl, hb13⟩
           have HP' := Lib.hid (HP.out.bel hb13)
           have HB' := Lib.hid (HB.out.trans (hb13.mono HB.out.size))
           clear hb13 O3 O4 S3 S4)
        )
        have HOn : Hid (D.ops ≤ 1030 * (i + 1)) := Lib.hid (by have := HO.out; omega)
        obtain ⟨D', hD'⟩ : ∃ D', D' = D := ⟨_, rfl⟩
        rw [← hD'] at HP'
        have HO' : Hid (D'.ops ≤ 1030 * (i + 1)) := Lib.hid (by rw [hD']; exact HOn.out)
        clear hD' HOn HP
        have hGd := fun w (h : Dk w p g mb N D') => Dirty.c_GetE h
        have hGr := fun w (h : Rk w q r c' D') => r_dGet h
        obtain ⟨⟨l1, l2⟩, hl⟩ : ∃ r, latest D' 6 2 = r := ⟨_, rfl⟩
        rw [hl] at hGd hGr
        simp only at hGd hGr
        clear hl
        refine wp_region_phi (by kernel_rfl) 23 none (fun _ => false) (fun i_ v wz => match i_ with
          | 0 => v = .pointer (some ⟨p, 0, none⟩)
          | 1 => v = .int .u64 (l2 : Int)
          | 2 => v = .pointer (some ⟨q, 0, none⟩)
          | 3 => v = .int .u64 (l2 : Int)
          | 4 => v = .bool false
          | 5 => v = .bool false
          | 6 => v = .pointer (some ⟨p, 0, none⟩)
          | 7 => ∃ A3 c3, v = .slice A3 (img D').length c3 ∧ Byt wz A3 (img D').length c3 (img D')
          | 8 => v = .string ⟨(img D').toArray⟩
          | 9 => v = .pointer (some ⟨q, 0, none⟩)
          | 10 => ∃ A3 c3, v = .slice A3 (img D').length c3 ∧ Byt wz A3 (img D').length c3 (img D')
          | 11 => v = .string ⟨(img D').toArray⟩
          | 12 => v = .bool false
          | 13 => v = .bool false
          | 14 => v = .bool false
          | 15 => v = .pointer (some ⟨p, 0, none⟩)
          | 16 => v = .int .i64 (D'.ops : Int)
          | 17 => v = .pointer (some ⟨q, 0, none⟩)
          | 18 => v = .pointer (some ⟨q, 0, none⟩)
          | 19 => v = .pointer (some ⟨q, 3, none⟩)
          | 20 => v = .int .i64 (D'.ops : Int)
          | 21 => v = .bool false
          | 22 => v = .bool false
          | _ => True) (by kernel_rfl) ?_ ?_ ?_
        · (repeat' (first | exact allLt_zero | refine allLt_succ ?_ ?_))
          · exact fun _ _ _ h _ => h
          · exact fun _ _ _ h _ => h
          · exact fun _ _ _ h _ => h
          · exact fun _ _ _ h _ => h
          · exact fun _ _ _ h _ => h
          · exact fun _ _ _ h _ => h
          · exact fun _ _ _ h _ => h
          · intro v w1 w2 h hg
            rw [show kindRow _ _ = none from by kernel_rfl] at hg
            obtain ⟨A3, c3, rfl, hr⟩ := h
            exact ⟨A3, c3, rfl, hr.bel (bel_grown hg)⟩
          · exact fun _ _ _ h _ => h
          · exact fun _ _ _ h _ => h
          · intro v w1 w2 h hg
            rw [show kindRow _ _ = none from by kernel_rfl] at hg
            obtain ⟨A3, c3, rfl, hr⟩ := h
            exact ⟨A3, c3, rfl, hr.bel (bel_grown hg)⟩
          · exact fun _ _ _ h _ => h
          · exact fun _ _ _ h _ => h
          · exact fun _ _ _ h _ => h
          · exact fun _ _ _ h _ => h
          · exact fun _ _ _ h _ => h
          · exact fun _ _ _ h _ => h
          · exact fun _ _ _ h _ => h
          · exact fun _ _ _ h _ => h
          · exact fun _ _ _ h _ => h
          · exact fun _ _ _ h _ => h
          · exact fun _ _ _ h _ => h
          · exact fun _ _ _ h _ => h
        · (repeat' (first | exact allLt_zero | refine allLt_succ ?_ ?_))
          · intro a w' hf he
            have k5 : a.tmps.getD 5 undef = .pointer (some ⟨p, 0, none⟩) := hf.var (by kernel_rfl) rfl
            refine wpOp_step rfl (fun K hK => ?_)
            go_simp
            exact hK _ _ ⟨_, rfl, rfl, World.grownBy.refl _ _⟩
          · intro a w' hf he
            have f0 : a.tmps.getD 164 undef = .pointer (some ⟨p, 0, none⟩) := he 0 (by kernel_rfl)
            rw [show kindRow _ _ = none from by kernel_rfl] at hf
            refine wpOp_step rfl (fun K hK => ?_)
            go_simp
            refine (hGd _ (HP'.out.dk.bel hf.bel)).mono ?_
            rintro e w2 ⟨rfl, hb2⟩
            exact hK _ _ ⟨_, rfl, rfl, grown_bel hb2⟩
          · intro a w' hf he
            have k7 : a.tmps.getD 7 undef = .pointer (some ⟨q, 0, none⟩) := hf.var (by kernel_rfl) rfl
            refine wpOp_step rfl (fun K hK => ?_)
            go_simp
            exact hK _ _ ⟨_, rfl, rfl, World.grownBy.refl _ _⟩
          · intro a w' hf he
            have f2 : a.tmps.getD 166 undef = .pointer (some ⟨q, 0, none⟩) := he 2 (by kernel_rfl)
            rw [show kindRow _ _ = none from by kernel_rfl] at hf
            refine wpOp_step rfl (fun K hK => ?_)
            go_simp
            refine (hGr _ (HP'.out.rk.bel hf.bel)).mono ?_
            rintro e w2 ⟨rfl, hb2⟩
            exact hK _ _ ⟨_, rfl, rfl, grown_bel hb2⟩
          · intro a w' hf he
            have f1 : a.tmps.getD 165 undef = .int .u64 (l2 : Int) := he 1 (by kernel_rfl)
            have f3 : a.tmps.getD 167 undef = .int .u64 (l2 : Int) := he 3 (by kernel_rfl)
            refine wpOp_step rfl (fun K hK => ?_)
            go_simp
            exact hK _ _ ⟨_, rfl, rfl, World.grownBy.refl _ _⟩
          · intro a w' hf he
            have f4 : a.tmps.getD 168 undef = .bool false := he 4 (by kernel_rfl)
            refine wpOp_step rfl (fun K hK => ?_)
            go_simp
            exact hK _ _ ⟨_, rfl, rfl, World.grownBy.refl _ _⟩
          · intro a w' hf he
            have k5 : a.tmps.getD 5 undef = .pointer (some ⟨p, 0, none⟩) := hf.var (by kernel_rfl) rfl
            have f5 : a.tmps.getD 169 undef = .bool false := he 5 (by kernel_rfl)
            refine wpOp_run rfl rfl rfl f5 (fun K hK => ?_)
            go_simp
            exact hK _ _ ⟨_, rfl, rfl, World.grownBy.refl _ _⟩
          · intro a w' hf he
            have f6 : a.tmps.getD 170 undef = .pointer (some ⟨p, 0, none⟩) := he 6 (by kernel_rfl)
            have f5 : a.tmps.getD 169 undef = .bool false := he 5 (by kernel_rfl)
            rw [show kindRow _ _ = none from by kernel_rfl] at hf
            refine wpOp_run rfl rfl rfl f5 (fun K hK => ?_)
            go_simp
            refine (c_ImageE (HP'.out.dk.bel hf.bel)).mono ?_
            rintro e w2 ⟨A9, c9, rfl, ho9, hb9⟩
            exact hK _ _ ⟨_, rfl, ⟨_, _, rfl, ho9.rd⟩, grown_bel hb9⟩
          · intro a w' hf he
            obtain ⟨A7, c7, hv7, hr7⟩ := he 7 (by kernel_rfl)
            have f7 : a.tmps.getD 171 undef = _ := hv7
            have f5 : a.tmps.getD 169 undef = .bool false := he 5 (by kernel_rfl)
            rw [show kindRow _ _ = none from by kernel_rfl] at hf
            have hcv := run_str (P := Tryz.prog) w' 23 9 5 A7 (img D').length c7 (img D') Tryz.underlying23 Tryz.underlying5 Tryz.underlying9 hr7
            refine wpOp_run rfl rfl rfl f5 (fun K hK => ?_)
            go_simp
            exact hK _ _ ⟨_, rfl, rfl, World.grownBy.refl _ _⟩
          · intro a w' hf he
            have k7 : a.tmps.getD 7 undef = .pointer (some ⟨q, 0, none⟩) := hf.var (by kernel_rfl) rfl
            have f5 : a.tmps.getD 169 undef = .bool false := he 5 (by kernel_rfl)
            refine wpOp_run rfl rfl rfl f5 (fun K hK => ?_)
            go_simp
            exact hK _ _ ⟨_, rfl, rfl, World.grownBy.refl _ _⟩
          · intro a w' hf he
            have f9 : a.tmps.getD 173 undef = .pointer (some ⟨q, 0, none⟩) := he 9 (by kernel_rfl)
            have f5 : a.tmps.getD 169 undef = .bool false := he 5 (by kernel_rfl)
            rw [show kindRow _ _ = none from by kernel_rfl] at hf
            refine wpOp_run rfl rfl rfl f5 (fun K hK => ?_)
            go_simp
            refine (r_Image (HP'.out.rk.bel hf.bel)).mono ?_
            rintro e w2 ⟨A9, c9, rfl, ho9, hb9⟩
            exact hK _ _ ⟨_, rfl, ⟨_, _, rfl, ho9.rd⟩, grown_bel hb9⟩
          · intro a w' hf he
            obtain ⟨A10, c10, hv10, hr10⟩ := he 10 (by kernel_rfl)
            have f10 : a.tmps.getD 174 undef = _ := hv10
            have f5 : a.tmps.getD 169 undef = .bool false := he 5 (by kernel_rfl)
            rw [show kindRow _ _ = none from by kernel_rfl] at hf
            have hcv := run_str (P := Tryz.prog) w' 23 9 5 A10 (img D').length c10 (img D') Tryz.underlying23 Tryz.underlying5 Tryz.underlying9 hr10
            refine wpOp_run rfl rfl rfl f5 (fun K hK => ?_)
            go_simp
            exact hK _ _ ⟨_, rfl, rfl, World.grownBy.refl _ _⟩
          · intro a w' hf he
            have f8 : a.tmps.getD 172 undef = .string ⟨(img D').toArray⟩ := he 8 (by kernel_rfl)
            have f11 : a.tmps.getD 175 undef = .string ⟨(img D').toArray⟩ := he 11 (by kernel_rfl)
            have f5 : a.tmps.getD 169 undef = .bool false := he 5 (by kernel_rfl)
            refine wpOp_run rfl rfl rfl f5 (fun K hK => ?_)
            go_simp
            exact hK _ _ ⟨_, rfl, rfl, World.grownBy.refl _ _⟩
          · intro a w' hf he
            have f5 : a.tmps.getD 169 undef = .bool false := he 5 (by kernel_rfl)
            have f12 : a.tmps.getD 176 undef = .bool false := he 12 (by kernel_rfl)
            refine wpOp_step rfl (fun K hK => ?_)
            go_simp
            exact hK _ _ ⟨_, rfl, rfl, World.grownBy.refl _ _⟩
          · intro a w' hf he
            have f13 : a.tmps.getD 177 undef = .bool false := he 13 (by kernel_rfl)
            refine wpOp_step rfl (fun K hK => ?_)
            go_simp
            exact hK _ _ ⟨_, rfl, rfl, World.grownBy.refl _ _⟩
          · intro a w' hf he
            have k5 : a.tmps.getD 5 undef = .pointer (some ⟨p, 0, none⟩) := hf.var (by kernel_rfl) rfl
            have f14 : a.tmps.getD 178 undef = .bool false := he 14 (by kernel_rfl)
            refine wpOp_run rfl rfl rfl f14 (fun K hK => ?_)
            go_simp
            exact hK _ _ ⟨_, rfl, rfl, World.grownBy.refl _ _⟩
          · intro a w' hf he
            have f15 : a.tmps.getD 179 undef = .pointer (some ⟨p, 0, none⟩) := he 15 (by kernel_rfl)
            have f14 : a.tmps.getD 178 undef = .bool false := he 14 (by kernel_rfl)
            rw [show kindRow _ _ = none from by kernel_rfl] at hf
            refine wpOp_run rfl rfl rfl f14 (fun K hK => ?_)
            go_simp
            refine (c_Ops (HP'.out.dk.bel hf.bel)).mono ?_
            rintro e w2 ⟨rfl, rfl⟩
            exact hK _ _ ⟨_, rfl, rfl, World.grownBy.refl _ _⟩
          · intro a w' hf he
            have k7 : a.tmps.getD 7 undef = .pointer (some ⟨q, 0, none⟩) := hf.var (by kernel_rfl) rfl
            have f14 : a.tmps.getD 178 undef = .bool false := he 14 (by kernel_rfl)
            refine wpOp_run rfl rfl rfl f14 (fun K hK => ?_)
            go_simp
            exact hK _ _ ⟨_, rfl, rfl, World.grownBy.refl _ _⟩
          · intro a w' hf he
            have f17 : a.tmps.getD 181 undef = .pointer (some ⟨q, 0, none⟩) := he 17 (by kernel_rfl)
            have f14 : a.tmps.getD 178 undef = .bool false := he 14 (by kernel_rfl)
            refine wpOp_run rfl rfl rfl f14 (fun K hK => ?_)
            go_simp
            exact hK _ _ ⟨_, rfl, rfl, World.grownBy.refl _ _⟩
          · intro a w' hf he
            have f18 : a.tmps.getD 182 undef = .pointer (some ⟨q, 0, none⟩) := he 18 (by kernel_rfl)
            have f14 : a.tmps.getD 178 undef = .bool false := he 14 (by kernel_rfl)
            refine wpOp_run rfl rfl rfl f14 (fun K hK => ?_)
            go_simp
            exact hK _ _ ⟨_, rfl, rfl, World.grownBy.refl _ _⟩
          · intro a w' hf he
            have f19 : a.tmps.getD 183 undef = .pointer (some ⟨q, 3, none⟩) := he 19 (by kernel_rfl)
            have f14 : a.tmps.getD 178 undef = .bool false := he 14 (by kernel_rfl)
            rw [show kindRow _ _ = none from by kernel_rfl] at hf
            have dd := (HP'.out.rk.bel hf.bel).cells.2.2.2
            refine wpOp_run rfl rfl rfl f14 (fun K hK => ?_)
            go_simp
            exact hK _ _ ⟨_, rfl, rfl, World.grownBy.refl _ _⟩
          · intro a w' hf he
            have f16 : a.tmps.getD 180 undef = .int .i64 (D'.ops : Int) := he 16 (by kernel_rfl)
            have f20 : a.tmps.getD 184 undef = .int .i64 (D'.ops : Int) := he 20 (by kernel_rfl)
            have f14 : a.tmps.getD 178 undef = .bool false := he 14 (by kernel_rfl)
            refine wpOp_run rfl rfl rfl f14 (fun K hK => ?_)
            go_simp
            exact hK _ _ ⟨_, rfl, rfl, World.grownBy.refl _ _⟩
          · intro a w' hf he
            have f14 : a.tmps.getD 178 undef = .bool false := he 14 (by kernel_rfl)
            have f21 : a.tmps.getD 185 undef = .bool false := he 21 (by kernel_rfl)
            refine wpOp_step rfl (fun K hK => ?_)
            go_simp
            exact hK _ _ ⟨_, rfl, rfl, World.grownBy.refl _ _⟩
        · intro a w' hf he
          obtain ⟨u164, f0⟩ : ∃ u, a.tmps.getD 164 undef = u := ⟨_, rfl⟩
          obtain ⟨u165, f1⟩ : ∃ u, a.tmps.getD 165 undef = u := ⟨_, rfl⟩
          obtain ⟨u166, f2⟩ : ∃ u, a.tmps.getD 166 undef = u := ⟨_, rfl⟩
          obtain ⟨u167, f3⟩ : ∃ u, a.tmps.getD 167 undef = u := ⟨_, rfl⟩
          obtain ⟨u168, f4⟩ : ∃ u, a.tmps.getD 168 undef = u := ⟨_, rfl⟩
          obtain ⟨u169, f5⟩ : ∃ u, a.tmps.getD 169 undef = u := ⟨_, rfl⟩
          obtain ⟨u170, f6⟩ : ∃ u, a.tmps.getD 170 undef = u := ⟨_, rfl⟩
          obtain ⟨u171, f7⟩ : ∃ u, a.tmps.getD 171 undef = u := ⟨_, rfl⟩
          obtain ⟨u172, f8⟩ : ∃ u, a.tmps.getD 172 undef = u := ⟨_, rfl⟩
          obtain ⟨u173, f9⟩ : ∃ u, a.tmps.getD 173 undef = u := ⟨_, rfl⟩
          obtain ⟨u174, f10⟩ : ∃ u, a.tmps.getD 174 undef = u := ⟨_, rfl⟩
          obtain ⟨u175, f11⟩ : ∃ u, a.tmps.getD 175 undef = u := ⟨_, rfl⟩
          obtain ⟨u176, f12⟩ : ∃ u, a.tmps.getD 176 undef = u := ⟨_, rfl⟩
          obtain ⟨u177, f13⟩ : ∃ u, a.tmps.getD 177 undef = u := ⟨_, rfl⟩
          obtain ⟨u178, f14⟩ : ∃ u, a.tmps.getD 178 undef = u := ⟨_, rfl⟩
          obtain ⟨u179, f15⟩ : ∃ u, a.tmps.getD 179 undef = u := ⟨_, rfl⟩
          obtain ⟨u180, f16⟩ : ∃ u, a.tmps.getD 180 undef = u := ⟨_, rfl⟩
          obtain ⟨u181, f17⟩ : ∃ u, a.tmps.getD 181 undef = u := ⟨_, rfl⟩
          obtain ⟨u182, f18⟩ : ∃ u, a.tmps.getD 182 undef = u := ⟨_, rfl⟩
          obtain ⟨u183, f19⟩ : ∃ u, a.tmps.getD 183 undef = u := ⟨_, rfl⟩
          obtain ⟨u184, f20⟩ : ∃ u, a.tmps.getD 184 undef = u := ⟨_, rfl⟩
          obtain ⟨u185, f21⟩ : ∃ u, a.tmps.getD 185 undef = u := ⟨_, rfl⟩
          have f22 : a.tmps.getD 186 undef = .bool false := he 22 (by decide)
          have hlit := hf.lit ((164, u164) :: (165, u165) :: (166, u166) :: (167, u167) :: (168, u168) :: (169, u169) :: (170, u170) :: (171, u171) :: (172, u172) :: (173, u173) :: (174, u174) :: (175, u175) :: (176, u176) :: (177, u177) :: (178, u178) :: (179, u179) :: (180, u180) :: (181, u181) :: (182, u182) :: (183, u183) :: (184, u184) :: (185, u185) :: (186, .bool false) :: []) (by kernel_rfl) ⟨f0, f1, f2, f3, f4, f5, f6, f7, f8, f9, f10, f11, f12, f13, f14, f15, f16, f17, f18, f19, f20, f21, f22, trivial⟩
          have hB := hf.bel
          clear he hf f0 f1 f2 f3 f4 f5 f6 f7 f8 f9 f10 f11 f12 f13 f14 f15 f16 f17 f18 f19 f20 f21 f22 
          subst hlit
          simp only [putAll_nil, putAll_cons, Act.put, List.setIfInBounds_toArray, List.set_cons_zero, List.set_cons_succ]
          simp only [List.drop_succ_cons, List.drop_zero]
          have HP9 := Lib.hid (HP'.out.bel hB)
          have HB9 := Lib.hid (HB'.out.trans (hB.mono HB'.out.size))
          clear hB
          go_wp2_with fail
          go_roundw
          case rel => exact ⟨i + 1, D', by omega, by go_num, HP9, HO', HB9⟩
          case measure => simp [intOf] <;> omega
      by_cases z1 : k = 1
      · subst z1
        have hwo := dWrite_ops4 HP.out.dk.ok (whole x2).1 (whole x2).2 b2
        have hfo := Nat.le_trans (flush_facts (dWrite D (whole x2).1 (whole x2).2 b2).1).1 (Nat.succ_le_succ hwo)
        have hcd := fun w1 (h : Dk w1 p g mb N D) (hb : Below w.heap.size w w1) => c_PutT h ho.out k2 i2 x2 m3 wb A2 n2 cb2 b2 hx2 (Hb2.out.below hb (Nat.le_refl _)) HA2.out.1 hwo hfo
        have hcr := fun w1 (h : Rk w1 q r c' D) (hb : Below w.heap.size w w1) => r_PutT h ho.out k2 i2 x2 m3 wb A2 n2 cb2 b2 hx2 (Hb2.out.below hb (Nat.le_refl _)) HA2.out.2 hwo hfo
        have hco := cputM_ops (k := k2) (i := i2) (m := m3) (wb := wb) (n := n2) hwo hfo
        generalize cputM D k2 i2 x2 m3 wb n2 b2 = R at *
        obtain ⟨DP, E⟩ := R
        simp only at hcd hcr hco
        have Hco := Lib.hid hco
        obtain ⟨t, ht⟩ : ∃ t : List UInt8, [] = t := ⟨_, rfl⟩
        rw [ht] at hcd hcr
        generalize tK E = K1 at *
        generalize gO E x2 = O1 at *
        have C3 := Lib.hid (cact_cells X8.out).2.2
        clear hwo hfo hco ht
        go_upto_region 35 with (first
        | (go_at_call 43
           (with_reducible refine (hcd _ HP.out.dk HB.out).mono ?_)
           rintro e w9 ⟨⟨A3, c3, rfl, ho3, hA3⟩, hk9, f9⟩
           have HA3 : Hid (∀ ad, A3 = some ad → ¬ (ad.block = q ∨ ad.block = r)) := Lib.hid (fun ad e => by have := hA3 ad e; have := HP.out.rk.lts; omega)
           have hx9 := heap_fr X8.out f9 (by have := HL.out; omega)
           have HK := Lib.hid hk9
           have HR := Lib.hid (rkfr hne HP.out.rk f9)
           have HB := Lib.hid (pr_bel HB.out HG.out HG2.out f9 (by omega))
           have X8 := Lib.hid hx9
           have O3 := Lib.hid ho3
           have HZ := Lib.hid (heap_alloc_new w9 (.cells m0 25))
           have HZB := Lib.hid ((Below.refl w9.heap.size w9).alloc (Nat.le_refl _) (.cells m0 25))
           have hpl9 := And.intro HK.out.lts HR.out.lts
           unfold m0 at HZ HZB
           clear e0 e1 e2 e8 ho3 hA3 hx9 hk9 f9 hcd)
        | (refine wpL_store_all rfl rfl 25 (.tmp 15) (.tmp 91) rfl _ rfl _ rfl _ _ HZ.out (by kernel_rfl) rfl ms_one ?_
           intro w10 x10 g10
           have hb10 := HZB.out.grown g10 HZB.out.size (by rintro k ⟨⟩; exact Nat.le_refl _)
           have HK := Lib.hid (HK.out.bel hb10)
           have HR := Lib.hid (HR.out.bel hb10)
           have HB := Lib.hid (HB.out.trans (hb10.mono HB.out.size))
           have O3 := Lib.hid (O3.out.bel hb10)
           have X8 := Lib.hid ((hb10.block _ (heap_lt X8.out)).trans X8.out)
           obtain ⟨e0, e1, e2, e8⟩ := cact5 X8.out
           have Y3 := Lib.hid x10
           have hbx := heap_lt X8.out
           clear x10 g10 HZ HZB hb10)
        | (go_at_call 44
           (with_reducible refine (hcr _ HR.out HB.out).mono ?_)
           rintro e w11 ⟨⟨A4, c4, rfl, ho4, _⟩, hk11, f11⟩
           have HR := Lib.hid hk11
           have HK := Lib.hid (dkfr hne HK.out f11)
           have HB := Lib.hid (pr_bel HB.out HG.out HG2.out f11 (by omega))
           have O3 := Lib.hid (O3.out.fr f11 HA3.out)
           have Y3 := Lib.hid (heap_fr Y3.out f11 (by have := hpl9; omega))
           have O4 := Lib.hid ho4
           have HZ := Lib.hid (heap_alloc_new w11 (.cells m0 25))
           have HZB := Lib.hid ((Below.refl w11.heap.size w11).alloc (Nat.le_refl _) (.cells m0 25))
           unfold m0 at HZ HZB
           clear e0 e1 e2 e8 ho4 hk11 f11 hcr)
        | (refine wpL_store_all rfl rfl 25 (.tmp 17) (.tmp 98) rfl _ rfl _ rfl _ _ HZ.out (by kernel_rfl) rfl ms_one ?_
           intro w12 x12 g12
           have hb12 := HZB.out.grown g12 HZB.out.size (by rintro k ⟨⟩; exact Nat.le_refl _)
           have HP := Lib.hid (Pr.mk (HK.out.bel hb12) (HR.out.bel hb12) hne)
           have HB := Lib.hid (HB.out.trans (hb12.mono HB.out.size))
           have O3 := Lib.hid (O3.out.bel hb12)
           have O4 := Lib.hid (O4.out.bel hb12)
           have S3 := Lib.hid ((rd_of_heap (n := 6) ((hb12.block _ (heap_lt Y3.out)).trans Y3.out) rfl (by simp [maxLen])).cell _ rfl)
           have S4 := Lib.hid ((rd_of_heap (n := 6) x12 rfl (by simp [maxLen])).cell _ rfl)
           clear x12 g12 HZ HZB hb12 HK HR)
        | (refine wpL_load_rd rfl 25 (.tmp 15) rfl _ rfl (msV K1 0 O1 0 false A3 t.length c3) _ S3.out Tryz.underlying25 rfl (by kernel_rfl) ?_)
        | (refine wpL_load_rd rfl 25 (.tmp 17) rfl _ rfl (msV K1 0 O1 0 false A4 t.length c4) _ S4.out Tryz.underlying25 rfl (by kernel_rfl) ?_)
        | (go_at_call 42
           (with_reducible refine (r_SameEq K1 0 O1 0 false A3 A4 t.length c3 t.length c4 t _ rfl rfl O3.out O4.out).mono ?_)
           rintro e w13 ⟨rfl, hb13⟩
           have HP' := Lib.hid (HP.out.bel hb13)
           have HB' := Lib.hid (HB.out.trans (hb13.mono HB.out.size))
           clear hb13 O3 O4 S3 S4)
        | (refine wpL_load_rd rfl 25 (.tmp 88) rfl ⟨Bx, 3, none⟩ rfl (msV k2 i2 x2 m3 wb A2 n2 cb2) _ C3.out Tryz.underlying25 rfl (by kernel_rfl) ?_)
        | (refine wpL_load_rd rfl 25 (.tmp 95) rfl ⟨Bx, 3, none⟩ rfl (msV k2 i2 x2 m3 wb A2 n2 cb2) _ (cact_cells X8.out).2.2 Tryz.underlying25 rfl (by kernel_rfl) ?_)
        )
        have HOn : Hid (DP.ops ≤ 1030 * (i + 1)) := Lib.hid (by have := HO.out; have := Hco.out; omega)
        obtain ⟨D', hD'⟩ : ∃ D', D' = DP := ⟨_, rfl⟩
        rw [← hD'] at HP'
        have HO' : Hid (D'.ops ≤ 1030 * (i + 1)) := Lib.hid (by rw [hD']; exact HOn.out)
        clear hD' HOn HP
        have hGd := fun w (h : Dk w p g mb N D') => Dirty.c_GetE h
        have hGr := fun w (h : Rk w q r c' D') => r_dGet h
        obtain ⟨⟨l1, l2⟩, hl⟩ : ∃ r, latest D' 6 2 = r := ⟨_, rfl⟩
        rw [hl] at hGd hGr
        simp only at hGd hGr
        clear hl
        refine wp_region_phi (by kernel_rfl) 23 none (fun _ => false) (fun i_ v wz => match i_ with
          | 0 => v = .pointer (some ⟨p, 0, none⟩)
          | 1 => v = .int .u64 (l2 : Int)
          | 2 => v = .pointer (some ⟨q, 0, none⟩)
          | 3 => v = .int .u64 (l2 : Int)
          | 4 => v = .bool false
          | 5 => v = .bool false
          | 6 => v = .pointer (some ⟨p, 0, none⟩)
          | 7 => ∃ A3 c3, v = .slice A3 (img D').length c3 ∧ Byt wz A3 (img D').length c3 (img D')
          | 8 => v = .string ⟨(img D').toArray⟩
          | 9 => v = .pointer (some ⟨q, 0, none⟩)
          | 10 => ∃ A3 c3, v = .slice A3 (img D').length c3 ∧ Byt wz A3 (img D').length c3 (img D')
          | 11 => v = .string ⟨(img D').toArray⟩
          | 12 => v = .bool false
          | 13 => v = .bool false
          | 14 => v = .bool false
          | 15 => v = .pointer (some ⟨p, 0, none⟩)
          | 16 => v = .int .i64 (D'.ops : Int)
          | 17 => v = .pointer (some ⟨q, 0, none⟩)
          | 18 => v = .pointer (some ⟨q, 0, none⟩)
          | 19 => v = .pointer (some ⟨q, 3, none⟩)
          | 20 => v = .int .i64 (D'.ops : Int)
          | 21 => v = .bool false
          | 22 => v = .bool false
          | _ => True) (by kernel_rfl) ?_ ?_ ?_
        · (repeat' (first | exact allLt_zero | refine allLt_succ ?_ ?_))
          · exact fun _ _ _ h _ => h
          · exact fun _ _ _ h _ => h
          · exact fun _ _ _ h _ => h
          · exact fun _ _ _ h _ => h
          · exact fun _ _ _ h _ => h
          · exact fun _ _ _ h _ => h
          · exact fun _ _ _ h _ => h
          · intro v w1 w2 h hg
            rw [show kindRow _ _ = none from by kernel_rfl] at hg
            obtain ⟨A3, c3, rfl, hr⟩ := h
            exact ⟨A3, c3, rfl, hr.bel (bel_grown hg)⟩
          · exact fun _ _ _ h _ => h
          · exact fun _ _ _ h _ => h
          · intro v w1 w2 h hg
            rw [show kindRow _ _ = none from by kernel_rfl] at hg
            obtain ⟨A3, c3, rfl, hr⟩ := h
            exact ⟨A3, c3, rfl, hr.bel (bel_grown hg)⟩
          · exact fun _ _ _ h _ => h
          · exact fun _ _ _ h _ => h
          · exact fun _ _ _ h _ => h
          · exact fun _ _ _ h _ => h
          · exact fun _ _ _ h _ => h
          · exact fun _ _ _ h _ => h
          · exact fun _ _ _ h _ => h
          · exact fun _ _ _ h _ => h
          · exact fun _ _ _ h _ => h
          · exact fun _ _ _ h _ => h
          · exact fun _ _ _ h _ => h
          · exact fun _ _ _ h _ => h
        · (repeat' (first | exact allLt_zero | refine allLt_succ ?_ ?_))
          · intro a w' hf he
            have k5 : a.tmps.getD 5 undef = .pointer (some ⟨p, 0, none⟩) := hf.var (by kernel_rfl) rfl
            refine wpOp_step rfl (fun K hK => ?_)
            go_simp
            exact hK _ _ ⟨_, rfl, rfl, World.grownBy.refl _ _⟩
          · intro a w' hf he
            have f0 : a.tmps.getD 164 undef = .pointer (some ⟨p, 0, none⟩) := he 0 (by kernel_rfl)
            rw [show kindRow _ _ = none from by kernel_rfl] at hf
            refine wpOp_step rfl (fun K hK => ?_)
            go_simp
            refine (hGd _ (HP'.out.dk.bel hf.bel)).mono ?_
            rintro e w2 ⟨rfl, hb2⟩
            exact hK _ _ ⟨_, rfl, rfl, grown_bel hb2⟩
          · intro a w' hf he
            have k7 : a.tmps.getD 7 undef = .pointer (some ⟨q, 0, none⟩) := hf.var (by kernel_rfl) rfl
            refine wpOp_step rfl (fun K hK => ?_)
            go_simp
            exact hK _ _ ⟨_, rfl, rfl, World.grownBy.refl _ _⟩
          · intro a w' hf he
            have f2 : a.tmps.getD 166 undef = .pointer (some ⟨q, 0, none⟩) := he 2 (by kernel_rfl)
            rw [show kindRow _ _ = none from by kernel_rfl] at hf
            refine wpOp_step rfl (fun K hK => ?_)
            go_simp
            refine (hGr _ (HP'.out.rk.bel hf.bel)).mono ?_
            rintro e w2 ⟨rfl, hb2⟩
            exact hK _ _ ⟨_, rfl, rfl, grown_bel hb2⟩
          · intro a w' hf he
            have f1 : a.tmps.getD 165 undef = .int .u64 (l2 : Int) := he 1 (by kernel_rfl)
            have f3 : a.tmps.getD 167 undef = .int .u64 (l2 : Int) := he 3 (by kernel_rfl)
            refine wpOp_step rfl (fun K hK => ?_)
            go_simp
            exact hK _ _ ⟨_, rfl, rfl, World.grownBy.refl _ _⟩
          · intro a w' hf he
            have f4 : a.tmps.getD 168 undef = .bool false := he 4 (by kernel_rfl)
            refine wpOp_step rfl (fun K hK => ?_)
            go_simp
            exact hK _ _ ⟨_, rfl, rfl, World.grownBy.refl _ _⟩
          · intro a w' hf he
            have k5 : a.tmps.getD 5 undef = .pointer (some ⟨p, 0, none⟩) := hf.var (by kernel_rfl) rfl
            have f5 : a.tmps.getD 169 undef = .bool false := he 5 (by kernel_rfl)
            refine wpOp_run rfl rfl rfl f5 (fun K hK => ?_)
            go_simp
            exact hK _ _ ⟨_, rfl, rfl, World.grownBy.refl _ _⟩
          · intro a w' hf he
            have f6 : a.tmps.getD 170 undef = .pointer (some ⟨p, 0, none⟩) := he 6 (by kernel_rfl)
            have f5 : a.tmps.getD 169 undef = .bool false := he 5 (by kernel_rfl)
            rw [show kindRow _ _ = none from by kernel_rfl] at hf
            refine wpOp_run rfl rfl rfl f5 (fun K hK => ?_)
            go_simp
            refine (c_ImageE (HP'.out.dk.bel hf.bel)).mono ?_
            rintro e w2 ⟨A9, c9, rfl, ho9, hb9⟩
            exact hK _ _ ⟨_, rfl, ⟨_, _, rfl, ho9.rd⟩, grown_bel hb9⟩
          · intro a w' hf he
            obtain ⟨A7, c7, hv7, hr7⟩ := he 7 (by kernel_rfl)
            have f7 : a.tmps.getD 171 undef = _ := hv7
            have f5 : a.tmps.getD 169 undef = .bool false := he 5 (by kernel_rfl)
            rw [show kindRow _ _ = none from by kernel_rfl] at hf
            have hcv := run_str (P := Tryz.prog) w' 23 9 5 A7 (img D').length c7 (img D') Tryz.underlying23 Tryz.underlying5 Tryz.underlying9 hr7
            refine wpOp_run rfl rfl rfl f5 (fun K hK => ?_)
            go_simp
            exact hK _ _ ⟨_, rfl, rfl, World.grownBy.refl _ _⟩
          · intro a w' hf he
            have k7 : a.tmps.getD 7 undef = .pointer (some ⟨q, 0, none⟩) := hf.var (by kernel_rfl) rfl
            have f5 : a.tmps.getD 169 undef = .bool false := he 5 (by kernel_rfl)
            refine wpOp_run rfl rfl rfl f5 (fun K hK => ?_)
            go_simp
            exact hK _ _ ⟨_, rfl, rfl, World.grownBy.refl _ _⟩
          · intro a w' hf he
            have f9 : a.tmps.getD 173 undef = .pointer (some ⟨q, 0, none⟩) := he 9 (by kernel_rfl)
            have f5 : a.tmps.getD 169 undef = .bool false := he 5 (by kernel_rfl)
            rw [show kindRow _ _ = none from by kernel_rfl] at hf
            refine wpOp_run rfl rfl rfl f5 (fun K hK => ?_)
            go_simp
            refine (r_Image (HP'.out.rk.bel hf.bel)).mono ?_
            rintro e w2 ⟨A9, c9, rfl, ho9, hb9⟩
            exact hK _ _ ⟨_, rfl, ⟨_, _, rfl, ho9.rd⟩, grown_bel hb9⟩
          · intro a w' hf he
            obtain ⟨A10, c10, hv10, hr10⟩ := he 10 (by kernel_rfl)
            have f10 : a.tmps.getD 174 undef = _ := hv10
            have f5 : a.tmps.getD 169 undef = .bool false := he 5 (by kernel_rfl)
            rw [show kindRow _ _ = none from by kernel_rfl] at hf
            have hcv := run_str (P := Tryz.prog) w' 23 9 5 A10 (img D').length c10 (img D') Tryz.underlying23 Tryz.underlying5 Tryz.underlying9 hr10
            refine wpOp_run rfl rfl rfl f5 (fun K hK => ?_)
            go_simp
            exact hK _ _ ⟨_, rfl, rfl, World.grownBy.refl _ _⟩
          · intro a w' hf he
            have f8 : a.tmps.getD 172 undef = .string ⟨(img D').toArray⟩ := he 8 (by kernel_rfl)
            have f11 : a.tmps.getD 175 undef = .string ⟨(img D').toArray⟩ := he 11 (by kernel_rfl)
            have f5 : a.tmps.getD 169 undef = .bool false := he 5 (by kernel_rfl)
            refine wpOp_run rfl rfl rfl f5 (fun K hK => ?_)
            go_simp
            exact hK _ _ ⟨_, rfl, rfl, World.grownBy.refl _ _⟩
          · intro a w' hf he
            have f5 : a.tmps.getD 169 undef = .bool false := he 5 (by kernel_rfl)
            have f12 : a.tmps.getD 176 undef = .bool false := he 12 (by kernel_rfl)
            refine wpOp_step rfl (fun K hK => ?_)
            go_simp
            exact hK _ _ ⟨_, rfl, rfl, World.grownBy.refl _ _⟩
          · intro a w' hf he
            have f13 : a.tmps.getD 177 undef = .bool false := he 13 (by kernel_rfl)
            refine wpOp_step rfl (fun K hK => ?_)
            go_simp
            exact hK _ _ ⟨_, rfl, rfl, World.grownBy.refl _ _⟩
          · intro a w' hf he
            have k5 : a.tmps.getD 5 undef = .pointer (some ⟨p, 0, none⟩) := hf.var (by kernel_rfl) rfl
            have f14 : a.tmps.getD 178 undef = .bool false := he 14 (by kernel_rfl)
            refine wpOp_run rfl rfl rfl f14 (fun K hK => ?_)
            go_simp
            exact hK _ _ ⟨_, rfl, rfl, World.grownBy.refl _ _⟩
          · intro a w' hf he
            have f15 : a.tmps.getD 179 undef = .pointer (some ⟨p, 0, none⟩) := he 15 (by kernel_rfl)
            have f14 : a.tmps.getD 178 undef = .bool false := he 14 (by kernel_rfl)
            rw [show kindRow _ _ = none from by kernel_rfl] at hf
            refine wpOp_run rfl rfl rfl f14 (fun K hK => ?_)
            go_simp
            refine (c_Ops (HP'.out.dk.bel hf.bel)).mono ?_
            rintro e w2 ⟨rfl, rfl⟩
            exact hK _ _ ⟨_, rfl, rfl, World.grownBy.refl _ _⟩
          · intro a w' hf he
            have k7 : a.tmps.getD 7 undef = .pointer (some ⟨q, 0, none⟩) := hf.var (by kernel_rfl) rfl
            have f14 : a.tmps.getD 178 undef = .bool false := he 14 (by kernel_rfl)
            refine wpOp_run rfl rfl rfl f14 (fun K hK => ?_)
            go_simp
            exact hK _ _ ⟨_, rfl, rfl, World.grownBy.refl _ _⟩
          · intro a w' hf he
            have f17 : a.tmps.getD 181 undef = .pointer (some ⟨q, 0, none⟩) := he 17 (by kernel_rfl)
            have f14 : a.tmps.getD 178 undef = .bool false := he 14 (by kernel_rfl)
            refine wpOp_run rfl rfl rfl f14 (fun K hK => ?_)
            go_simp
            exact hK _ _ ⟨_, rfl, rfl, World.grownBy.refl _ _⟩
          · intro a w' hf he
            have f18 : a.tmps.getD 182 undef = .pointer (some ⟨q, 0, none⟩) := he 18 (by kernel_rfl)
            have f14 : a.tmps.getD 178 undef = .bool false := he 14 (by kernel_rfl)
            refine wpOp_run rfl rfl rfl f14 (fun K hK => ?_)
            go_simp
            exact hK _ _ ⟨_, rfl, rfl, World.grownBy.refl _ _⟩
          · intro a w' hf he
            have f19 : a.tmps.getD 183 undef = .pointer (some ⟨q, 3, none⟩) := he 19 (by kernel_rfl)
            have f14 : a.tmps.getD 178 undef = .bool false := he 14 (by kernel_rfl)
            rw [show kindRow _ _ = none from by kernel_rfl] at hf
            have dd := (HP'.out.rk.bel hf.bel).cells.2.2.2
            refine wpOp_run rfl rfl rfl f14 (fun K hK => ?_)
            go_simp
            exact hK _ _ ⟨_, rfl, rfl, World.grownBy.refl _ _⟩
          · intro a w' hf he
            have f16 : a.tmps.getD 180 undef = .int .i64 (D'.ops : Int) := he 16 (by kernel_rfl)
            have f20 : a.tmps.getD 184 undef = .int .i64 (D'.ops : Int) := he 20 (by kernel_rfl)
            have f14 : a.tmps.getD 178 undef = .bool false := he 14 (by kernel_rfl)
            refine wpOp_run rfl rfl rfl f14 (fun K hK => ?_)
            go_simp
            exact hK _ _ ⟨_, rfl, rfl, World.grownBy.refl _ _⟩
          · intro a w' hf he
            have f14 : a.tmps.getD 178 undef = .bool false := he 14 (by kernel_rfl)
            have f21 : a.tmps.getD 185 undef = .bool false := he 21 (by kernel_rfl)
            refine wpOp_step rfl (fun K hK => ?_)
            go_simp
            exact hK _ _ ⟨_, rfl, rfl, World.grownBy.refl _ _⟩
        · intro a w' hf he
          obtain ⟨u164, f0⟩ : ∃ u, a.tmps.getD 164 undef = u := ⟨_, rfl⟩
          obtain ⟨u165, f1⟩ : ∃ u, a.tmps.getD 165 undef = u := ⟨_, rfl⟩
          obtain ⟨u166, f2⟩ : ∃ u, a.tmps.getD 166 undef = u := ⟨_, rfl⟩
          obtain ⟨u167, f3⟩ : ∃ u, a.tmps.getD 167 undef = u := ⟨_, rfl⟩
          obtain ⟨u168, f4⟩ : ∃ u, a.tmps.getD 168 undef = u := ⟨_, rfl⟩
          obtain ⟨u169, f5⟩ : ∃ u, a.tmps.getD 169 undef = u := ⟨_, rfl⟩
          obtain ⟨u170, f6⟩ : ∃ u, a.tmps.getD 170 undef = u := ⟨_, rfl⟩
          obtain ⟨u171, f7⟩ : ∃ u, a.tmps.getD 171 undef = u := ⟨_, rfl⟩
          obtain ⟨u172, f8⟩ : ∃ u, a.tmps.getD 172 undef = u := ⟨_, rfl⟩
          obtain ⟨u173, f9⟩ : ∃ u, a.tmps.getD 173 undef = u := ⟨_, rfl⟩
          obtain ⟨u174, f10⟩ : ∃ u, a.tmps.getD 174 undef = u := ⟨_, rfl⟩
          obtain ⟨u175, f11⟩ : ∃ u, a.tmps.getD 175 undef = u := ⟨_, rfl⟩
          obtain ⟨u176, f12⟩ : ∃ u, a.tmps.getD 176 undef = u := ⟨_, rfl⟩
          obtain ⟨u177, f13⟩ : ∃ u, a.tmps.getD 177 undef = u := ⟨_, rfl⟩
          obtain ⟨u178, f14⟩ : ∃ u, a.tmps.getD 178 undef = u := ⟨_, rfl⟩
          obtain ⟨u179, f15⟩ : ∃ u, a.tmps.getD 179 undef = u := ⟨_, rfl⟩
          obtain ⟨u180, f16⟩ : ∃ u, a.tmps.getD 180 undef = u := ⟨_, rfl⟩
          obtain ⟨u181, f17⟩ : ∃ u, a.tmps.getD 181 undef = u := ⟨_, rfl⟩
          obtain ⟨u182, f18⟩ : ∃ u, a.tmps.getD 182 undef = u := ⟨_, rfl⟩
          obtain ⟨u183, f19⟩ : ∃ u, a.tmps.getD 183 undef = u := ⟨_, rfl⟩
          obtain ⟨u184, f20⟩ : ∃ u, a.tmps.getD 184 undef = u := ⟨_, rfl⟩
          obtain ⟨u185, f21⟩ : ∃ u, a.tmps.getD 185 undef = u := ⟨_, rfl⟩
          have f22 : a.tmps.getD 186 undef = .bool false := he 22 (by decide)
          have hlit := hf.lit ((164, u164) :: (165, u165) :: (166, u166) :: (167, u167) :: (168, u168) :: (169, u169) :: (170, u170) :: (171, u171) :: (172, u172) :: (173, u173) :: (174, u174) :: (175, u175) :: (176, u176) :: (177, u177) :: (178, u178) :: (179, u179) :: (180, u180) :: (181, u181) :: (182, u182) :: (183, u183) :: (184, u184) :: (185, u185) :: (186, .bool false) :: []) (by kernel_rfl) ⟨f0, f1, f2, f3, f4, f5, f6, f7, f8, f9, f10, f11, f12, f13, f14, f15, f16, f17, f18, f19, f20, f21, f22, trivial⟩
          have hB := hf.bel
          clear he hf f0 f1 f2 f3 f4 f5 f6 f7 f8 f9 f10 f11 f12 f13 f14 f15 f16 f17 f18 f19 f20 f21 f22 
          subst hlit
          simp only [putAll_nil, putAll_cons, Act.put, List.setIfInBounds_toArray, List.set_cons_zero, List.set_cons_succ]
          simp only [List.drop_succ_cons, List.drop_zero]
          have HP9 := Lib.hid (HP'.out.bel hB)
          have HB9 := Lib.hid (HB'.out.trans (hB.mono HB'.out.size))
          clear hB
          go_wp2_with fail
          go_roundw
          case rel => exact ⟨i + 1, D', by omega, by go_num, HP9, HO', HB9⟩
          case measure => simp [intOf] <;> omega
      by_cases z2 : k = 2
      · subst z2
        obtain ⟨⟨DC, r1, E1⟩, hc⟩ : ∃ r, ctold D av = r := ⟨_, rfl⟩
        have hcd := c_ToldE HP.out.dk (by have := ho.out; omega) av
        have hcr := fun w (h : Rk w q r c' D) => r_Told h (by have := ho.out; omega) av
        have hco := ctold_ops D av
        rw [hc] at hcd hcr hco
        simp only at hcd hcr hco
        have Hco := Lib.hid hco
        clear hc hco
        go_upto_region 35 with (first
        | (go_at_call 45
           (with_reducible refine (hcd).mono ?_)
           rintro e w9 ⟨rfl, hk9, f9a⟩
           have f9 := f9a.mono (S1 := fun k => k = p ∨ k = g ∨ k = mb) (fun k _ e => e)
           have HK := Lib.hid hk9
           have HR := Lib.hid (rkfr hne HP.out.rk f9)
           have HB := Lib.hid (pr_bel HB.out HG.out HG2.out f9 (by omega))
           have hx9 := heap_fr X8.out f9 (by have := HL.out; omega)
           clear e0 e1 e2 e8
           obtain ⟨e0, e1, e2, e8⟩ := cact5 hx9
           clear hk9 f9 f9a hx9)
        | (go_at_call 46
           (with_reducible refine (hcr _ HR.out).mono ?_)
           rintro e w10 ⟨rfl, hk10, f10a⟩
           have f10 := f10a.mono (S1 := fun k => k = q ∨ k = r) (fun k _ e => e)
           have HP' := Lib.hid (Pr.mk (dkfr hne HK.out f10) hk10 hne)
           have HB' := Lib.hid (pr_bel HB.out HG.out HG2.out f10 (by omega))
           clear e0 e1 e2 e8 hk10 f10 f10a HK HR)
        )
        have HOn : Hid (DC.ops ≤ 1030 * (i + 1)) := Lib.hid (by have := HO.out; have := Hco.out; omega)
        clear hcd hcr
        obtain ⟨D', hD'⟩ : ∃ D', D' = DC := ⟨_, rfl⟩
        rw [← hD'] at HP'
        have HO' : Hid (D'.ops ≤ 1030 * (i + 1)) := Lib.hid (by rw [hD']; exact HOn.out)
        clear hD' HOn HP
        have hGd := fun w (h : Dk w p g mb N D') => Dirty.c_GetE h
        have hGr := fun w (h : Rk w q r c' D') => r_dGet h
        obtain ⟨⟨l1, l2⟩, hl⟩ : ∃ r, latest D' 6 2 = r := ⟨_, rfl⟩
        rw [hl] at hGd hGr
        simp only at hGd hGr
        clear hl
        refine wp_region_phi (by kernel_rfl) 23 none (fun _ => false) (fun i_ v wz => match i_ with
          | 0 => v = .pointer (some ⟨p, 0, none⟩)
          | 1 => v = .int .u64 (l2 : Int)
          | 2 => v = .pointer (some ⟨q, 0, none⟩)
          | 3 => v = .int .u64 (l2 : Int)
          | 4 => v = .bool false
          | 5 => v = .bool false
          | 6 => v = .pointer (some ⟨p, 0, none⟩)
          | 7 => ∃ A3 c3, v = .slice A3 (img D').length c3 ∧ Byt wz A3 (img D').length c3 (img D')
          | 8 => v = .string ⟨(img D').toArray⟩
          | 9 => v = .pointer (some ⟨q, 0, none⟩)
          | 10 => ∃ A3 c3, v = .slice A3 (img D').length c3 ∧ Byt wz A3 (img D').length c3 (img D')
          | 11 => v = .string ⟨(img D').toArray⟩
          | 12 => v = .bool false
          | 13 => v = .bool false
          | 14 => v = .bool false
          | 15 => v = .pointer (some ⟨p, 0, none⟩)
          | 16 => v = .int .i64 (D'.ops : Int)
          | 17 => v = .pointer (some ⟨q, 0, none⟩)
          | 18 => v = .pointer (some ⟨q, 0, none⟩)
          | 19 => v = .pointer (some ⟨q, 3, none⟩)
          | 20 => v = .int .i64 (D'.ops : Int)
          | 21 => v = .bool false
          | 22 => v = .bool false
          | _ => True) (by kernel_rfl) ?_ ?_ ?_
        · (repeat' (first | exact allLt_zero | refine allLt_succ ?_ ?_))
          · exact fun _ _ _ h _ => h
          · exact fun _ _ _ h _ => h
          · exact fun _ _ _ h _ => h
          · exact fun _ _ _ h _ => h
          · exact fun _ _ _ h _ => h
          · exact fun _ _ _ h _ => h
          · exact fun _ _ _ h _ => h
          · intro v w1 w2 h hg
            rw [show kindRow _ _ = none from by kernel_rfl] at hg
            obtain ⟨A3, c3, rfl, hr⟩ := h
            exact ⟨A3, c3, rfl, hr.bel (bel_grown hg)⟩
          · exact fun _ _ _ h _ => h
          · exact fun _ _ _ h _ => h
          · intro v w1 w2 h hg
            rw [show kindRow _ _ = none from by kernel_rfl] at hg
            obtain ⟨A3, c3, rfl, hr⟩ := h
            exact ⟨A3, c3, rfl, hr.bel (bel_grown hg)⟩
          · exact fun _ _ _ h _ => h
          · exact fun _ _ _ h _ => h
          · exact fun _ _ _ h _ => h
          · exact fun _ _ _ h _ => h
          · exact fun _ _ _ h _ => h
          · exact fun _ _ _ h _ => h
          · exact fun _ _ _ h _ => h
          · exact fun _ _ _ h _ => h
          · exact fun _ _ _ h _ => h
          · exact fun _ _ _ h _ => h
          · exact fun _ _ _ h _ => h
          · exact fun _ _ _ h _ => h
        · (repeat' (first | exact allLt_zero | refine allLt_succ ?_ ?_))
          · intro a w' hf he
            have k5 : a.tmps.getD 5 undef = .pointer (some ⟨p, 0, none⟩) := hf.var (by kernel_rfl) rfl
            refine wpOp_step rfl (fun K hK => ?_)
            go_simp
            exact hK _ _ ⟨_, rfl, rfl, World.grownBy.refl _ _⟩
          · intro a w' hf he
            have f0 : a.tmps.getD 164 undef = .pointer (some ⟨p, 0, none⟩) := he 0 (by kernel_rfl)
            rw [show kindRow _ _ = none from by kernel_rfl] at hf
            refine wpOp_step rfl (fun K hK => ?_)
            go_simp
            refine (hGd _ (HP'.out.dk.bel hf.bel)).mono ?_
            rintro e w2 ⟨rfl, hb2⟩
            exact hK _ _ ⟨_, rfl, rfl, grown_bel hb2⟩
          · intro a w' hf he
            have k7 : a.tmps.getD 7 undef = .pointer (some ⟨q, 0, none⟩) := hf.var (by kernel_rfl) rfl
            refine wpOp_step rfl (fun K hK => ?_)
            go_simp
            exact hK _ _ ⟨_, rfl, rfl, World.grownBy.refl _ _⟩
          · intro a w' hf he
            have f2 : a.tmps.getD 166 undef = .pointer (some ⟨q, 0, none⟩) := he 2 (by kernel_rfl)
            rw [show kindRow _ _ = none from by kernel_rfl] at hf
            refine wpOp_step rfl (fun K hK => ?_)
            go_simp
            refine (hGr _ (HP'.out.rk.bel hf.bel)).mono ?_
            rintro e w2 ⟨rfl, hb2⟩
            exact hK _ _ ⟨_, rfl, rfl, grown_bel hb2⟩
          · intro a w' hf he
            have f1 : a.tmps.getD 165 undef = .int .u64 (l2 : Int) := he 1 (by kernel_rfl)
            have f3 : a.tmps.getD 167 undef = .int .u64 (l2 : Int) := he 3 (by kernel_rfl)
            refine wpOp_step rfl (fun K hK => ?_)
            go_simp
            exact hK _ _ ⟨_, rfl, rfl, World.grownBy.refl _ _⟩
          · intro a w' hf he
            have f4 : a.tmps.getD 168 undef = .bool false := he 4 (by kernel_rfl)
            refine wpOp_step rfl (fun K hK => ?_)
            go_simp
            exact hK _ _ ⟨_, rfl, rfl, World.grownBy.refl _ _⟩
          · intro a w' hf he
            have k5 : a.tmps.getD 5 undef = .pointer (some ⟨p, 0, none⟩) := hf.var (by kernel_rfl) rfl
            have f5 : a.tmps.getD 169 undef = .bool false := he 5 (by kernel_rfl)
            refine wpOp_run rfl rfl rfl f5 (fun K hK => ?_)
            go_simp
            exact hK _ _ ⟨_, rfl, rfl, World.grownBy.refl _ _⟩
          · intro a w' hf he
            have f6 : a.tmps.getD 170 undef = .pointer (some ⟨p, 0, none⟩) := he 6 (by kernel_rfl)
            have f5 : a.tmps.getD 169 undef = .bool false := he 5 (by kernel_rfl)
            rw [show kindRow _ _ = none from by kernel_rfl] at hf
            refine wpOp_run rfl rfl rfl f5 (fun K hK => ?_)
            go_simp
            refine (c_ImageE (HP'.out.dk.bel hf.bel)).mono ?_
            rintro e w2 ⟨A9, c9, rfl, ho9, hb9⟩
            exact hK _ _ ⟨_, rfl, ⟨_, _, rfl, ho9.rd⟩, grown_bel hb9⟩
          · intro a w' hf he
            obtain ⟨A7, c7, hv7, hr7⟩ := he 7 (by kernel_rfl)
            have f7 : a.tmps.getD 171 undef = _ := hv7
            have f5 : a.tmps.getD 169 undef = .bool false := he 5 (by kernel_rfl)
            rw [show kindRow _ _ = none from by kernel_rfl] at hf
            have hcv := run_str (P := Tryz.prog) w' 23 9 5 A7 (img D').length c7 (img D') Tryz.underlying23 Tryz.underlying5 Tryz.underlying9 hr7
            refine wpOp_run rfl rfl rfl f5 (fun K hK => ?_)
            go_simp
            exact hK _ _ ⟨_, rfl, rfl, World.grownBy.refl _ _⟩
          · intro a w' hf he
            have k7 : a.tmps.getD 7 undef = .pointer (some ⟨q, 0, none⟩) := hf.var (by kernel_rfl) rfl
            have f5 : a.tmps.getD 169 undef = .bool false := he 5 (by kernel_rfl)
            refine wpOp_run rfl rfl rfl f5 (fun K hK => ?_)
            go_simp
            exact hK _ _ ⟨_, rfl, rfl, World.grownBy.refl _ _⟩
          · intro a w' hf he
            have f9 : a.tmps.getD 173 undef = .pointer (some ⟨q, 0, none⟩) := he 9 (by kernel_rfl)
            have f5 : a.tmps.getD 169 undef = .bool false := he 5 (by kernel_rfl)
            rw [show kindRow _ _ = none from by kernel_rfl] at hf
            refine wpOp_run rfl rfl rfl f5 (fun K hK => ?_)
            go_simp
            refine (r_Image (HP'.out.rk.bel hf.bel)).mono ?_
            rintro e w2 ⟨A9, c9, rfl, ho9, hb9⟩
            exact hK _ _ ⟨_, rfl, ⟨_, _, rfl, ho9.rd⟩, grown_bel hb9⟩
          · intro a w' hf he
            obtain ⟨A10, c10, hv10, hr10⟩ := he 10 (by kernel_rfl)
            have f10 : a.tmps.getD 174 undef = _ := hv10
            have f5 : a.tmps.getD 169 undef = .bool false := he 5 (by kernel_rfl)
            rw [show kindRow _ _ = none from by kernel_rfl] at hf
            have hcv := run_str (P := Tryz.prog) w' 23 9 5 A10 (img D').length c10 (img D') Tryz.underlying23 Tryz.underlying5 Tryz.underlying9 hr10
            refine wpOp_run rfl rfl rfl f5 (fun K hK => ?_)
            go_simp
            exact hK _ _ ⟨_, rfl, rfl, World.grownBy.refl _ _⟩
          · intro a w' hf he
            have f8 : a.tmps.getD 172 undef = .string ⟨(img D').toArray⟩ := he 8 (by kernel_rfl)
            have f11 : a.tmps.getD 175 undef = .string ⟨(img D').toArray⟩ := he 11 (by kernel_rfl)
            have f5 : a.tmps.getD 169 undef = .bool false := he 5 (by kernel_rfl)
            refine wpOp_run rfl rfl rfl f5 (fun K hK => ?_)
            go_simp
            exact hK _ _ ⟨_, rfl, rfl, World.grownBy.refl _ _⟩
          · intro a w' hf he
            have f5 : a.tmps.getD 169 undef = .bool false := he 5 (by kernel_rfl)
            have f12 : a.tmps.getD 176 undef = .bool false := he 12 (by kernel_rfl)
            refine wpOp_step rfl (fun K hK => ?_)
            go_simp
            exact hK _ _ ⟨_, rfl, rfl, World.grownBy.refl _ _⟩
          · intro a w' hf he
            have f13 : a.tmps.getD 177 undef = .bool false := he 13 (by kernel_rfl)
            refine wpOp_step rfl (fun K hK => ?_)
            go_simp
            exact hK _ _ ⟨_, rfl, rfl, World.grownBy.refl _ _⟩
          · intro a w' hf he
            have k5 : a.tmps.getD 5 undef = .pointer (some ⟨p, 0, none⟩) := hf.var (by kernel_rfl) rfl
            have f14 : a.tmps.getD 178 undef = .bool false := he 14 (by kernel_rfl)
            refine wpOp_run rfl rfl rfl f14 (fun K hK => ?_)
            go_simp
            exact hK _ _ ⟨_, rfl, rfl, World.grownBy.refl _ _⟩
          · intro a w' hf he
            have f15 : a.tmps.getD 179 undef = .pointer (some ⟨p, 0, none⟩) := he 15 (by kernel_rfl)
            have f14 : a.tmps.getD 178 undef = .bool false := he 14 (by kernel_rfl)
            rw [show kindRow _ _ = none from by kernel_rfl] at hf
            refine wpOp_run rfl rfl rfl f14 (fun K hK => ?_)
            go_simp
            refine (c_Ops (HP'.out.dk.bel hf.bel)).mono ?_
            rintro e w2 ⟨rfl, rfl⟩
            exact hK _ _ ⟨_, rfl, rfl, World.grownBy.refl _ _⟩
          · intro a w' hf he
            have k7 : a.tmps.getD 7 undef = .pointer (some ⟨q, 0, none⟩) := hf.var (by kernel_rfl) rfl
            have f14 : a.tmps.getD 178 undef = .bool false := he 14 (by kernel_rfl)
            refine wpOp_run rfl rfl rfl f14 (fun K hK => ?_)
            go_simp
            exact hK _ _ ⟨_, rfl, rfl, World.grownBy.refl _ _⟩
          · intro a w' hf he
            have f17 : a.tmps.getD 181 undef = .pointer (some ⟨q, 0, none⟩) := he 17 (by kernel_rfl)
            have f14 : a.tmps.getD 178 undef = .bool false := he 14 (by kernel_rfl)
            refine wpOp_run rfl rfl rfl f14 (fun K hK => ?_)
            go_simp
            exact hK _ _ ⟨_, rfl, rfl, World.grownBy.refl _ _⟩
          · intro a w' hf he
            have f18 : a.tmps.getD 182 undef = .pointer (some ⟨q, 0, none⟩) := he 18 (by kernel_rfl)
            have f14 : a.tmps.getD 178 undef = .bool false := he 14 (by kernel_rfl)
            refine wpOp_run rfl rfl rfl f14 (fun K hK => ?_)
            go_simp
            exact hK _ _ ⟨_, rfl, rfl, World.grownBy.refl _ _⟩
          · intro a w' hf he
            have f19 : a.tmps.getD 183 undef = .pointer (some ⟨q, 3, none⟩) := he 19 (by kernel_rfl)
            have f14 : a.tmps.getD 178 undef = .bool false := he 14 (by kernel_rfl)
            rw [show kindRow _ _ = none from by kernel_rfl] at hf
            have dd := (HP'.out.rk.bel hf.bel).cells.2.2.2
            refine wpOp_run rfl rfl rfl f14 (fun K hK => ?_)
            go_simp
            exact hK _ _ ⟨_, rfl, rfl, World.grownBy.refl _ _⟩
          · intro a w' hf he
            have f16 : a.tmps.getD 180 undef = .int .i64 (D'.ops : Int) := he 16 (by kernel_rfl)
            have f20 : a.tmps.getD 184 undef = .int .i64 (D'.ops : Int) := he 20 (by kernel_rfl)
            have f14 : a.tmps.getD 178 undef = .bool false := he 14 (by kernel_rfl)
            refine wpOp_run rfl rfl rfl f14 (fun K hK => ?_)
            go_simp
            exact hK _ _ ⟨_, rfl, rfl, World.grownBy.refl _ _⟩
          · intro a w' hf he
            have f14 : a.tmps.getD 178 undef = .bool false := he 14 (by kernel_rfl)
            have f21 : a.tmps.getD 185 undef = .bool false := he 21 (by kernel_rfl)
            refine wpOp_step rfl (fun K hK => ?_)
            go_simp
            exact hK _ _ ⟨_, rfl, rfl, World.grownBy.refl _ _⟩
        · intro a w' hf he
          obtain ⟨u164, f0⟩ : ∃ u, a.tmps.getD 164 undef = u := ⟨_, rfl⟩
          obtain ⟨u165, f1⟩ : ∃ u, a.tmps.getD 165 undef = u := ⟨_, rfl⟩
          obtain ⟨u166, f2⟩ : ∃ u, a.tmps.getD 166 undef = u := ⟨_, rfl⟩
          obtain ⟨u167, f3⟩ : ∃ u, a.tmps.getD 167 undef = u := ⟨_, rfl⟩
          obtain ⟨u168, f4⟩ : ∃ u, a.tmps.getD 168 undef = u := ⟨_, rfl⟩
          obtain ⟨u169, f5⟩ : ∃ u, a.tmps.getD 169 undef = u := ⟨_, rfl⟩
          obtain ⟨u170, f6⟩ : ∃ u, a.tmps.getD 170 undef = u := ⟨_, rfl⟩
          obtain ⟨u171, f7⟩ : ∃ u, a.tmps.getD 171 undef = u := ⟨_, rfl⟩
          obtain ⟨u172, f8⟩ : ∃ u, a.tmps.getD 172 undef = u := ⟨_, rfl⟩
          obtain ⟨u173, f9⟩ : ∃ u, a.tmps.getD 173 undef = u := ⟨_, rfl⟩
          obtain ⟨u174, f10⟩ : ∃ u, a.tmps.getD 174 undef = u := ⟨_, rfl⟩
          obtain ⟨u175, f11⟩ : ∃ u, a.tmps.getD 175 undef = u := ⟨_, rfl⟩
          obtain ⟨u176, f12⟩ : ∃ u, a.tmps.getD 176 undef = u := ⟨_, rfl⟩
          obtain ⟨u177, f13⟩ : ∃ u, a.tmps.getD 177 undef = u := ⟨_, rfl⟩
          obtain ⟨u178, f14⟩ : ∃ u, a.tmps.getD 178 undef = u := ⟨_, rfl⟩
          obtain ⟨u179, f15⟩ : ∃ u, a.tmps.getD 179 undef = u := ⟨_, rfl⟩
          obtain ⟨u180, f16⟩ : ∃ u, a.tmps.getD 180 undef = u := ⟨_, rfl⟩
          obtain ⟨u181, f17⟩ : ∃ u, a.tmps.getD 181 undef = u := ⟨_, rfl⟩
          obtain ⟨u182, f18⟩ : ∃ u, a.tmps.getD 182 undef = u := ⟨_, rfl⟩
          obtain ⟨u183, f19⟩ : ∃ u, a.tmps.getD 183 undef = u := ⟨_, rfl⟩
          obtain ⟨u184, f20⟩ : ∃ u, a.tmps.getD 184 undef = u := ⟨_, rfl⟩
          obtain ⟨u185, f21⟩ : ∃ u, a.tmps.getD 185 undef = u := ⟨_, rfl⟩
          have f22 : a.tmps.getD 186 undef = .bool false := he 22 (by decide)
          have hlit := hf.lit ((164, u164) :: (165, u165) :: (166, u166) :: (167, u167) :: (168, u168) :: (169, u169) :: (170, u170) :: (171, u171) :: (172, u172) :: (173, u173) :: (174, u174) :: (175, u175) :: (176, u176) :: (177, u177) :: (178, u178) :: (179, u179) :: (180, u180) :: (181, u181) :: (182, u182) :: (183, u183) :: (184, u184) :: (185, u185) :: (186, .bool false) :: []) (by kernel_rfl) ⟨f0, f1, f2, f3, f4, f5, f6, f7, f8, f9, f10, f11, f12, f13, f14, f15, f16, f17, f18, f19, f20, f21, f22, trivial⟩
          have hB := hf.bel
          clear he hf f0 f1 f2 f3 f4 f5 f6 f7 f8 f9 f10 f11 f12 f13 f14 f15 f16 f17 f18 f19 f20 f21 f22 
          subst hlit
          simp only [putAll_nil, putAll_cons, Act.put, List.setIfInBounds_toArray, List.set_cons_zero, List.set_cons_succ]
          simp only [List.drop_succ_cons, List.drop_zero]
          have HP9 := Lib.hid (HP'.out.bel hB)
          have HB9 := Lib.hid (HB'.out.trans (hB.mono HB'.out.size))
          clear hB
          go_wp2_with fail
          go_roundw
          case rel => exact ⟨i + 1, D', by omega, by go_num, HP9, HO', HB9⟩
          case measure => simp [intOf] <;> omega
      by_cases z3 : k = 3
      · subst z3
        go_wp2_with fail
        refine wp_region_fr (by kernel_rfl) 9 (fun i_ => match i_ with | 3 => 1 | 7 => 2 | _ => 0) (fun c_ => match c_ with | 1 => fun k => k = p ∨ k = g ∨ k = mb | 2 => fun k => k = q ∨ k = r | _ => fun _ => False) (fun i_ => match i_ with | 0 => [1, 2] | 1 => [1, 2] | 2 => [1, 2] | 3 => [2] | 4 => [1, 2] | 5 => [1, 2] | 6 => [1, 2] | _ => []) (fun i_ => match i_ with | 4 => [1] | 5 => [1] | 6 => [1] | 7 => [1] | 8 => [1, 2] | _ => []) [1, 2] (fun i_ v wz => match i_ with
          | 0 => v = .pointer (some ⟨p, 0, none⟩)
          | 1 => v = .pointer (some ⟨Bx, 2, none⟩)
          | 2 => v = .int .u64 (m2 : Int)
          | 3 => v = .int .i64 ((dput D m2).2 : Int) ∧ Dk wz p g mb N (dput D m2).1
          | 4 => v = .pointer (some ⟨q, 0, none⟩)
          | 5 => v = .pointer (some ⟨Bx, 2, none⟩)
          | 6 => v = .int .u64 (m2 : Int)
          | 7 => v = .int .i64 ((dput D m2).2 : Int) ∧ Rk wz q r c' (dput D m2).1
          | 8 => v = .bool false
          | _ => True) (by kernel_rfl) (by kernel_rfl) ?_ ?_ ?_
        · (repeat' (first | exact allLt_zero | refine allLt_succ ?_ ?_))
          · exact fun _ _ _ h _ => h
          · exact fun _ _ _ h _ => h
          · exact fun _ _ _ h _ => h
          · intro v w1 w2 h hg
            replace hg : Fr (fun k => (fun k => k = q ∨ k = r) k ∨ False) w1 w2 := hg
            replace hg := hg.un1
            exact ⟨h.1, dkfr hne h.2 hg⟩
          · exact fun _ _ _ h _ => h
          · exact fun _ _ _ h _ => h
          · exact fun _ _ _ h _ => h
          · intro v w1 w2 h hg
            replace hg : Fr (fun k => False) w1 w2 := hg
            exact ⟨h.1, h.2.fr hg (fun e => e) (fun e => e)⟩
          · exact fun _ _ _ h _ => h
        · (repeat' (first | exact allLt_zero | refine allLt_succ ?_ ?_))
          · intro a w' hf he
            have k5 : a.tmps.getD 5 undef = .pointer (some ⟨p, 0, none⟩) := hf.var (by kernel_rfl) rfl
            refine wpOp_step rfl (fun K hK => ?_)
            go_simp
            exact hK _ _ ⟨_, rfl, rfl, Fr.refl _ _⟩
          · intro a w' hf he
            have k10 : a.tmps.getD 10 undef = .pointer (some ⟨Bx, 0, none⟩) := hf.var (by kernel_rfl) rfl
            have hfr : Fr (fun k => False) _ w' := hf.of_start
            refine wpOp_step rfl (fun K hK => ?_)
            go_simp
            exact hK _ _ ⟨_, rfl, rfl, Fr.refl _ _⟩
          · intro a w' hf he
            have f1 : a.tmps.getD 136 undef = .pointer (some ⟨Bx, 2, none⟩) := he 1 (by kernel_rfl)
            have hfr : Fr (fun k => False) _ w' := hf.of_start
            have hx := heap_fr X8.out hfr (by first | exact fun e => e | (intro e; simp only [or_false] at e; omega) | omega)
            have dd := (cact5 hx).2.2.1
            clear hx
            refine wpOp_step rfl (fun K hK => ?_)
            go_simp
            exact hK _ _ ⟨_, rfl, rfl, Fr.refl _ _⟩
          · intro a w' hf he
            have f0 : a.tmps.getD 135 undef = .pointer (some ⟨p, 0, none⟩) := he 0 (by kernel_rfl)
            have f2 : a.tmps.getD 137 undef = .int .u64 (m2 : Int) := he 2 (by kernel_rfl)
            have hfr : Fr (fun k => False) _ w' := hf.of_start
            have hd := HP.out.dk.fr hfr (fun e => e) (fun e => e) (fun e => e)
            refine wpOp_step rfl (fun K hK => ?_)
            go_simp
            refine (Dirty.c_PutE hd (by have := ho.out; omega) _ m2 rfl hm2).mono ?_
            rintro e w2 ⟨rfl, hk2, f2⟩
            exact hK _ _ ⟨_, rfl, ⟨rfl, hk2⟩, f2.mono (fun k _ e => .inl e)⟩
          · intro a w' hf he
            have k7 : a.tmps.getD 7 undef = .pointer (some ⟨q, 0, none⟩) := hf.var (by kernel_rfl) rfl
            refine wpOp_step rfl (fun K hK => ?_)
            go_simp
            exact hK _ _ ⟨_, rfl, rfl, Fr.refl _ _⟩
          · intro a w' hf he
            have k10 : a.tmps.getD 10 undef = .pointer (some ⟨Bx, 0, none⟩) := hf.var (by kernel_rfl) rfl
            have hfr : Fr (fun k => (fun k => k = p ∨ k = g ∨ k = mb) k ∨ False) _ w' := hf.of_start
            replace hfr := hfr.un1
            refine wpOp_step rfl (fun K hK => ?_)
            go_simp
            exact hK _ _ ⟨_, rfl, rfl, Fr.refl _ _⟩
          · intro a w' hf he
            have f5 : a.tmps.getD 140 undef = .pointer (some ⟨Bx, 2, none⟩) := he 5 (by kernel_rfl)
            have hfr : Fr (fun k => (fun k => k = p ∨ k = g ∨ k = mb) k ∨ False) _ w' := hf.of_start
            replace hfr := hfr.un1
            have hx := heap_fr X8.out hfr (by first | exact fun e => e | (intro e; simp only [or_false] at e; omega) | omega)
            have dd := (cact5 hx).2.2.1
            clear hx
            refine wpOp_step rfl (fun K hK => ?_)
            go_simp
            exact hK _ _ ⟨_, rfl, rfl, Fr.refl _ _⟩
          · intro a w' hf he
            have f4 : a.tmps.getD 139 undef = .pointer (some ⟨q, 0, none⟩) := he 4 (by kernel_rfl)
            have f6 : a.tmps.getD 141 undef = .int .u64 (m2 : Int) := he 6 (by kernel_rfl)
            have hfr : Fr (fun k => (fun k => k = p ∨ k = g ∨ k = mb) k ∨ False) _ w' := hf.of_start
            replace hfr := hfr.un1
            have hd := rkfr hne HP.out.rk hfr
            refine wpOp_step rfl (fun K hK => ?_)
            go_simp
            refine (r_dPut hd (by have := ho.out; omega) m2 hm2).mono ?_
            rintro e w2 ⟨rfl, hk2, f2⟩
            exact hK _ _ ⟨_, rfl, ⟨rfl, hk2⟩, f2.mono (fun k _ e => .inl e)⟩
          · intro a w' hf he
            obtain ⟨hv3, hk3⟩ := he 3 (by kernel_rfl)
            have f3 : a.tmps.getD 138 undef = _ := hv3
            obtain ⟨hv7, hk7⟩ := he 7 (by kernel_rfl)
            have f7 : a.tmps.getD 142 undef = _ := hv7
            have hfr : Fr (fun k => (fun k => k = p ∨ k = g ∨ k = mb) k ∨ (fun k => k = q ∨ k = r) k ∨ False) _ w' := hf.of_start
            refine wpOp_step rfl (fun K hK => ?_)
            go_simp
            exact hK _ _ ⟨_, rfl, rfl, Fr.refl _ _⟩
        · intro a w' hf he
          obtain ⟨u135, f0⟩ : ∃ u, a.tmps.getD 135 undef = u := ⟨_, rfl⟩
          obtain ⟨u136, f1⟩ : ∃ u, a.tmps.getD 136 undef = u := ⟨_, rfl⟩
          obtain ⟨u137, f2⟩ : ∃ u, a.tmps.getD 137 undef = u := ⟨_, rfl⟩
          obtain ⟨hv3, hk3⟩ := he 3 (by decide)
          have f3 : a.tmps.getD 138 undef = _ := hv3
          obtain ⟨u139, f4⟩ : ∃ u, a.tmps.getD 139 undef = u := ⟨_, rfl⟩
          obtain ⟨u140, f5⟩ : ∃ u, a.tmps.getD 140 undef = u := ⟨_, rfl⟩
          obtain ⟨u141, f6⟩ : ∃ u, a.tmps.getD 141 undef = u := ⟨_, rfl⟩
          obtain ⟨hv7, hk7⟩ := he 7 (by decide)
          have f7 : a.tmps.getD 142 undef = _ := hv7
          have f8 : a.tmps.getD 143 undef = .bool false := he 8 (by decide)
          have hlit := hf.lit ((135, u135) :: (136, u136) :: (137, u137) :: (138, _) :: (139, u139) :: (140, u140) :: (141, u141) :: (142, _) :: (143, .bool false) :: []) (by kernel_rfl) ⟨f0, f1, f2, f3, f4, f5, f6, f7, f8, trivial⟩
          have hB : Fr (fun k => (fun k => k = p ∨ k = g ∨ k = mb) k ∨ (fun k => k = q ∨ k = r) k ∨ False) _ w' := hf.of_start
          clear he hf f0 f1 f2 f3 f4 f5 f6 f7 f8 hv3 hv7
          subst hlit
          simp only [putAll_nil, putAll_cons, Act.put, List.setIfInBounds_toArray, List.set_cons_zero, List.set_cons_succ]
          simp only [List.drop_succ_cons, List.drop_zero]
          have HP' := Lib.hid (Pr.mk hk3 hk7 hne)
          have HB' := Lib.hid (pr_bel HB.out HG.out HG2.out hB (fun k e => by simp only [or_false] at e; omega))
          have HOn : Hid ((dput D m2).1.ops ≤ 1030 * (i + 1)) := Lib.hid (by have := Act3.rput_ops 6 2 D m2; have := HO.out; show (rput 6 2 D m2).1.ops ≤ _; omega)
          clear hk3 hk7 hB e0 e1 e2 e8
          go_upto_region 35 with fail
          obtain ⟨D', hD'⟩ : ∃ D', D' = (dput D m2).1 := ⟨_, rfl⟩
          rw [← hD'] at HP'
          have HO' : Hid (D'.ops ≤ 1030 * (i + 1)) := Lib.hid (by rw [hD']; exact HOn.out)
          clear hD' HOn HP
          have hGd := fun w (h : Dk w p g mb N D') => Dirty.c_GetE h
          have hGr := fun w (h : Rk w q r c' D') => r_dGet h
          obtain ⟨⟨l1, l2⟩, hl⟩ : ∃ r, latest D' 6 2 = r := ⟨_, rfl⟩
          rw [hl] at hGd hGr
          simp only at hGd hGr
          clear hl
          refine wp_region_phi (by kernel_rfl) 23 none (fun _ => false) (fun i_ v wz => match i_ with
            | 0 => v = .pointer (some ⟨p, 0, none⟩)
            | 1 => v = .int .u64 (l2 : Int)
            | 2 => v = .pointer (some ⟨q, 0, none⟩)
            | 3 => v = .int .u64 (l2 : Int)
            | 4 => v = .bool false
            | 5 => v = .bool false
            | 6 => v = .pointer (some ⟨p, 0, none⟩)
            | 7 => ∃ A3 c3, v = .slice A3 (img D').length c3 ∧ Byt wz A3 (img D').length c3 (img D')
            | 8 => v = .string ⟨(img D').toArray⟩
            | 9 => v = .pointer (some ⟨q, 0, none⟩)
            | 10 => ∃ A3 c3, v = .slice A3 (img D').length c3 ∧ Byt wz A3 (img D').length c3 (img D')
            | 11 => v = .string ⟨(img D').toArray⟩
            | 12 => v = .bool false
            | 13 => v = .bool false
            | 14 => v = .bool false
            | 15 => v = .pointer (some ⟨p, 0, none⟩)
            | 16 => v = .int .i64 (D'.ops : Int)
            | 17 => v = .pointer (some ⟨q, 0, none⟩)
            | 18 => v = .pointer (some ⟨q, 0, none⟩)
            | 19 => v = .pointer (some ⟨q, 3, none⟩)
            | 20 => v = .int .i64 (D'.ops : Int)
            | 21 => v = .bool false
            | 22 => v = .bool false
            | _ => True) (by kernel_rfl) ?_ ?_ ?_
          · (repeat' (first | exact allLt_zero | refine allLt_succ ?_ ?_))
            · exact fun _ _ _ h _ => h
            · exact fun _ _ _ h _ => h
            · exact fun _ _ _ h _ => h
            · exact fun _ _ _ h _ => h
            · exact fun _ _ _ h _ => h
            · exact fun _ _ _ h _ => h
            · exact fun _ _ _ h _ => h
            · intro v w1 w2 h hg
              rw [show kindRow _ _ = none from by kernel_rfl] at hg
              obtain ⟨A3, c3, rfl, hr⟩ := h
              exact ⟨A3, c3, rfl, hr.bel (bel_grown hg)⟩
            · exact fun _ _ _ h _ => h
            · exact fun _ _ _ h _ => h
            · intro v w1 w2 h hg
              rw [show kindRow _ _ = none from by kernel_rfl] at hg
              obtain ⟨A3, c3, rfl, hr⟩ := h
              exact ⟨A3, c3, rfl, hr.bel (bel_grown hg)⟩
            · exact fun _ _ _ h _ => h
            · exact fun _ _ _ h _ => h
            · exact fun _ _ _ h _ => h
            · exact fun _ _ _ h _ => h
            · exact fun _ _ _ h _ => h
            · exact fun _ _ _ h _ => h
            · exact fun _ _ _ h _ => h
            · exact fun _ _ _ h _ => h
            · exact fun _ _ _ h _ => h
            · exact fun _ _ _ h _ => h
            · exact fun _ _ _ h _ => h
            · exact fun _ _ _ h _ => h
          · (repeat' (first | exact allLt_zero | refine allLt_succ ?_ ?_))
            · intro a w' hf he
              have k5 : a.tmps.getD 5 undef = .pointer (some ⟨p, 0, none⟩) := hf.var (by kernel_rfl) rfl
              refine wpOp_step rfl (fun K hK => ?_)
              go_simp
              exact hK _ _ ⟨_, rfl, rfl, World.grownBy.refl _ _⟩
            · intro a w' hf he
              have f0 : a.tmps.getD 164 undef = .pointer (some ⟨p, 0, none⟩) := he 0 (by kernel_rfl)
              rw [show kindRow _ _ = none from by kernel_rfl] at hf
              refine wpOp_step rfl (fun K hK => ?_)
              go_simp
              refine (hGd _ (HP'.out.dk.bel hf.bel)).mono ?_
              rintro e w2 ⟨rfl, hb2⟩
              exact hK _ _ ⟨_, rfl, rfl, grown_bel hb2⟩
            · intro a w' hf he
              have k7 : a.tmps.getD 7 undef = .pointer (some ⟨q, 0, none⟩) := hf.var (by kernel_rfl) rfl
              refine wpOp_step rfl (fun K hK => ?_)
              go_simp
              exact hK _ _ ⟨_, rfl, rfl, World.grownBy.refl _ _⟩
            · intro a w' hf he
              have f2 : a.tmps.getD 166 undef = .pointer (some ⟨q, 0, none⟩) := he 2 (by kernel_rfl)
              rw [show kindRow _ _ = none from by kernel_rfl] at hf
              refine wpOp_step rfl (fun K hK => ?_)
              go_simp
              refine (hGr _ (HP'.out.rk.bel hf.bel)).mono ?_
              rintro e w2 ⟨rfl, hb2⟩
              exact hK _ _ ⟨_, rfl, rfl, grown_bel hb2⟩
            · intro a w' hf he
              have f1 : a.tmps.getD 165 undef = .int .u64 (l2 : Int) := he 1 (by kernel_rfl)
              have f3 : a.tmps.getD 167 undef = .int .u64 (l2 : Int) := he 3 (by kernel_rfl)
              refine wpOp_step rfl (fun K hK => ?_)
              go_simp
              exact hK _ _ ⟨_, rfl, rfl, World.grownBy.refl _ _⟩
            · intro a w' hf he
              have f4 : a.tmps.getD 168 undef = .bool false := he 4 (by kernel_rfl)
              refine wpOp_step rfl (fun K hK => ?_)
              go_simp
              exact hK _ _ ⟨_, rfl, rfl, World.grownBy.refl _ _⟩
            · intro a w' hf he
              have k5 : a.tmps.getD 5 undef = .pointer (some ⟨p, 0, none⟩) := hf.var (by kernel_rfl) rfl
              have f5 : a.tmps.getD 169 undef = .bool false := he 5 (by kernel_rfl)
              refine wpOp_run rfl rfl rfl f5 (fun K hK => ?_)
              go_simp
              exact hK _ _ ⟨_, rfl, rfl, World.grownBy.refl _ _⟩
            · intro a w' hf he
              have f6 : a.tmps.getD 170 undef = .pointer (some ⟨p, 0, none⟩) := he 6 (by kernel_rfl)
              have f5 : a.tmps.getD 169 undef = .bool false := he 5 (by kernel_rfl)
              rw [show kindRow _ _ = none from by kernel_rfl] at hf
              refine wpOp_run rfl rfl rfl f5 (fun K hK => ?_)
              go_simp
              refine (c_ImageE (HP'.out.dk.bel hf.bel)).mono ?_
              rintro e w2 ⟨A9, c9, rfl, ho9, hb9⟩
              exact hK _ _ ⟨_, rfl, ⟨_, _, rfl, ho9.rd⟩, grown_bel hb9⟩
            · intro a w' hf he
              obtain ⟨A7, c7, hv7, hr7⟩ := he 7 (by kernel_rfl)
              have f7 : a.tmps.getD 171 undef = _ := hv7
              have f5 : a.tmps.getD 169 undef = .bool false := he 5 (by kernel_rfl)
              rw [show kindRow _ _ = none from by kernel_rfl] at hf
              have hcv := run_str (P := Tryz.prog) w' 23 9 5 A7 (img D').length c7 (img D') Tryz.underlying23 Tryz.underlying5 Tryz.underlying9 hr7
              refine wpOp_run rfl rfl rfl f5 (fun K hK => ?_)
              go_simp
              exact hK _ _ ⟨_, rfl, rfl, World.grownBy.refl _ _⟩
            · intro a w' hf he
              have k7 : a.tmps.getD 7 undef = .pointer (some ⟨q, 0, none⟩) := hf.var (by kernel_rfl) rfl
              have f5 : a.tmps.getD 169 undef = .bool false := he 5 (by kernel_rfl)
              refine wpOp_run rfl rfl rfl f5 (fun K hK => ?_)
              go_simp
              exact hK _ _ ⟨_, rfl, rfl, World.grownBy.refl _ _⟩
            · intro a w' hf he
              have f9 : a.tmps.getD 173 undef = .pointer (some ⟨q, 0, none⟩) := he 9 (by kernel_rfl)
              have f5 : a.tmps.getD 169 undef = .bool false := he 5 (by kernel_rfl)
              rw [show kindRow _ _ = none from by kernel_rfl] at hf
              refine wpOp_run rfl rfl rfl f5 (fun K hK => ?_)
              go_simp
              refine (r_Image (HP'.out.rk.bel hf.bel)).mono ?_
              rintro e w2 ⟨A9, c9, rfl, ho9, hb9⟩
              exact hK _ _ ⟨_, rfl, ⟨_, _, rfl, ho9.rd⟩, grown_bel hb9⟩
            · intro a w' hf he
              obtain ⟨A10, c10, hv10, hr10⟩ := he 10 (by kernel_rfl)
              have f10 : a.tmps.getD 174 undef = _ := hv10
              have f5 : a.tmps.getD 169 undef = .bool false := he 5 (by kernel_rfl)
              rw [show kindRow _ _ = none from by kernel_rfl] at hf
              have hcv := run_str (P := Tryz.prog) w' 23 9 5 A10 (img D').length c10 (img D') Tryz.underlying23 Tryz.underlying5 Tryz.underlying9 hr10
              refine wpOp_run rfl rfl rfl f5 (fun K hK => ?_)
              go_simp
              exact hK _ _ ⟨_, rfl, rfl, World.grownBy.refl _ _⟩
            · intro a w' hf he
              have f8 : a.tmps.getD 172 undef = .string ⟨(img D').toArray⟩ := he 8 (by kernel_rfl)
              have f11 : a.tmps.getD 175 undef = .string ⟨(img D').toArray⟩ := he 11 (by kernel_rfl)
              have f5 : a.tmps.getD 169 undef = .bool false := he 5 (by kernel_rfl)
              refine wpOp_run rfl rfl rfl f5 (fun K hK => ?_)
              go_simp
              exact hK _ _ ⟨_, rfl, rfl, World.grownBy.refl _ _⟩
            · intro a w' hf he
              have f5 : a.tmps.getD 169 undef = .bool false := he 5 (by kernel_rfl)
              have f12 : a.tmps.getD 176 undef = .bool false := he 12 (by kernel_rfl)
              refine wpOp_step rfl (fun K hK => ?_)
              go_simp
              exact hK _ _ ⟨_, rfl, rfl, World.grownBy.refl _ _⟩
            · intro a w' hf he
              have f13 : a.tmps.getD 177 undef = .bool false := he 13 (by kernel_rfl)
              refine wpOp_step rfl (fun K hK => ?_)
              go_simp
              exact hK _ _ ⟨_, rfl, rfl, World.grownBy.refl _ _⟩
            · intro a w' hf he
              have k5 : a.tmps.getD 5 undef = .pointer (some ⟨p, 0, none⟩) := hf.var (by kernel_rfl) rfl
              have f14 : a.tmps.getD 178 undef = .bool false := he 14 (by kernel_rfl)
              refine wpOp_run rfl rfl rfl f14 (fun K hK => ?_)
              go_simp
              exact hK _ _ ⟨_, rfl, rfl, World.grownBy.refl _ _⟩
            · intro a w' hf he
              have f15 : a.tmps.getD 179 undef = .pointer (some ⟨p, 0, none⟩) := he 15 (by kernel_rfl)
              have f14 : a.tmps.getD 178 undef = .bool false := he 14 (by kernel_rfl)
              rw [show kindRow _ _ = none from by kernel_rfl] at hf
              refine wpOp_run rfl rfl rfl f14 (fun K hK => ?_)
              go_simp
              refine (c_Ops (HP'.out.dk.bel hf.bel)).mono ?_
              rintro e w2 ⟨rfl, rfl⟩
              exact hK _ _ ⟨_, rfl, rfl, World.grownBy.refl _ _⟩
            · intro a w' hf he
              have k7 : a.tmps.getD 7 undef = .pointer (some ⟨q, 0, none⟩) := hf.var (by kernel_rfl) rfl
              have f14 : a.tmps.getD 178 undef = .bool false := he 14 (by kernel_rfl)
              refine wpOp_run rfl rfl rfl f14 (fun K hK => ?_)
              go_simp
              exact hK _ _ ⟨_, rfl, rfl, World.grownBy.refl _ _⟩
            · intro a w' hf he
              have f17 : a.tmps.getD 181 undef = .pointer (some ⟨q, 0, none⟩) := he 17 (by kernel_rfl)
              have f14 : a.tmps.getD 178 undef = .bool false := he 14 (by kernel_rfl)
              refine wpOp_run rfl rfl rfl f14 (fun K hK => ?_)
              go_simp
              exact hK _ _ ⟨_, rfl, rfl, World.grownBy.refl _ _⟩
            · intro a w' hf he
              have f18 : a.tmps.getD 182 undef = .pointer (some ⟨q, 0, none⟩) := he 18 (by kernel_rfl)
              have f14 : a.tmps.getD 178 undef = .bool false := he 14 (by kernel_rfl)
              refine wpOp_run rfl rfl rfl f14 (fun K hK => ?_)
              go_simp
              exact hK _ _ ⟨_, rfl, rfl, World.grownBy.refl _ _⟩
            · intro a w' hf he
              have f19 : a.tmps.getD 183 undef = .pointer (some ⟨q, 3, none⟩) := he 19 (by kernel_rfl)
              have f14 : a.tmps.getD 178 undef = .bool false := he 14 (by kernel_rfl)
              rw [show kindRow _ _ = none from by kernel_rfl] at hf
              have dd := (HP'.out.rk.bel hf.bel).cells.2.2.2
              refine wpOp_run rfl rfl rfl f14 (fun K hK => ?_)
              go_simp
              exact hK _ _ ⟨_, rfl, rfl, World.grownBy.refl _ _⟩
            · intro a w' hf he
              have f16 : a.tmps.getD 180 undef = .int .i64 (D'.ops : Int) := he 16 (by kernel_rfl)
              have f20 : a.tmps.getD 184 undef = .int .i64 (D'.ops : Int) := he 20 (by kernel_rfl)
              have f14 : a.tmps.getD 178 undef = .bool false := he 14 (by kernel_rfl)
              refine wpOp_run rfl rfl rfl f14 (fun K hK => ?_)
              go_simp
              exact hK _ _ ⟨_, rfl, rfl, World.grownBy.refl _ _⟩
            · intro a w' hf he
              have f14 : a.tmps.getD 178 undef = .bool false := he 14 (by kernel_rfl)
              have f21 : a.tmps.getD 185 undef = .bool false := he 21 (by kernel_rfl)
              refine wpOp_step rfl (fun K hK => ?_)
              go_simp
              exact hK _ _ ⟨_, rfl, rfl, World.grownBy.refl _ _⟩
          · intro a w' hf he
            obtain ⟨u164, f0⟩ : ∃ u, a.tmps.getD 164 undef = u := ⟨_, rfl⟩
            obtain ⟨u165, f1⟩ : ∃ u, a.tmps.getD 165 undef = u := ⟨_, rfl⟩
            obtain ⟨u166, f2⟩ : ∃ u, a.tmps.getD 166 undef = u := ⟨_, rfl⟩
            obtain ⟨u167, f3⟩ : ∃ u, a.tmps.getD 167 undef = u := ⟨_, rfl⟩
            obtain ⟨u168, f4⟩ : ∃ u, a.tmps.getD 168 undef = u := ⟨_, rfl⟩
            obtain ⟨u169, f5⟩ : ∃ u, a.tmps.getD 169 undef = u := ⟨_, rfl⟩
            obtain ⟨u170, f6⟩ : ∃ u, a.tmps.getD 170 undef = u := ⟨_, rfl⟩
            obtain ⟨u171, f7⟩ : ∃ u, a.tmps.getD 171 undef = u := ⟨_, rfl⟩
            obtain ⟨u172, f8⟩ : ∃ u, a.tmps.getD 172 undef = u := ⟨_, rfl⟩
            obtain ⟨u173, f9⟩ : ∃ u, a.tmps.getD 173 undef = u := ⟨_, rfl⟩
            obtain ⟨u174, f10⟩ : ∃ u, a.tmps.getD 174 undef = u := ⟨_, rfl⟩
            obtain ⟨u175, f11⟩ : ∃ u, a.tmps.getD 175 undef = u := ⟨_, rfl⟩
            obtain ⟨u176, f12⟩ : ∃ u, a.tmps.getD 176 undef = u := ⟨_, rfl⟩
            obtain ⟨u177, f13⟩ : ∃ u, a.tmps.getD 177 undef = u := ⟨_, rfl⟩
            obtain ⟨u178, f14⟩ : ∃ u, a.tmps.getD 178 undef = u := ⟨_, rfl⟩
            obtain ⟨u179, f15⟩ : ∃ u, a.tmps.getD 179 undef = u := ⟨_, rfl⟩
            obtain ⟨u180, f16⟩ : ∃ u, a.tmps.getD 180 undef = u := ⟨_, rfl⟩
            obtain ⟨u181, f17⟩ : ∃ u, a.tmps.getD 181 undef = u := ⟨_, rfl⟩
            obtain ⟨u182, f18⟩ : ∃ u, a.tmps.getD 182 undef = u := ⟨_, rfl⟩
            obtain ⟨u183, f19⟩ : ∃ u, a.tmps.getD 183 undef = u := ⟨_, rfl⟩
            obtain ⟨u184, f20⟩ : ∃ u, a.tmps.getD 184 undef = u := ⟨_, rfl⟩
            obtain ⟨u185, f21⟩ : ∃ u, a.tmps.getD 185 undef = u := ⟨_, rfl⟩
            have f22 : a.tmps.getD 186 undef = .bool false := he 22 (by decide)
            have hlit := hf.lit ((164, u164) :: (165, u165) :: (166, u166) :: (167, u167) :: (168, u168) :: (169, u169) :: (170, u170) :: (171, u171) :: (172, u172) :: (173, u173) :: (174, u174) :: (175, u175) :: (176, u176) :: (177, u177) :: (178, u178) :: (179, u179) :: (180, u180) :: (181, u181) :: (182, u182) :: (183, u183) :: (184, u184) :: (185, u185) :: (186, .bool false) :: []) (by kernel_rfl) ⟨f0, f1, f2, f3, f4, f5, f6, f7, f8, f9, f10, f11, f12, f13, f14, f15, f16, f17, f18, f19, f20, f21, f22, trivial⟩
            have hB := hf.bel
            clear he hf f0 f1 f2 f3 f4 f5 f6 f7 f8 f9 f10 f11 f12 f13 f14 f15 f16 f17 f18 f19 f20 f21 f22 
            subst hlit
            simp only [putAll_nil, putAll_cons, Act.put, List.setIfInBounds_toArray, List.set_cons_zero, List.set_cons_succ]
            simp only [List.drop_succ_cons, List.drop_zero]
            have HP9 := Lib.hid (HP'.out.bel hB)
            have HB9 := Lib.hid (HB'.out.trans (hB.mono HB'.out.size))
            clear hB
            go_wp2_with fail
            go_roundw
            case rel => exact ⟨i + 1, D', by omega, by go_num, HP9, HO', HB9⟩
            case measure => simp [intOf] <;> omega
      by_cases z4 : k = 4
      · subst z4
        go_upto_region 35 with (first
        | (go_at_call 21
           (with_reducible refine (c_Crash HP.out.dk m2 hm2).mono ?_)
           rintro e w9 ⟨rfl, hk9, f9a⟩
           have f9 := f9a.mono (S1 := fun k => k = p ∨ k = g ∨ k = mb) (fun k _ e => e)
           have HK := Lib.hid hk9
           have HR := Lib.hid (rkfr hne HP.out.rk f9)
           have HB := Lib.hid (pr_bel HB.out HG.out HG2.out f9 (by omega))
           have hx9 := heap_fr X8.out f9 (by have := HL.out; omega)
           clear e0 e1 e2 e8
           obtain ⟨e0, e1, e2, e8⟩ := cact5 hx9
           clear hk9 f9 f9a hx9)
        | (go_at_call 22
           (with_reducible refine (r_Crash HR.out m2 hm2).mono ?_)
           rintro e w10 ⟨rfl, hk10, f10a⟩
           have f10 := f10a.mono (S1 := fun k => k = q ∨ k = r) (fun k _ e => e)
           have HP' := Lib.hid (Pr.mk (dkfr hne HK.out f10) hk10 hne)
           have HB' := Lib.hid (pr_bel HB.out HG.out HG2.out f10 (by omega))
           clear e0 e1 e2 e8 hk10 f10 f10a HK HR)
        )
        have HOn : Hid ((D.crash m2).ops ≤ 1030 * (i + 1)) := Lib.hid (by have := HO.out; show D.ops ≤ _; omega)
        obtain ⟨D', hD'⟩ : ∃ D', D' = (D.crash m2) := ⟨_, rfl⟩
        rw [← hD'] at HP'
        have HO' : Hid (D'.ops ≤ 1030 * (i + 1)) := Lib.hid (by rw [hD']; exact HOn.out)
        clear hD' HOn HP
        have hGd := fun w (h : Dk w p g mb N D') => Dirty.c_GetE h
        have hGr := fun w (h : Rk w q r c' D') => r_dGet h
        obtain ⟨⟨l1, l2⟩, hl⟩ : ∃ r, latest D' 6 2 = r := ⟨_, rfl⟩
        rw [hl] at hGd hGr
        simp only at hGd hGr
        clear hl
        refine wp_region_phi (by kernel_rfl) 23 none (fun _ => false) (fun i_ v wz => match i_ with
          | 0 => v = .pointer (some ⟨p, 0, none⟩)
          | 1 => v = .int .u64 (l2 : Int)
          | 2 => v = .pointer (some ⟨q, 0, none⟩)
          | 3 => v = .int .u64 (l2 : Int)
          | 4 => v = .bool false
          | 5 => v = .bool false
          | 6 => v = .pointer (some ⟨p, 0, none⟩)
          | 7 => ∃ A3 c3, v = .slice A3 (img D').length c3 ∧ Byt wz A3 (img D').length c3 (img D')
          | 8 => v = .string ⟨(img D').toArray⟩
          | 9 => v = .pointer (some ⟨q, 0, none⟩)
          | 10 => ∃ A3 c3, v = .slice A3 (img D').length c3 ∧ Byt wz A3 (img D').length c3 (img D')
          | 11 => v = .string ⟨(img D').toArray⟩
          | 12 => v = .bool false
          | 13 => v = .bool false
          | 14 => v = .bool false
          | 15 => v = .pointer (some ⟨p, 0, none⟩)
          | 16 => v = .int .i64 (D'.ops : Int)
          | 17 => v = .pointer (some ⟨q, 0, none⟩)
          | 18 => v = .pointer (some ⟨q, 0, none⟩)
          | 19 => v = .pointer (some ⟨q, 3, none⟩)
          | 20 => v = .int .i64 (D'.ops : Int)
          | 21 => v = .bool false
          | 22 => v = .bool false
          | _ => True) (by kernel_rfl) ?_ ?_ ?_
        · (repeat' (first | exact allLt_zero | refine allLt_succ ?_ ?_))
          · exact fun _ _ _ h _ => h
          · exact fun _ _ _ h _ => h
          · exact fun _ _ _ h _ => h
          · exact fun _ _ _ h _ => h
          · exact fun _ _ _ h _ => h
          · exact fun _ _ _ h _ => h
          · exact fun _ _ _ h _ => h
          · intro v w1 w2 h hg
            rw [show kindRow _ _ = none from by kernel_rfl] at hg
            obtain ⟨A3, c3, rfl, hr⟩ := h
            exact ⟨A3, c3, rfl, hr.bel (bel_grown hg)⟩
          · exact fun _ _ _ h _ => h
          · exact fun _ _ _ h _ => h
          · intro v w1 w2 h hg
            rw [show kindRow _ _ = none from by kernel_rfl] at hg
            obtain ⟨A3, c3, rfl, hr⟩ := h
            exact ⟨A3, c3, rfl, hr.bel (bel_grown hg)⟩
          · exact fun _ _ _ h _ => h
          · exact fun _ _ _ h _ => h
          · exact fun _ _ _ h _ => h
          · exact fun _ _ _ h _ => h
          · exact fun _ _ _ h _ => h
          · exact fun _ _ _ h _ => h
          · exact fun _ _ _ h _ => h
          · exact fun _ _ _ h _ => h
          · exact fun _ _ _ h _ => h
          · exact fun _ _ _ h _ => h
          · exact fun _ _ _ h _ => h
          · exact fun _ _ _ h _ => h
        · (repeat' (first | exact allLt_zero | refine allLt_succ ?_ ?_))
          · intro a w' hf he
            have k5 : a.tmps.getD 5 undef = .pointer (some ⟨p, 0, none⟩) := hf.var (by kernel_rfl) rfl
            refine wpOp_step rfl (fun K hK => ?_)
            go_simp
            exact hK _ _ ⟨_, rfl, rfl, World.grownBy.refl _ _⟩
          · intro a w' hf he
            have f0 : a.tmps.getD 164 undef = .pointer (some ⟨p, 0, none⟩) := he 0 (by kernel_rfl)
            rw [show kindRow _ _ = none from by kernel_rfl] at hf
            refine wpOp_step rfl (fun K hK => ?_)
            go_simp
            refine (hGd _ (HP'.out.dk.bel hf.bel)).mono ?_
            rintro e w2 ⟨rfl, hb2⟩
            exact hK _ _ ⟨_, rfl, rfl, grown_bel hb2⟩
          · intro a w' hf he
            have k7 : a.tmps.getD 7 undef = .pointer (some ⟨q, 0, none⟩) := hf.var (by kernel_rfl) rfl
            refine wpOp_step rfl (fun K hK => ?_)
            go_simp
            exact hK _ _ ⟨_, rfl, rfl, World.grownBy.refl _ _⟩
          · intro a w' hf he
            have f2 : a.tmps.getD 166 undef = .pointer (some ⟨q, 0, none⟩) := he 2 (by kernel_rfl)
            rw [show kindRow _ _ = none from by kernel_rfl] at hf
            refine wpOp_step rfl (fun K hK => ?_)
            go_simp
            refine (hGr _ (HP'.out.rk.bel hf.bel)).mono ?_
            rintro e w2 ⟨rfl, hb2⟩
            exact hK _ _ ⟨_, rfl, rfl, grown_bel hb2⟩
          · intro a w' hf he
            have f1 : a.tmps.getD 165 undef = .int .u64 (l2 : Int) := he 1 (by kernel_rfl)
            have f3 : a.tmps.getD 167 undef = .int .u64 (l2 : Int) := he 3 (by kernel_rfl)
            refine wpOp_step rfl (fun K hK => ?_)
            go_simp
            exact hK _ _ ⟨_, rfl, rfl, World.grownBy.refl _ _⟩
          · intro a w' hf he
            have f4 : a.tmps.getD 168 undef = .bool false := he 4 (by kernel_rfl)
            refine wpOp_step rfl (fun K hK => ?_)
            go_simp
            exact hK _ _ ⟨_, rfl, rfl, World.grownBy.refl _ _⟩
          · intro a w' hf he
            have k5 : a.tmps.getD 5 undef = .pointer (some ⟨p, 0, none⟩) := hf.var (by kernel_rfl) rfl
            have f5 : a.tmps.getD 169 undef = .bool false := he 5 (by kernel_rfl)
            refine wpOp_run rfl rfl rfl f5 (fun K hK => ?_)
            go_simp
            exact hK _ _ ⟨_, rfl, rfl, World.grownBy.refl _ _⟩
          · intro a w' hf he
            have f6 : a.tmps.getD 170 undef = .pointer (some ⟨p, 0, none⟩) := he 6 (by kernel_rfl)
            have f5 : a.tmps.getD 169 undef = .bool false := he 5 (by kernel_rfl)
            rw [show kindRow _ _ = none from by kernel_rfl] at hf
            refine wpOp_run rfl rfl rfl f5 (fun K hK => ?_)
            go_simp
            refine (c_ImageE (HP'.out.dk.bel hf.bel)).mono ?_
            rintro e w2 ⟨A9, c9, rfl, ho9, hb9⟩
            exact hK _ _ ⟨_, rfl, ⟨_, _, rfl, ho9.rd⟩, grown_bel hb9⟩
          · intro a w' hf he
            obtain ⟨A7, c7, hv7, hr7⟩ := he 7 (by kernel_rfl)
            have f7 : a.tmps.getD 171 undef = _ := hv7
            have f5 : a.tmps.getD 169 undef = .bool false := he 5 (by kernel_rfl)
            rw [show kindRow _ _ = none from by kernel_rfl] at hf
            have hcv := run_str (P := Tryz.prog) w' 23 9 5 A7 (img D').length c7 (img D') Tryz.underlying23 Tryz.underlying5 Tryz.underlying9 hr7
            refine wpOp_run rfl rfl rfl f5 (fun K hK => ?_)
            go_simp
            exact hK _ _ ⟨_, rfl, rfl, World.grownBy.refl _ _⟩
          · intro a w' hf he
            have k7 : a.tmps.getD 7 undef = .pointer (some ⟨q, 0, none⟩) := hf.var (by kernel_rfl) rfl
            have f5 : a.tmps.getD 169 undef = .bool false := he 5 (by kernel_rfl)
            refine wpOp_run rfl rfl rfl f5 (fun K hK => ?_)
            go_simp
            exact hK _ _ ⟨_, rfl, rfl, World.grownBy.refl _ _⟩
          · intro a w' hf he
            have f9 : a.tmps.getD 173 undef = .pointer (some ⟨q, 0, none⟩) := he 9 (by kernel_rfl)
            have f5 : a.tmps.getD 169 undef = .bool false := he 5 (by kernel_rfl)
            rw [show kindRow _ _ = none from by kernel_rfl] at hf
            refine wpOp_run rfl rfl rfl f5 (fun K hK => ?_)
            go_simp
            refine (r_Image (HP'.out.rk.bel hf.bel)).mono ?_
            rintro e w2 ⟨A9, c9, rfl, ho9, hb9⟩
            exact hK _ _ ⟨_, rfl, ⟨_, _, rfl, ho9.rd⟩, grown_bel hb9⟩
          · intro a w' hf he
            obtain ⟨A10, c10, hv10, hr10⟩ := he 10 (by kernel_rfl)
            have f10 : a.tmps.getD 174 undef = _ := hv10
            have f5 : a.tmps.getD 169 undef = .bool false := he 5 (by kernel_rfl)
            rw [show kindRow _ _ = none from by kernel_rfl] at hf
            have hcv := run_str (P := Tryz.prog) w' 23 9 5 A10 (img D').length c10 (img D') Tryz.underlying23 Tryz.underlying5 Tryz.underlying9 hr10
            refine wpOp_run rfl rfl rfl f5 (fun K hK => ?_)
            go_simp
            exact hK _ _ ⟨_, rfl, rfl, World.grownBy.refl _ _⟩
          · intro a w' hf he
            have f8 : a.tmps.getD 172 undef = .string ⟨(img D').toArray⟩ := he 8 (by kernel_rfl)
            have f11 : a.tmps.getD 175 undef = .string ⟨(img D').toArray⟩ := he 11 (by kernel_rfl)
            have f5 : a.tmps.getD 169 undef = .bool false := he 5 (by kernel_rfl)
            refine wpOp_run rfl rfl rfl f5 (fun K hK => ?_)
            go_simp
            exact hK _ _ ⟨_, rfl, rfl, World.grownBy.refl _ _⟩
          · intro a w' hf he
            have f5 : a.tmps.getD 169 undef = .bool false := he 5 (by kernel_rfl)
            have f12 : a.tmps.getD 176 undef = .bool false := he 12 (by kernel_rfl)
            refine wpOp_step rfl (fun K hK => ?_)
            go_simp
            exact hK _ _ ⟨_, rfl, rfl, World.grownBy.refl _ _⟩
          · intro a w' hf he
            have f13 : a.tmps.getD 177 undef = .bool false := he 13 (by kernel_rfl)
            refine wpOp_step rfl (fun K hK => ?_)
            go_simp
            exact hK _ _ ⟨_, rfl, rfl, World.grownBy.refl _ _⟩
          · intro a w' hf he
            have k5 : a.tmps.getD 5 undef = .pointer (some ⟨p, 0, none⟩) := hf.var (by kernel_rfl) rfl
            have f14 : a.tmps.getD 178 undef = .bool false := he 14 (by kernel_rfl)
            refine wpOp_run rfl rfl rfl f14 (fun K hK => ?_)
            go_simp
            exact hK _ _ ⟨_, rfl, rfl, World.grownBy.refl _ _⟩
          · intro a w' hf he
            have f15 : a.tmps.getD 179 undef = .pointer (some ⟨p, 0, none⟩) := he 15 (by kernel_rfl)
            have f14 : a.tmps.getD 178 undef = .bool false := he 14 (by kernel_rfl)
            rw [show kindRow _ _ = none from by kernel_rfl] at hf
            refine wpOp_run rfl rfl rfl f14 (fun K hK => ?_)
            go_simp
            refine (c_Ops (HP'.out.dk.bel hf.bel)).mono ?_
            rintro e w2 ⟨rfl, rfl⟩
            exact hK _ _ ⟨_, rfl, rfl, World.grownBy.refl _ _⟩
          · intro a w' hf he
            have k7 : a.tmps.getD 7 undef = .pointer (some ⟨q, 0, none⟩) := hf.var (by kernel_rfl) rfl
            have f14 : a.tmps.getD 178 undef = .bool false := he 14 (by kernel_rfl)
            refine wpOp_run rfl rfl rfl f14 (fun K hK => ?_)
            go_simp
            exact hK _ _ ⟨_, rfl, rfl, World.grownBy.refl _ _⟩
          · intro a w' hf he
            have f17 : a.tmps.getD 181 undef = .pointer (some ⟨q, 0, none⟩) := he 17 (by kernel_rfl)
            have f14 : a.tmps.getD 178 undef = .bool false := he 14 (by kernel_rfl)
            refine wpOp_run rfl rfl rfl f14 (fun K hK => ?_)
            go_simp
            exact hK _ _ ⟨_, rfl, rfl, World.grownBy.refl _ _⟩
          · intro a w' hf he
            have f18 : a.tmps.getD 182 undef = .pointer (some ⟨q, 0, none⟩) := he 18 (by kernel_rfl)
            have f14 : a.tmps.getD 178 undef = .bool false := he 14 (by kernel_rfl)
            refine wpOp_run rfl rfl rfl f14 (fun K hK => ?_)
            go_simp
            exact hK _ _ ⟨_, rfl, rfl, World.grownBy.refl _ _⟩
          · intro a w' hf he
            have f19 : a.tmps.getD 183 undef = .pointer (some ⟨q, 3, none⟩) := he 19 (by kernel_rfl)
            have f14 : a.tmps.getD 178 undef = .bool false := he 14 (by kernel_rfl)
            rw [show kindRow _ _ = none from by kernel_rfl] at hf
            have dd := (HP'.out.rk.bel hf.bel).cells.2.2.2
            refine wpOp_run rfl rfl rfl f14 (fun K hK => ?_)
            go_simp
            exact hK _ _ ⟨_, rfl, rfl, World.grownBy.refl _ _⟩
          · intro a w' hf he
            have f16 : a.tmps.getD 180 undef = .int .i64 (D'.ops : Int) := he 16 (by kernel_rfl)
            have f20 : a.tmps.getD 184 undef = .int .i64 (D'.ops : Int) := he 20 (by kernel_rfl)
            have f14 : a.tmps.getD 178 undef = .bool false := he 14 (by kernel_rfl)
            refine wpOp_run rfl rfl rfl f14 (fun K hK => ?_)
            go_simp
            exact hK _ _ ⟨_, rfl, rfl, World.grownBy.refl _ _⟩
          · intro a w' hf he
            have f14 : a.tmps.getD 178 undef = .bool false := he 14 (by kernel_rfl)
            have f21 : a.tmps.getD 185 undef = .bool false := he 21 (by kernel_rfl)
            refine wpOp_step rfl (fun K hK => ?_)
            go_simp
            exact hK _ _ ⟨_, rfl, rfl, World.grownBy.refl _ _⟩
        · intro a w' hf he
          obtain ⟨u164, f0⟩ : ∃ u, a.tmps.getD 164 undef = u := ⟨_, rfl⟩
          obtain ⟨u165, f1⟩ : ∃ u, a.tmps.getD 165 undef = u := ⟨_, rfl⟩
          obtain ⟨u166, f2⟩ : ∃ u, a.tmps.getD 166 undef = u := ⟨_, rfl⟩
          obtain ⟨u167, f3⟩ : ∃ u, a.tmps.getD 167 undef = u := ⟨_, rfl⟩
          obtain ⟨u168, f4⟩ : ∃ u, a.tmps.getD 168 undef = u := ⟨_, rfl⟩
          obtain ⟨u169, f5⟩ : ∃ u, a.tmps.getD 169 undef = u := ⟨_, rfl⟩
          obtain ⟨u170, f6⟩ : ∃ u, a.tmps.getD 170 undef = u := ⟨_, rfl⟩
          obtain ⟨u171, f7⟩ : ∃ u, a.tmps.getD 171 undef = u := ⟨_, rfl⟩
          obtain ⟨u172, f8⟩ : ∃ u, a.tmps.getD 172 undef = u := ⟨_, rfl⟩
          obtain ⟨u173, f9⟩ : ∃ u, a.tmps.getD 173 undef = u := ⟨_, rfl⟩
          obtain ⟨u174, f10⟩ : ∃ u, a.tmps.getD 174 undef = u := ⟨_, rfl⟩
          obtain ⟨u175, f11⟩ : ∃ u, a.tmps.getD 175 undef = u := ⟨_, rfl⟩
          obtain ⟨u176, f12⟩ : ∃ u, a.tmps.getD 176 undef = u := ⟨_, rfl⟩
          obtain ⟨u177, f13⟩ : ∃ u, a.tmps.getD 177 undef = u := ⟨_, rfl⟩
          obtain ⟨u178, f14⟩ : ∃ u, a.tmps.getD 178 undef = u := ⟨_, rfl⟩
          obtain ⟨u179, f15⟩ : ∃ u, a.tmps.getD 179 undef = u := ⟨_, rfl⟩
          obtain ⟨u180, f16⟩ : ∃ u, a.tmps.getD 180 undef = u := ⟨_, rfl⟩
          obtain ⟨u181, f17⟩ : ∃ u, a.tmps.getD 181 undef = u := ⟨_, rfl⟩
          obtain ⟨u182, f18⟩ : ∃ u, a.tmps.getD 182 undef = u := ⟨_, rfl⟩
          obtain ⟨u183, f19⟩ : ∃ u, a.tmps.getD 183 undef = u := ⟨_, rfl⟩
          obtain ⟨u184, f20⟩ : ∃ u, a.tmps.getD 184 undef = u := ⟨_, rfl⟩
          obtain ⟨u185, f21⟩ : ∃ u, a.tmps.getD 185 undef = u := ⟨_, rfl⟩
          have f22 : a.tmps.getD 186 undef = .bool false := he 22 (by decide)
          have hlit := hf.lit ((164, u164) :: (165, u165) :: (166, u166) :: (167, u167) :: (168, u168) :: (169, u169) :: (170, u170) :: (171, u171) :: (172, u172) :: (173, u173) :: (174, u174) :: (175, u175) :: (176, u176) :: (177, u177) :: (178, u178) :: (179, u179) :: (180, u180) :: (181, u181) :: (182, u182) :: (183, u183) :: (184, u184) :: (185, u185) :: (186, .bool false) :: []) (by kernel_rfl) ⟨f0, f1, f2, f3, f4, f5, f6, f7, f8, f9, f10, f11, f12, f13, f14, f15, f16, f17, f18, f19, f20, f21, f22, trivial⟩
          have hB := hf.bel
          clear he hf f0 f1 f2 f3 f4 f5 f6 f7 f8 f9 f10 f11 f12 f13 f14 f15 f16 f17 f18 f19 f20 f21 f22 
          subst hlit
          simp only [putAll_nil, putAll_cons, Act.put, List.setIfInBounds_toArray, List.set_cons_zero, List.set_cons_succ]
          simp only [List.drop_succ_cons, List.drop_zero]
          have HP9 := Lib.hid (HP'.out.bel hB)
          have HB9 := Lib.hid (HB'.out.trans (hB.mono HB'.out.size))
          clear hB
          go_wp2_with fail
          go_roundw
          case rel => exact ⟨i + 1, D', by omega, by go_num, HP9, HO', HB9⟩
          case measure => simp [intOf] <;> omega
      by_cases z5 : k = 5
      · subst z5
        go_upto_region 35 with (first
        | (go_at_call 23
           (with_reducible refine (c_FuseD HP.out.dk av ha).mono ?_)
           rintro e w9 ⟨rfl, hk9, f9a⟩
           have f9 := f9a.mono (S1 := fun k => k = p ∨ k = g ∨ k = mb) (fun k _ e => .inl e)
           have HK := Lib.hid hk9
           have HR := Lib.hid (rkfr hne HP.out.rk f9)
           have HB := Lib.hid (pr_bel HB.out HG.out HG2.out f9 (by omega))
           have hx9 := heap_fr X8.out f9 (by have := HL.out; omega)
           clear e0 e1 e2 e8
           obtain ⟨e0, e1, e2, e8⟩ := cact5 hx9
           clear hk9 f9 f9a hx9)
        | (go_at_call 24
           (with_reducible refine (r_SetFuse HR.out av ha).mono ?_)
           rintro e w10 ⟨rfl, hk10, f10a⟩
           have f10 := f10a.mono (S1 := fun k => k = q ∨ k = r) (fun k _ e => .inl e)
           have HP' := Lib.hid (Pr.mk (dkfr hne HK.out f10) hk10 hne)
           have HB' := Lib.hid (pr_bel HB.out HG.out HG2.out f10 (by omega))
           clear e0 e1 e2 e8 hk10 f10 f10a HK HR)
        )
        have HOn : Hid ((D.setFuse av).ops ≤ 1030 * (i + 1)) := Lib.hid (by have := HO.out; show D.ops ≤ _; omega)
        obtain ⟨D', hD'⟩ : ∃ D', D' = (D.setFuse av) := ⟨_, rfl⟩
        rw [← hD'] at HP'
        have HO' : Hid (D'.ops ≤ 1030 * (i + 1)) := Lib.hid (by rw [hD']; exact HOn.out)
        clear hD' HOn HP
        have hGd := fun w (h : Dk w p g mb N D') => Dirty.c_GetE h
        have hGr := fun w (h : Rk w q r c' D') => r_dGet h
        obtain ⟨⟨l1, l2⟩, hl⟩ : ∃ r, latest D' 6 2 = r := ⟨_, rfl⟩
        rw [hl] at hGd hGr
        simp only at hGd hGr
        clear hl
        refine wp_region_phi (by kernel_rfl) 23 none (fun _ => false) (fun i_ v wz => match i_ with
          | 0 => v = .pointer (some ⟨p, 0, none⟩)
          | 1 => v = .int .u64 (l2 : Int)
          | 2 => v = .pointer (some ⟨q, 0, none⟩)
          | 3 => v = .int .u64 (l2 : Int)
          | 4 => v = .bool false
          | 5 => v = .bool false
          | 6 => v = .pointer (some ⟨p, 0, none⟩)
          | 7 => ∃ A3 c3, v = .slice A3 (img D').length c3 ∧ Byt wz A3 (img D').length c3 (img D')
          | 8 => v = .string ⟨(img D').toArray⟩
          | 9 => v = .pointer (some ⟨q, 0, none⟩)
          | 10 => ∃ A3 c3, v = .slice A3 (img D').length c3 ∧ Byt wz A3 (img D').length c3 (img D')
          | 11 => v = .string ⟨(img D').toArray⟩
          | 12 => v = .bool false
          | 13 => v = .bool false
          | 14 => v = .bool false
          | 15 => v = .pointer (some ⟨p, 0, none⟩)
          | 16 => v = .int .i64 (D'.ops : Int)
          | 17 => v = .pointer (some ⟨q, 0, none⟩)
          | 18 => v = .pointer (some ⟨q, 0, none⟩)
          | 19 => v = .pointer (some ⟨q, 3, none⟩)
          | 20 => v = .int .i64 (D'.ops : Int)
          | 21 => v = .bool false
          | 22 => v = .bool false
          | _ => True) (by kernel_rfl) ?_ ?_ ?_
        · (repeat' (first | exact allLt_zero | refine allLt_succ ?_ ?_))
          · exact fun _ _ _ h _ => h
          · exact fun _ _ _ h _ => h
          · exact fun _ _ _ h _ => h
          · exact fun _ _ _ h _ => h
          · exact fun _ _ _ h _ => h
          · exact fun _ _ _ h _ => h
          · exact fun _ _ _ h _ => h
          · intro v w1 w2 h hg
            rw [show kindRow _ _ = none from by kernel_rfl] at hg
            obtain ⟨A3, c3, rfl, hr⟩ := h
            exact ⟨A3, c3, rfl, hr.bel (bel_grown hg)⟩
          · exact fun _ _ _ h _ => h
          · exact fun _ _ _ h _ => h
          · intro v w1 w2 h hg
            rw [show kindRow _ _ = none from by kernel_rfl] at hg
            obtain ⟨A3, c3, rfl, hr⟩ := h
            exact ⟨A3, c3, rfl, hr.bel (bel_grown hg)⟩
          · exact fun _ _ _ h _ => h
          · exact fun _ _ _ h _ => h
          · exact fun _ _ _ h _ => h
          · exact fun _ _ _ h _ => h
          · exact fun _ _ _ h _ => h
          · exact fun _ _ _ h _ => h
          · exact fun _ _ _ h _ => h
          · exact fun _ _ _ h _ => h
          · exact fun _ _ _ h _ => h
          · exact fun _ _ _ h _ => h
          · exact fun _ _ _ h _ => h
          · exact fun _ _ _ h _ => h
        · (repeat' (first | exact allLt_zero | refine allLt_succ ?_ ?_))
          · intro a w' hf he
            have k5 : a.tmps.getD 5 undef = .pointer (some ⟨p, 0, none⟩) := hf.var (by kernel_rfl) rfl
            refine wpOp_step rfl (fun K hK => ?_)
            go_simp
            exact hK _ _ ⟨_, rfl, rfl, World.grownBy.refl _ _⟩
          · intro a w' hf he
            have f0 : a.tmps.getD 164 undef = .pointer (some ⟨p, 0, none⟩) := he 0 (by kernel_rfl)
            rw [show kindRow _ _ = none from by kernel_rfl] at hf
            refine wpOp_step rfl (fun K hK => ?_)
            go_simp
            refine (hGd _ (HP'.out.dk.bel hf.bel)).mono ?_
            rintro e w2 ⟨rfl, hb2⟩
            exact hK _ _ ⟨_, rfl, rfl, grown_bel hb2⟩
          · intro a w' hf he
            have k7 : a.tmps.getD 7 undef = .pointer (some ⟨q, 0, none⟩) := hf.var (by kernel_rfl) rfl
            refine wpOp_step rfl (fun K hK => ?_)
            go_simp
            exact hK _ _ ⟨_, rfl, rfl, World.grownBy.refl _ _⟩
          · intro a w' hf he
            have f2 : a.tmps.getD 166 undef = .pointer (some ⟨q, 0, none⟩) := he 2 (by kernel_rfl)
            rw [show kindRow _ _ = none from by kernel_rfl] at hf
            refine wpOp_step rfl (fun K hK => ?_)
            go_simp
            refine (hGr _ (HP'.out.rk.bel hf.bel)).mono ?_
            rintro e w2 ⟨rfl, hb2⟩
            exact hK _ _ ⟨_, rfl, rfl, grown_bel hb2⟩
          · intro a w' hf he
            have f1 : a.tmps.getD 165 undef = .int .u64 (l2 : Int) := he 1 (by kernel_rfl)
            have f3 : a.tmps.getD 167 undef = .int .u64 (l2 : Int) := he 3 (by kernel_rfl)
            refine wpOp_step rfl (fun K hK => ?_)
            go_simp
            exact hK _ _ ⟨_, rfl, rfl, World.grownBy.refl _ _⟩
          · intro a w' hf he
            have f4 : a.tmps.getD 168 undef = .bool false := he 4 (by kernel_rfl)
            refine wpOp_step rfl (fun K hK => ?_)
            go_simp
            exact hK _ _ ⟨_, rfl, rfl, World.grownBy.refl _ _⟩
          · intro a w' hf he
            have k5 : a.tmps.getD 5 undef = .pointer (some ⟨p, 0, none⟩) := hf.var (by kernel_rfl) rfl
            have f5 : a.tmps.getD 169 undef = .bool false := he 5 (by kernel_rfl)
            refine wpOp_run rfl rfl rfl f5 (fun K hK => ?_)
            go_simp
            exact hK _ _ ⟨_, rfl, rfl, World.grownBy.refl _ _⟩
          · intro a w' hf he
            have f6 : a.tmps.getD 170 undef = .pointer (some ⟨p, 0, none⟩) := he 6 (by kernel_rfl)
            have f5 : a.tmps.getD 169 undef = .bool false := he 5 (by kernel_rfl)
            rw [show kindRow _ _ = none from by kernel_rfl] at hf
            refine wpOp_run rfl rfl rfl f5 (fun K hK => ?_)
            go_simp
            refine (c_ImageE (HP'.out.dk.bel hf.bel)).mono ?_
            rintro e w2 ⟨A9, c9, rfl, ho9, hb9⟩
            exact hK _ _ ⟨_, rfl, ⟨_, _, rfl, ho9.rd⟩, grown_bel hb9⟩
          · intro a w' hf he
            obtain ⟨A7, c7, hv7, hr7⟩ := he 7 (by kernel_rfl)
            have f7 : a.tmps.getD 171 undef = _ := hv7
            have f5 : a.tmps.getD 169 undef = .bool false := he 5 (by kernel_rfl)
            rw [show kindRow _ _ = none from by kernel_rfl] at hf
            have hcv := run_str (P := Tryz.prog) w' 23 9 5 A7 (img D').length c7 (img D') Tryz.underlying23 Tryz.underlying5 Tryz.underlying9 hr7
            refine wpOp_run rfl rfl rfl f5 (fun K hK => ?_)
            go_simp
            exact hK _ _ ⟨_, rfl, rfl, World.grownBy.refl _ _⟩
          · intro a w' hf he
            have k7 : a.tmps.getD 7 undef = .pointer (some ⟨q, 0, none⟩) := hf.var (by kernel_rfl) rfl
            have f5 : a.tmps.getD 169 undef = .bool false := he 5 (by kernel_rfl)
            refine wpOp_run rfl rfl rfl f5 (fun K hK => ?_)
            go_simp
            exact hK _ _ ⟨_, rfl, rfl, World.grownBy.refl _ _⟩
          · intro a w' hf he
            have f9 : a.tmps.getD 173 undef = .pointer (some ⟨q, 0, none⟩) := he 9 (by kernel_rfl)
            have f5 : a.tmps.getD 169 undef = .bool false := he 5 (by kernel_rfl)
            rw [show kindRow _ _ = none from by kernel_rfl] at hf
            refine wpOp_run rfl rfl rfl f5 (fun K hK => ?_)
            go_simp
            refine (r_Image (HP'.out.rk.bel hf.bel)).mono ?_
            rintro e w2 ⟨A9, c9, rfl, ho9, hb9⟩
            exact hK _ _ ⟨_, rfl, ⟨_, _, rfl, ho9.rd⟩, grown_bel hb9⟩
          · intro a w' hf he
            obtain ⟨A10, c10, hv10, hr10⟩ := he 10 (by kernel_rfl)
            have f10 : a.tmps.getD 174 undef = _ := hv10
            have f5 : a.tmps.getD 169 undef = .bool false := he 5 (by kernel_rfl)
            rw [show kindRow _ _ = none from by kernel_rfl] at hf
            have hcv := run_str (P := Tryz.prog) w' 23 9 5 A10 (img D').length c10 (img D') Tryz.underlying23 Tryz.underlying5 Tryz.underlying9 hr10
            refine wpOp_run rfl rfl rfl f5 (fun K hK => ?_)
            go_simp
            exact hK _ _ ⟨_, rfl, rfl, World.grownBy.refl _ _⟩
          · intro a w' hf he
            have f8 : a.tmps.getD 172 undef = .string ⟨(img D').toArray⟩ := he 8 (by kernel_rfl)
            have f11 : a.tmps.getD 175 undef = .string ⟨(img D').toArray⟩ := he 11 (by kernel_rfl)
            have f5 : a.tmps.getD 169 undef = .bool false := he 5 (by kernel_rfl)
            refine wpOp_run rfl rfl rfl f5 (fun K hK => ?_)
            go_simp
            exact hK _ _ ⟨_, rfl, rfl, World.grownBy.refl _ _⟩
          · intro a w' hf he
            have f5 : a.tmps.getD 169 undef = .bool false := he 5 (by kernel_rfl)
            have f12 : a.tmps.getD 176 undef = .bool false := he 12 (by kernel_rfl)
            refine wpOp_step rfl (fun K hK => ?_)
            go_simp
            exact hK _ _ ⟨_, rfl, rfl, World.grownBy.refl _ _⟩
          · intro a w' hf he
            have f13 : a.tmps.getD 177 undef = .bool false := he 13 (by kernel_rfl)
            refine wpOp_step rfl (fun K hK => ?_)
            go_simp
            exact hK _ _ ⟨_, rfl, rfl, World.grownBy.refl _ _⟩
          · intro a w' hf he
            have k5 : a.tmps.getD 5 undef = .pointer (some ⟨p, 0, none⟩) := hf.var (by kernel_rfl) rfl
            have f14 : a.tmps.getD 178 undef = .bool false := he 14 (by kernel_rfl)
            refine wpOp_run rfl rfl rfl f14 (fun K hK => ?_)
            go_simp
            exact hK _ _ ⟨_, rfl, rfl, World.grownBy.refl _ _⟩
          · intro a w' hf he
            have f15 : a.tmps.getD 179 undef = .pointer (some ⟨p, 0, none⟩) := he 15 (by kernel_rfl)
            have f14 : a.tmps.getD 178 undef = .bool false := he 14 (by kernel_rfl)
            rw [show kindRow _ _ = none from by kernel_rfl] at hf
            refine wpOp_run rfl rfl rfl f14 (fun K hK => ?_)
            go_simp
            refine (c_Ops (HP'.out.dk.bel hf.bel)).mono ?_
            rintro e w2 ⟨rfl, rfl⟩
            exact hK _ _ ⟨_, rfl, rfl, World.grownBy.refl _ _⟩
          · intro a w' hf he
            have k7 : a.tmps.getD 7 undef = .pointer (some ⟨q, 0, none⟩) := hf.var (by kernel_rfl) rfl
            have f14 : a.tmps.getD 178 undef = .bool false := he 14 (by kernel_rfl)
            refine wpOp_run rfl rfl rfl f14 (fun K hK => ?_)
            go_simp
            exact hK _ _ ⟨_, rfl, rfl, World.grownBy.refl _ _⟩
          · intro a w' hf he
            have f17 : a.tmps.getD 181 undef = .pointer (some ⟨q, 0, none⟩) := he 17 (by kernel_rfl)
            have f14 : a.tmps.getD 178 undef = .bool false := he 14 (by kernel_rfl)
            refine wpOp_run rfl rfl rfl f14 (fun K hK => ?_)
            go_simp
            exact hK _ _ ⟨_, rfl, rfl, World.grownBy.refl _ _⟩
          · intro a w' hf he
            have f18 : a.tmps.getD 182 undef = .pointer (some ⟨q, 0, none⟩) := he 18 (by kernel_rfl)
            have f14 : a.tmps.getD 178 undef = .bool false := he 14 (by kernel_rfl)
            refine wpOp_run rfl rfl rfl f14 (fun K hK => ?_)
            go_simp
            exact hK _ _ ⟨_, rfl, rfl, World.grownBy.refl _ _⟩
          · intro a w' hf he
            have f19 : a.tmps.getD 183 undef = .pointer (some ⟨q, 3, none⟩) := he 19 (by kernel_rfl)
            have f14 : a.tmps.getD 178 undef = .bool false := he 14 (by kernel_rfl)
            rw [show kindRow _ _ = none from by kernel_rfl] at hf
            have dd := (HP'.out.rk.bel hf.bel).cells.2.2.2
            refine wpOp_run rfl rfl rfl f14 (fun K hK => ?_)
            go_simp
            exact hK _ _ ⟨_, rfl, rfl, World.grownBy.refl _ _⟩
          · intro a w' hf he
            have f16 : a.tmps.getD 180 undef = .int .i64 (D'.ops : Int) := he 16 (by kernel_rfl)
            have f20 : a.tmps.getD 184 undef = .int .i64 (D'.ops : Int) := he 20 (by kernel_rfl)
            have f14 : a.tmps.getD 178 undef = .bool false := he 14 (by kernel_rfl)
            refine wpOp_run rfl rfl rfl f14 (fun K hK => ?_)
            go_simp
            exact hK _ _ ⟨_, rfl, rfl, World.grownBy.refl _ _⟩
          · intro a w' hf he
            have f14 : a.tmps.getD 178 undef = .bool false := he 14 (by kernel_rfl)
            have f21 : a.tmps.getD 185 undef = .bool false := he 21 (by kernel_rfl)
            refine wpOp_step rfl (fun K hK => ?_)
            go_simp
            exact hK _ _ ⟨_, rfl, rfl, World.grownBy.refl _ _⟩
        · intro a w' hf he
          obtain ⟨u164, f0⟩ : ∃ u, a.tmps.getD 164 undef = u := ⟨_, rfl⟩
          obtain ⟨u165, f1⟩ : ∃ u, a.tmps.getD 165 undef = u := ⟨_, rfl⟩
          obtain ⟨u166, f2⟩ : ∃ u, a.tmps.getD 166 undef = u := ⟨_, rfl⟩
          obtain ⟨u167, f3⟩ : ∃ u, a.tmps.getD 167 undef = u := ⟨_, rfl⟩
          obtain ⟨u168, f4⟩ : ∃ u, a.tmps.getD 168 undef = u := ⟨_, rfl⟩
          obtain ⟨u169, f5⟩ : ∃ u, a.tmps.getD 169 undef = u := ⟨_, rfl⟩
          obtain ⟨u170, f6⟩ : ∃ u, a.tmps.getD 170 undef = u := ⟨_, rfl⟩
          obtain ⟨u171, f7⟩ : ∃ u, a.tmps.getD 171 undef = u := ⟨_, rfl⟩
          obtain ⟨u172, f8⟩ : ∃ u, a.tmps.getD 172 undef = u := ⟨_, rfl⟩
          obtain ⟨u173, f9⟩ : ∃ u, a.tmps.getD 173 undef = u := ⟨_, rfl⟩
          obtain ⟨u174, f10⟩ : ∃ u, a.tmps.getD 174 undef = u := ⟨_, rfl⟩
          obtain ⟨u175, f11⟩ : ∃ u, a.tmps.getD 175 undef = u := ⟨_, rfl⟩
          obtain ⟨u176, f12⟩ : ∃ u, a.tmps.getD 176 undef = u := ⟨_, rfl⟩
          obtain ⟨u177, f13⟩ : ∃ u, a.tmps.getD 177 undef = u := ⟨_, rfl⟩
          obtain ⟨u178, f14⟩ : ∃ u, a.tmps.getD 178 undef = u := ⟨_, rfl⟩
          obtain ⟨u179, f15⟩ : ∃ u, a.tmps.getD 179 undef = u := ⟨_, rfl⟩
          obtain ⟨u180, f16⟩ : ∃ u, a.tmps.getD 180 undef = u := ⟨_, rfl⟩
          obtain ⟨u181, f17⟩ : ∃ u, a.tmps.getD 181 undef = u := ⟨_, rfl⟩
          obtain ⟨u182, f18⟩ : ∃ u, a.tmps.getD 182 undef = u := ⟨_, rfl⟩
          obtain ⟨u183, f19⟩ : ∃ u, a.tmps.getD 183 undef = u := ⟨_, rfl⟩
          obtain ⟨u184, f20⟩ : ∃ u, a.tmps.getD 184 undef = u := ⟨_, rfl⟩
          obtain ⟨u185, f21⟩ : ∃ u, a.tmps.getD 185 undef = u := ⟨_, rfl⟩
          have f22 : a.tmps.getD 186 undef = .bool false := he 22 (by decide)
          have hlit := hf.lit ((164, u164) :: (165, u165) :: (166, u166) :: (167, u167) :: (168, u168) :: (169, u169) :: (170, u170) :: (171, u171) :: (172, u172) :: (173, u173) :: (174, u174) :: (175, u175) :: (176, u176) :: (177, u177) :: (178, u178) :: (179, u179) :: (180, u180) :: (181, u181) :: (182, u182) :: (183, u183) :: (184, u184) :: (185, u185) :: (186, .bool false) :: []) (by kernel_rfl) ⟨f0, f1, f2, f3, f4, f5, f6, f7, f8, f9, f10, f11, f12, f13, f14, f15, f16, f17, f18, f19, f20, f21, f22, trivial⟩
          have hB := hf.bel
          clear he hf f0 f1 f2 f3 f4 f5 f6 f7 f8 f9 f10 f11 f12 f13 f14 f15 f16 f17 f18 f19 f20 f21 f22 
          subst hlit
          simp only [putAll_nil, putAll_cons, Act.put, List.setIfInBounds_toArray, List.set_cons_zero, List.set_cons_succ]
          simp only [List.drop_succ_cons, List.drop_zero]
          have HP9 := Lib.hid (HP'.out.bel hB)
          have HB9 := Lib.hid (HB'.out.trans (hB.mono HB'.out.size))
          clear hB
          go_wp2_with fail
          go_roundw
          case rel => exact ⟨i + 1, D', by omega, by go_num, HP9, HO', HB9⟩
          case measure => simp [intOf] <;> omega
      have y0 : (k == 0) = false := by simpa using z0
      have y1 : (k == 1) = false := by simpa using z1
      have y2 : (k == 2) = false := by simpa using z2
      have y3 : (k == 3) = false := by simpa using z3
      have y4 : (k == 4) = false := by simpa using z4
      have y5 : (k == 5) = false := by simpa using z5
      go_upto_region 35 with fail
      have HP' := HP
      have HB' := HB
      have HOn : Hid (D.ops ≤ 1030 * (i + 1)) := Lib.hid (by have := HO.out; omega)
      clear e0 e1 e2 e8
      obtain ⟨D', hD'⟩ : ∃ D', D' = D := ⟨_, rfl⟩
      rw [← hD'] at HP'
      have HO' : Hid (D'.ops ≤ 1030 * (i + 1)) := Lib.hid (by rw [hD']; exact HOn.out)
      clear hD' HOn HP
      have hGd := fun w (h : Dk w p g mb N D') => Dirty.c_GetE h
      have hGr := fun w (h : Rk w q r c' D') => r_dGet h
      obtain ⟨⟨l1, l2⟩, hl⟩ : ∃ r, latest D' 6 2 = r := ⟨_, rfl⟩
      rw [hl] at hGd hGr
      simp only at hGd hGr
      clear hl
      refine wp_region_phi (by kernel_rfl) 23 none (fun _ => false) (fun i_ v wz => match i_ with
        | 0 => v = .pointer (some ⟨p, 0, none⟩)
        | 1 => v = .int .u64 (l2 : Int)
        | 2 => v = .pointer (some ⟨q, 0, none⟩)
        | 3 => v = .int .u64 (l2 : Int)
        | 4 => v = .bool false
        | 5 => v = .bool false
        | 6 => v = .pointer (some ⟨p, 0, none⟩)
        | 7 => ∃ A3 c3, v = .slice A3 (img D').length c3 ∧ Byt wz A3 (img D').length c3 (img D')
        | 8 => v = .string ⟨(img D').toArray⟩
        | 9 => v = .pointer (some ⟨q, 0, none⟩)
        | 10 => ∃ A3 c3, v = .slice A3 (img D').length c3 ∧ Byt wz A3 (img D').length c3 (img D')
        | 11 => v = .string ⟨(img D').toArray⟩
        | 12 => v = .bool false
        | 13 => v = .bool false
        | 14 => v = .bool false
        | 15 => v = .pointer (some ⟨p, 0, none⟩)
        | 16 => v = .int .i64 (D'.ops : Int)
        | 17 => v = .pointer (some ⟨q, 0, none⟩)
        | 18 => v = .pointer (some ⟨q, 0, none⟩)
        | 19 => v = .pointer (some ⟨q, 3, none⟩)
        | 20 => v = .int .i64 (D'.ops : Int)
        | 21 => v = .bool false
        | 22 => v = .bool false
        | _ => True) (by kernel_rfl) ?_ ?_ ?_
      · (repeat' (first | exact allLt_zero | refine allLt_succ ?_ ?_))
        · exact fun _ _ _ h _ => h
        · exact fun _ _ _ h _ => h
        · exact fun _ _ _ h _ => h
        · exact fun _ _ _ h _ => h
        · exact fun _ _ _ h _ => h
        · exact fun _ _ _ h _ => h
        · exact fun _ _ _ h _ => h
        · intro v w1 w2 h hg
          rw [show kindRow _ _ = none from by kernel_rfl] at hg
          obtain ⟨A3, c3, rfl, hr⟩ := h
          exact ⟨A3, c3, rfl, hr.bel (bel_grown hg)⟩
        · exact fun _ _ _ h _ => h
        · exact fun _ _ _ h _ => h
        · intro v w1 w2 h hg
          rw [show kindRow _ _ = none from by kernel_rfl] at hg
          obtain ⟨A3, c3, rfl, hr⟩ := h
          exact ⟨A3, c3, rfl, hr.bel (bel_grown hg)⟩
        · exact fun _ _ _ h _ => h
        · exact fun _ _ _ h _ => h
        · exact fun _ _ _ h _ => h
        · exact fun _ _ _ h _ => h
        · exact fun _ _ _ h _ => h
        · exact fun _ _ _ h _ => h
        · exact fun _ _ _ h _ => h
        · exact fun _ _ _ h _ => h
        · exact fun _ _ _ h _ => h
        · exact fun _ _ _ h _ => h
        · exact fun _ _ _ h _ => h
        · exact fun _ _ _ h _ => h
      · (repeat' (first | exact allLt_zero | refine allLt_succ ?_ ?_))
        · intro a w' hf he
          have k5 : a.tmps.getD 5 undef = .pointer (some ⟨p, 0, none⟩) := hf.var (by kernel_rfl) rfl
          refine wpOp_step rfl (fun K hK => ?_)
          go_simp
          exact hK _ _ ⟨_, rfl, rfl, World.grownBy.refl _ _⟩
        · intro a w' hf he
          have f0 : a.tmps.getD 164 undef = .pointer (some ⟨p, 0, none⟩) := he 0 (by kernel_rfl)
          rw [show kindRow _ _ = none from by kernel_rfl] at hf
          refine wpOp_step rfl (fun K hK => ?_)
          go_simp
          refine (hGd _ (HP'.out.dk.bel hf.bel)).mono ?_
          rintro e w2 ⟨rfl, hb2⟩
          exact hK _ _ ⟨_, rfl, rfl, grown_bel hb2⟩
        · intro a w' hf he
          have k7 : a.tmps.getD 7 undef = .pointer (some ⟨q, 0, none⟩) := hf.var (by kernel_rfl) rfl
          refine wpOp_step rfl (fun K hK => ?_)
          go_simp
          exact hK _ _ ⟨_, rfl, rfl, World.grownBy.refl _ _⟩
        · intro a w' hf he
          have f2 : a.tmps.getD 166 undef = .pointer (some ⟨q, 0, none⟩) := he 2 (by kernel_rfl)
          rw [show kindRow _ _ = none from by kernel_rfl] at hf
          refine wpOp_step rfl (fun K hK => ?_)
          go_simp
          refine (hGr _ (HP'.out.rk.bel hf.bel)).mono ?_
          rintro e w2 ⟨rfl, hb2⟩
          exact hK _ _ ⟨_, rfl, rfl, grown_bel hb2⟩
        · intro a w' hf he
          have f1 : a.tmps.getD 165 undef = .int .u64 (l2 : Int) := he 1 (by kernel_rfl)
          have f3 : a.tmps.getD 167 undef = .int .u64 (l2 : Int) := he 3 (by kernel_rfl)
          refine wpOp_step rfl (fun K hK => ?_)
          go_simp
          exact hK _ _ ⟨_, rfl, rfl, World.grownBy.refl _ _⟩
        · intro a w' hf he
          have f4 : a.tmps.getD 168 undef = .bool false := he 4 (by kernel_rfl)
          refine wpOp_step rfl (fun K hK => ?_)
          go_simp
          exact hK _ _ ⟨_, rfl, rfl, World.grownBy.refl _ _⟩
        · intro a w' hf he
          have k5 : a.tmps.getD 5 undef = .pointer (some ⟨p, 0, none⟩) := hf.var (by kernel_rfl) rfl
          have f5 : a.tmps.getD 169 undef = .bool false := he 5 (by kernel_rfl)
          refine wpOp_run rfl rfl rfl f5 (fun K hK => ?_)
          go_simp
          exact hK _ _ ⟨_, rfl, rfl, World.grownBy.refl _ _⟩
        · intro a w' hf he
          have f6 : a.tmps.getD 170 undef = .pointer (some ⟨p, 0, none⟩) := he 6 (by kernel_rfl)
          have f5 : a.tmps.getD 169 undef = .bool false := he 5 (by kernel_rfl)
          rw [show kindRow _ _ = none from by kernel_rfl] at hf
          refine wpOp_run rfl rfl rfl f5 (fun K hK => ?_)
          go_simp
          refine (c_ImageE (HP'.out.dk.bel hf.bel)).mono ?_
          rintro e w2 ⟨A9, c9, rfl, ho9, hb9⟩
          exact hK _ _ ⟨_, rfl, ⟨_, _, rfl, ho9.rd⟩, grown_bel hb9⟩
        · intro a w' hf he
          obtain ⟨A7, c7, hv7, hr7⟩ := he 7 (by kernel_rfl)
          have f7 : a.tmps.getD 171 undef = _ := hv7
          have f5 : a.tmps.getD 169 undef = .bool false := he 5 (by kernel_rfl)
          rw [show kindRow _ _ = none from by kernel_rfl] at hf
          have hcv := run_str (P := Tryz.prog) w' 23 9 5 A7 (img D').length c7 (img D') Tryz.underlying23 Tryz.underlying5 Tryz.underlying9 hr7
          refine wpOp_run rfl rfl rfl f5 (fun K hK => ?_)
          go_simp
          exact hK _ _ ⟨_, rfl, rfl, World.grownBy.refl _ _⟩
        · intro a w' hf he
          have k7 : a.tmps.getD 7 undef = .pointer (some ⟨q, 0, none⟩) := hf.var (by kernel_rfl) rfl
          have f5 : a.tmps.getD 169 undef = .bool false := he 5 (by kernel_rfl)
          refine wpOp_run rfl rfl rfl f5 (fun K hK => ?_)
          go_simp
          exact hK _ _ ⟨_, rfl, rfl, World.grownBy.refl _ _⟩
        · intro a w' hf he
          have f9 : a.tmps.getD 173 undef = .pointer (some ⟨q, 0, none⟩) := he 9 (by kernel_rfl)
          have f5 : a.tmps.getD 169 undef = .bool false := he 5 (by kernel_rfl)
          rw [show kindRow _ _ = none from by kernel_rfl] at hf
          refine wpOp_run rfl rfl rfl f5 (fun K hK => ?_)
          go_simp
          refine (r_Image (HP'.out.rk.bel hf.bel)).mono ?_
          rintro e w2 ⟨A9, c9, rfl, ho9, hb9⟩
          exact hK _ _ ⟨_, rfl, ⟨_, _, rfl, ho9.rd⟩, grown_bel hb9⟩
        · intro a w' hf he
          obtain ⟨A10, c10, hv10, hr10⟩ := he 10 (by kernel_rfl)
          have f10 : a.tmps.getD 174 undef = _ := hv10
          have f5 : a.tmps.getD 169 undef = .bool false := he 5 (by kernel_rfl)
          rw [show kindRow _ _ = none from by kernel_rfl] at hf
          have hcv := run_str (P := Tryz.prog) w' 23 9 5 A10 (img D').length c10 (img D') Tryz.underlying23 Tryz.underlying5 Tryz.underlying9 hr10
          refine wpOp_run rfl rfl rfl f5 (fun K hK => ?_)
          go_simp
          exact hK _ _ ⟨_, rfl, rfl, World.grownBy.refl _ _⟩
        · intro a w' hf he
          have f8 : a.tmps.getD 172 undef = .string ⟨(img D').toArray⟩ := he 8 (by kernel_rfl)
          have f11 : a.tmps.getD 175 undef = .string ⟨(img D').toArray⟩ := he 11 (by kernel_rfl)
          have f5 : a.tmps.getD 169 undef = .bool false := he 5 (by kernel_rfl)
          refine wpOp_run rfl rfl rfl f5 (fun K hK => ?_)
          go_simp
          exact hK _ _ ⟨_, rfl, rfl, World.grownBy.refl _ _⟩
        · intro a w' hf he
          have f5 : a.tmps.getD 169 undef = .bool false := he 5 (by kernel_rfl)
          have f12 : a.tmps.getD 176 undef = .bool false := he 12 (by kernel_rfl)
          refine wpOp_step rfl (fun K hK => ?_)
          go_simp
          exact hK _ _ ⟨_, rfl, rfl, World.grownBy.refl _ _⟩
        · intro a w' hf he
          have f13 : a.tmps.getD 177 undef = .bool false := he 13 (by kernel_rfl)
          refine wpOp_step rfl (fun K hK => ?_)
          go_simp
          exact hK _ _ ⟨_, rfl, rfl, World.grownBy.refl _ _⟩
        · intro a w' hf he
          have k5 : a.tmps.getD 5 undef = .pointer (some ⟨p, 0, none⟩) := hf.var (by kernel_rfl) rfl
          have f14 : a.tmps.getD 178 undef = .bool false := he 14 (by kernel_rfl)
          refine wpOp_run rfl rfl rfl f14 (fun K hK => ?_)
          go_simp
          exact hK _ _ ⟨_, rfl, rfl, World.grownBy.refl _ _⟩
        · intro a w' hf he
          have f15 : a.tmps.getD 179 undef = .pointer (some ⟨p, 0, none⟩) := he 15 (by kernel_rfl)
          have f14 : a.tmps.getD 178 undef = .bool false := he 14 (by kernel_rfl)
          rw [show kindRow _ _ = none from by kernel_rfl] at hf
          refine wpOp_run rfl rfl rfl f14 (fun K hK => ?_)
          go_simp
          refine (c_Ops (HP'.out.dk.bel hf.bel)).mono ?_
          rintro e w2 ⟨rfl, rfl⟩
          exact hK _ _ ⟨_, rfl, rfl, World.grownBy.refl _ _⟩
        · intro a w' hf he
          have k7 : a.tmps.getD 7 undef = .pointer (some ⟨q, 0, none⟩) := hf.var (by kernel_rfl) rfl
          have f14 : a.tmps.getD 178 undef = .bool false := he 14 (by kernel_rfl)
          refine wpOp_run rfl rfl rfl f14 (fun K hK => ?_)
          go_simp
          exact hK _ _ ⟨_, rfl, rfl, World.grownBy.refl _ _⟩
        · intro a w' hf he
          have f17 : a.tmps.getD 181 undef = .pointer (some ⟨q, 0, none⟩) := he 17 (by kernel_rfl)
          have f14 : a.tmps.getD 178 undef = .bool false := he 14 (by kernel_rfl)
          refine wpOp_run rfl rfl rfl f14 (fun K hK => ?_)
          go_simp
          exact hK _ _ ⟨_, rfl, rfl, World.grownBy.refl _ _⟩
        · intro a w' hf he
          have f18 : a.tmps.getD 182 undef = .pointer (some ⟨q, 0, none⟩) := he 18 (by kernel_rfl)
          have f14 : a.tmps.getD 178 undef = .bool false := he 14 (by kernel_rfl)
          refine wpOp_run rfl rfl rfl f14 (fun K hK => ?_)
          go_simp
          exact hK _ _ ⟨_, rfl, rfl, World.grownBy.refl _ _⟩
        · intro a w' hf he
          have f19 : a.tmps.getD 183 undef = .pointer (some ⟨q, 3, none⟩) := he 19 (by kernel_rfl)
          have f14 : a.tmps.getD 178 undef = .bool false := he 14 (by kernel_rfl)
          rw [show kindRow _ _ = none from by kernel_rfl] at hf
          have dd := (HP'.out.rk.bel hf.bel).cells.2.2.2
          refine wpOp_run rfl rfl rfl f14 (fun K hK => ?_)
          go_simp
          exact hK _ _ ⟨_, rfl, rfl, World.grownBy.refl _ _⟩
        · intro a w' hf he
          have f16 : a.tmps.getD 180 undef = .int .i64 (D'.ops : Int) := he 16 (by kernel_rfl)
          have f20 : a.tmps.getD 184 undef = .int .i64 (D'.ops : Int) := he 20 (by kernel_rfl)
          have f14 : a.tmps.getD 178 undef = .bool false := he 14 (by kernel_rfl)
          refine wpOp_run rfl rfl rfl f14 (fun K hK => ?_)
          go_simp
          exact hK _ _ ⟨_, rfl, rfl, World.grownBy.refl _ _⟩
        · intro a w' hf he
          have f14 : a.tmps.getD 178 undef = .bool false := he 14 (by kernel_rfl)
          have f21 : a.tmps.getD 185 undef = .bool false := he 21 (by kernel_rfl)
          refine wpOp_step rfl (fun K hK => ?_)
          go_simp
          exact hK _ _ ⟨_, rfl, rfl, World.grownBy.refl _ _⟩
      · intro a w' hf he
        obtain ⟨u164, f0⟩ : ∃ u, a.tmps.getD 164 undef = u := ⟨_, rfl⟩
        obtain ⟨u165, f1⟩ : ∃ u, a.tmps.getD 165 undef = u := ⟨_, rfl⟩
        obtain ⟨u166, f2⟩ : ∃ u, a.tmps.getD 166 undef = u := ⟨_, rfl⟩
        obtain ⟨u167, f3⟩ : ∃ u, a.tmps.getD 167 undef = u := ⟨_, rfl⟩
        obtain ⟨u168, f4⟩ : ∃ u, a.tmps.getD 168 undef = u := ⟨_, rfl⟩
        obtain ⟨u169, f5⟩ : ∃ u, a.tmps.getD 169 undef = u := ⟨_, rfl⟩
        obtain ⟨u170, f6⟩ : ∃ u, a.tmps.getD 170 undef = u := ⟨_, rfl⟩
        obtain ⟨u171, f7⟩ : ∃ u, a.tmps.getD 171 undef = u := ⟨_, rfl⟩
        obtain ⟨u172, f8⟩ : ∃ u, a.tmps.getD 172 undef = u := ⟨_, rfl⟩
        obtain ⟨u173, f9⟩ : ∃ u, a.tmps.getD 173 undef = u := ⟨_, rfl⟩
        obtain ⟨u174, f10⟩ : ∃ u, a.tmps.getD 174 undef = u := ⟨_, rfl⟩
        obtain ⟨u175, f11⟩ : ∃ u, a.tmps.getD 175 undef = u := ⟨_, rfl⟩
        obtain ⟨u176, f12⟩ : ∃ u, a.tmps.getD 176 undef = u := ⟨_, rfl⟩
        obtain ⟨u177, f13⟩ : ∃ u, a.tmps.getD 177 undef = u := ⟨_, rfl⟩
        obtain ⟨u178, f14⟩ : ∃ u, a.tmps.getD 178 undef = u := ⟨_, rfl⟩
        obtain ⟨u179, f15⟩ : ∃ u, a.tmps.getD 179 undef = u := ⟨_, rfl⟩
        obtain ⟨u180, f16⟩ : ∃ u, a.tmps.getD 180 undef = u := ⟨_, rfl⟩
        obtain ⟨u181, f17⟩ : ∃ u, a.tmps.getD 181 undef = u := ⟨_, rfl⟩
        obtain ⟨u182, f18⟩ : ∃ u, a.tmps.getD 182 undef = u := ⟨_, rfl⟩
        obtain ⟨u183, f19⟩ : ∃ u, a.tmps.getD 183 undef = u := ⟨_, rfl⟩
        obtain ⟨u184, f20⟩ : ∃ u, a.tmps.getD 184 undef = u := ⟨_, rfl⟩
        obtain ⟨u185, f21⟩ : ∃ u, a.tmps.getD 185 undef = u := ⟨_, rfl⟩
        have f22 : a.tmps.getD 186 undef = .bool false := he 22 (by decide)
        have hlit := hf.lit ((164, u164) :: (165, u165) :: (166, u166) :: (167, u167) :: (168, u168) :: (169, u169) :: (170, u170) :: (171, u171) :: (172, u172) :: (173, u173) :: (174, u174) :: (175, u175) :: (176, u176) :: (177, u177) :: (178, u178) :: (179, u179) :: (180, u180) :: (181, u181) :: (182, u182) :: (183, u183) :: (184, u184) :: (185, u185) :: (186, .bool false) :: []) (by kernel_rfl) ⟨f0, f1, f2, f3, f4, f5, f6, f7, f8, f9, f10, f11, f12, f13, f14, f15, f16, f17, f18, f19, f20, f21, f22, trivial⟩
        have hB := hf.bel
        clear he hf f0 f1 f2 f3 f4 f5 f6 f7 f8 f9 f10 f11 f12 f13 f14 f15 f16 f17 f18 f19 f20 f21 f22 
        subst hlit
        simp only [putAll_nil, putAll_cons, Act.put, List.setIfInBounds_toArray, List.set_cons_zero, List.set_cons_succ]
        simp only [List.drop_succ_cons, List.drop_zero]
        have HP9 := Lib.hid (HP'.out.bel hB)
        have HB9 := Lib.hid (HB'.out.trans (hB.mono HB'.out.size))
        clear hB
        go_wp2_with fail
        go_roundw
        case rel => exact ⟨i + 1, D', by omega, by go_num, HP9, HO', HB9⟩
        case measure => simp [intOf] <;> omega
    · obtain rfl : i = nl := by omega
      go_wp2_with (first
        | (go_at_call 39; (with_reducible refine (c_lives _).mono ?_); rintro e w5 ⟨rfl, b5⟩))
      go_ret
      exact ⟨rfl, HB.out.trans (b5.mono HB.out.size)⟩
end Go.Proofs.YtaldlapnhhhclaaGreat.Copying
