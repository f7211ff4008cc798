/- The law SuperActs, walked. Conditions: none. -/
import Derived.Test.YtpbcmghfhflkbaaB10
import Derived.Test.YtpbcmghfhflkbaaB11
set_option linter.unusedVariables false
set_option linter.unusedSimpArgs false
namespace Go.Proofs.Ytpbcmghfhflkbaa.Super
open Go.RowKit Tw Disk Slots
set_option maxHeartbeats 8000000
set_option maxRecDepth 100000
def actV (k a : Int) (m : Nat) (s : Sec) : List Value := [.int .i64 k, .int .i64 a, .int .u64 (m : Int)] ++ bytesV s
def ActL : List Leaf := [.int .i64, .int .i64, .int .u64, .int .u8, .int .u8, .int .u8, .int .u8, .int .u8, .int .u8, .int .u8, .int .u8, .int .u8, .int .u8, .int .u8, .int .u8, .int .u8, .int .u8, .int .u8, .int .u8]
theorem act_of {W : World} {r : List Value} (h : RowOk W ActL r) :
    ∃ (k a : Int) (m : Nat) (s : Sec), r = actV k a m s ∧ (-9223372036854775808 ≤ a ∧ a ≤ 9223372036854775807) ∧ m < 18446744073709551616 ∧ s.length = 16 := by
  obtain ⟨v1, r1, rfl, k1, h⟩ := rowOk_cons h
  obtain ⟨v2, r2, rfl, k2, h⟩ := rowOk_cons h
  obtain ⟨v3, r3, rfl, k3, h⟩ := rowOk_cons h
  obtain ⟨b, s, hb, rfl, h5⟩ := rowOk_u8s (m := 16) (L := []) h
  obtain rfl := rowOk_nil h5
  obtain ⟨z1, rfl, q1⟩ := leaf_i64 k1
  obtain ⟨z2, rfl, q2⟩ := leaf_i64 k2
  obtain ⟨z3, rfl, q3⟩ := leaf_u64 k3
  exact ⟨z1, z2, z3, b, by simp [actV], q2, q3, hb⟩
def act0 : Array Value := #[.int .i64 0, .int .i64 0, .int .u64 0, .int .u8 0, .int .u8 0, .int .u8 0, .int .u8 0, .int .u8 0, .int .u8 0, .int .u8 0, .int .u8 0, .int .u8 0, .int .u8 0, .int .u8 0, .int .u8 0, .int .u8 0, .int .u8 0, .int .u8 0, .int .u8 0]
theorem act_one {k a : Int} {m : Nat} {s : Sec} : ∀ v ∈ (actV k a m s).toArray, v.oneCell' = true := one_row (by simp [Value.oneCell'])
theorem act4 {W : World} {g : Nat} {k a : Int} {m : Nat} {s : Sec} {t : TypeId} (h : W.heap[g]? = some (.cells (actV k a m s).toArray t (0, 0))) :
    W.cell? ⟨g, 0, none⟩ = some (.int .i64 k) ∧ W.cell? ⟨g, 1, none⟩ = some (.int .i64 a) ∧ W.cell? ⟨g, 2, none⟩ = some (.int .u64 (m : Int)) :=
  ⟨cells_at h 0 _ rfl, cells_at h 1 _ rfl, cells_at h 2 _ rfl⟩
theorem act_sec {W : World} {g : Nat} {k a : Int} {m : Nat} {s : Sec} {t : TypeId} (h : W.heap[g]? = some (.cells (actV k a m s).toArray t (0, 0))) : ∀ j v, (bytesV s)[j]? = some v → W.cell? ((⟨g, 3, none⟩ : Addr).add j) = some v := cells_tail h rfl (by omega)
theorem snext_ops (d : Dsk) : (snext d).1.ops ≤ d.ops + 2 := by
  have h := sput_ops d 0 2 (boot d + 1)
  unfold snext
  (repeat' split) <;> first | exact h | exact Nat.le_add_right _ _
theorem w_SuperActs (n : Int) (A : Option Addr) (nl cb : Nat) (rows : List (List Value)) (w : World) (hr : SlRows w 19 A nl cb rows) (hro : ∀ (i : Nat) (r : List Value), rows[i]? = some r → RowOk w ActL r) :
    Calls Try.prog 5 #[.int .i64 n, .slice A nl cb] w fun e w' => e = .returned (.bool true) ∧ Below w.heap.size w w' := by
  have HBq := Lib.hid (Below.refl w.heap.size w)
  have Hr := Lib.hid hr
  have Hro := Lib.hid hro
  clear hr hro
  go_enter Try.func5, Try.ntmps5
  by_cases h1 : n < 1
  · skip
    go_wp2_with (first
      | (go_at_call 29; (with_reducible refine (c_lives _).mono ?_); rintro e w5 ⟨rfl, b5⟩))
    go_ret
    exact ⟨rfl, HBq.out.trans (b5.mono HBq.out.size)⟩
  by_cases h2 : 20 < n
  · skip
    go_wp2_with (first
      | (go_at_call 29; (with_reducible refine (c_lives _).mono ?_); rintro e w5 ⟨rfl, b5⟩))
    go_ret
    exact ⟨rfl, HBq.out.trans (b5.mono HBq.out.size)⟩
  by_cases h3 : 50 < nl
  · skip
    go_wp2_with (first
      | (go_at_call 29; (with_reducible refine (c_lives _).mono ?_); rintro e w5 ⟨rfl, b5⟩))
    go_ret
    exact ⟨rfl, HBq.out.trans (b5.mono HBq.out.size)⟩
  obtain ⟨N, rfl⟩ : ∃ q : Nat, n = (q : Int) := ⟨n.toNat, by omega⟩
  have hN1 : 1 ≤ N := by omega
  have hN2 : N ≤ 20 := by omega
  have hnl : nl ≤ 50 := by omega
  clear h1 h2 h3
  go_wp2_with (first
    | (go_at_call 16
       (with_reducible refine (c_dNewI' (N : Int) N rfl _ hN1 (by omega)).mono ?_)
       rintro e w1 ⟨p, g, mb, rfl, hk, hge, hb1⟩
       have HB := Lib.hid (HBq.out.trans (hb1.mono HBq.out.size))
       have HK := Lib.hid hk
       have HG : Hid (w.heap.size ≤ p ∧ w.heap.size ≤ g ∧ w.heap.size ≤ mb) := Lib.hid (by have := HBq.out.size; omega)
       clear hb1 hk hge)
    | (go_at_call 17
       (with_reducible refine (r_New N _ hN1 (by omega)).mono ?_)
       rintro e w2 ⟨q, r, c', rfl, hk2, hge2, hb2⟩
       have hlk := HK.out.lts
       have HP : Hid (Pr w2 p g mb N q r c' (Dsk.new N)) := Lib.hid ⟨HK.out.bel hb2, hk2, by omega⟩
       have HG2 : Hid (w.heap.size ≤ q ∧ w.heap.size ≤ r) := Lib.hid (by have := HB.out.size; omega)
       have HB := Lib.hid (HB.out.trans (hb2.mono HB.out.size))
       clear hk2 hge2 hb2 hlk HK))
  have hops0 : Hid ((Dsk.new N).ops ≤ 2 * 0) := Lib.hid (Nat.le_refl _)
  generalize Dsk.new N = D0 at *
  go_loopw [39] (fun v wr => ∃ (i : Nat) (D : Dsk), i ≤ nl ∧ v = .int .i64 (i : Int) ∧ Hid (Pr wr p g mb N q r c' D) ∧ Hid (D.ops ≤ 2 * i) ∧ Hid (Below w.heap.size w wr)) (fun v _ => nl - (intOf v).toNat)
  case atStart => exact ⟨0, D0, Nat.zero_le _, rfl, HP, hops0, HB⟩
  case round =>
    clear HP HB hops0
    obtain ⟨i, D, hi, rfl, HP, HO, HB⟩ := hrel
    by_cases hin : i < nl
    · obtain ⟨ad, rw_, rfl, hri, hrl, hcell⟩ := Hr.out.at hin
      obtain ⟨k, av, m2, s2, rfl, ha, hm2, hs2⟩ := act_of (Hro.out i rw_ hri)
      have Hs2 := Lib.hid hs2
      have ho : Hid (D.ops + 1 < 1000000000) := Lib.hid (by have := HO.out; omega)
      have hhb : ∀ j v, (actV k av m2 s2)[j]? = some v → wr.cell? ((ad.add (i * 19)).add j) = some v := fun j v hv => by
        have hc := hcell j v hv
        rw [HB.out.cell (block_lt_of_cell hc)]
        exact hc
      have Hcs := Lib.hid hhb
      have Hdl : Hid ((actV k av m2 s2).toArray.size = 19) := Lib.hid (by simpa using hrl)
      have HY := Lib.hid (heap_alloc_new wr (.cells act0 59))
      have HYB := Lib.hid ((Below.refl wr.heap.size wr).alloc (Nat.le_refl _) (.cells act0 59))
      have hlp := HP.out.dk.lts
      have hlr := HP.out.rk.lts
      have hne := HP.out.ne
      have HL := Lib.hid (And.intro hlp hlr)
      unfold act0 at HY HYB
      clear hri hrl hcell hhb hs2
      go_upto_block 2 with (first
        | (refine wpL_load_rd rfl 59 (.tmp 41) rfl (ad.add (i * 19)) rfl (actV k av m2 s2) _ Hcs.out Try.underlying59 rfl (by rw [← List.size_toArray, Hdl.out]; kernel_rfl) ?_)
        | (refine wpL_store_all rfl rfl 59 (.tmp 10) (.tmp 42) rfl _ rfl _ rfl _ _ HY.out (by rw [Hdl.out]; kernel_rfl) (by rw [Hdl.out]; rfl) act_one ?_
           intro w8 x8 g8
           have hb8 := HYB.out.grown g8 HYB.out.size (by rintro k ⟨⟩; exact Nat.le_refl _)
           have HP := Lib.hid (HP.out.bel hb8)
           have HB := Lib.hid (HB.out.trans (hb8.mono HB.out.size))
           obtain ⟨e0, e1, e2⟩ := act4 x8
           have X8 := Lib.hid x8
           clear x8 g8 HY HYB hb8 Hcs)
        )
      have hsz8 := HB.out.size
      have hxl := heap_lt X8.out
      have hpl := HL.out
      generalize wr.heap.size = Bx at *
      by_cases z0 : k = 0
      · subst z0
        have hnd := fun w (h : Dk w p g mb N D) => c_NextE h ho.out
        have hnr := fun w (h : Rk w q r c' D) => r_Next h ho.out
        have hno := snext_ops D
        obtain ⟨⟨D2, m1, er1⟩, hsn⟩ : ∃ r, snext D = r := ⟨_, rfl⟩
        rw [hsn] at hnd hnr hno
        simp only at hnd hnr hno
        go_upto_region 23 with (first
        | (go_at_call 30
           (with_reducible refine (hnd _ HP.out.dk).mono ?_)
           rintro e w9 ⟨rfl, hk9, f9a⟩
           have f9 := f9a.mono (S1 := fun k => k = p ∨ k = g ∨ k = mb) (fun k _ e => e)
           have HK := Lib.hid hk9
           have HR := Lib.hid (rkfr hne HP.out.rk f9)
           have HB := Lib.hid (pr_bel HB.out HG.out HG2.out f9 (by omega))
           have hx9 := heap_fr X8.out f9 (by have := HL.out; omega)
           clear e0 e1 e2
           obtain ⟨e0, e1, e2⟩ := act4 hx9
           have HX9 := Lib.hid hx9
           clear hk9 f9 f9a hx9)
        | (go_at_call 31
           (with_reducible refine (hnr _ HR.out).mono ?_)
           rintro e w10 ⟨rfl, hk10, f10a⟩
           have f10 := f10a.mono (S1 := fun k => k = q ∨ k = r) (fun k _ e => e)
           have HP' := Lib.hid (Pr.mk (dkfr hne HK.out f10) hk10 hne)
           have HB' := Lib.hid (pr_bel HB.out HG.out HG2.out f10 (by omega))
           clear e0 e1 e2 hk10 f10 f10a HK HR)
        )
        have HOn : Hid (D2.ops ≤ 2 * (i + 1)) := Lib.hid (by have := HO.out; omega)
        clear hnd hnr hsn
        obtain ⟨D', hD'⟩ : ∃ D', D' = D2 := ⟨_, rfl⟩
        rw [← hD'] at HP'
        have HO' : Hid (D'.ops ≤ 2 * (i + 1)) := Lib.hid (by rw [hD']; exact HOn.out)
        clear hD' HOn HP
        have hLd := fun w (h : Dk w p g mb N D') => c_BootE h
        have hLr := fun w (h : Rk w q r c' D') => r_Boot h
        generalize boot D' = bt at *
        go_wp2_with (first
          | (go_at_call 32
             (with_reducible refine (hLd _ HP'.out.dk).mono ?_)
             rintro e w20 ⟨rfl, hb20⟩
             have HP' := Lib.hid (HP'.out.bel hb20)
             have HB' := Lib.hid (HB'.out.trans (hb20.mono HB'.out.size))
             clear hb20 hLd)
          | (go_at_call 33
             (with_reducible refine (hLr _ HP'.out.rk).mono ?_)
             rintro e w21 ⟨rfl, hb21⟩
             have HP' := Lib.hid (HP'.out.bel hb21)
             have HB' := Lib.hid (HB'.out.trans (hb21.mono HB'.out.size))
             clear hb21 hLr))
        go_roundw
        case rel => exact ⟨i + 1, D', by omega, by go_num, HP', HO', HB'⟩
        case measure => simp [intOf] <;> omega
      by_cases z1 : k = 1
      · subst z1
        go_upto_region 23 with (first
        | (go_at_call 20
           (with_reducible refine (c_Crash HP.out.dk m2 hm2).mono ?_)
           rintro e w9 ⟨rfl, hk9, f9a⟩
           have f9 := f9a.mono (S1 := fun k => k = p ∨ k = g ∨ k = mb) (fun k _ e => e)
           have HK := Lib.hid hk9
           have HR := Lib.hid (rkfr hne HP.out.rk f9)
           have HB := Lib.hid (pr_bel HB.out HG.out HG2.out f9 (by omega))
           have hx9 := heap_fr X8.out f9 (by have := HL.out; omega)
           clear e0 e1 e2
           obtain ⟨e0, e1, e2⟩ := act4 hx9
           have HX9 := Lib.hid hx9
           clear hk9 f9 f9a hx9)
        | (go_at_call 21
           (with_reducible refine (r_Crash HR.out m2 hm2).mono ?_)
           rintro e w10 ⟨rfl, hk10, f10a⟩
           have f10 := f10a.mono (S1 := fun k => k = q ∨ k = r) (fun k _ e => e)
           have HP' := Lib.hid (Pr.mk (dkfr hne HK.out f10) hk10 hne)
           have HB' := Lib.hid (pr_bel HB.out HG.out HG2.out f10 (by omega))
           clear e0 e1 e2 hk10 f10 f10a HK HR)
        )
        have HOn : Hid ((D.crash m2).ops ≤ 2 * (i + 1)) := Lib.hid (by have := HO.out; show D.ops ≤ _; omega)
        obtain ⟨D', hD'⟩ : ∃ D', D' = (D.crash m2) := ⟨_, rfl⟩
        rw [← hD'] at HP'
        have HO' : Hid (D'.ops ≤ 2 * (i + 1)) := Lib.hid (by rw [hD']; exact HOn.out)
        clear hD' HOn HP
        have hLd := fun w (h : Dk w p g mb N D') => c_BootE h
        have hLr := fun w (h : Rk w q r c' D') => r_Boot h
        generalize boot D' = bt at *
        go_wp2_with (first
          | (go_at_call 32
             (with_reducible refine (hLd _ HP'.out.dk).mono ?_)
             rintro e w20 ⟨rfl, hb20⟩
             have HP' := Lib.hid (HP'.out.bel hb20)
             have HB' := Lib.hid (HB'.out.trans (hb20.mono HB'.out.size))
             clear hb20 hLd)
          | (go_at_call 33
             (with_reducible refine (hLr _ HP'.out.rk).mono ?_)
             rintro e w21 ⟨rfl, hb21⟩
             have HP' := Lib.hid (HP'.out.bel hb21)
             have HB' := Lib.hid (HB'.out.trans (hb21.mono HB'.out.size))
             clear hb21 hLr))
        go_roundw
        case rel => exact ⟨i + 1, D', by omega, by go_num, HP', HO', HB'⟩
        case measure => simp [intOf] <;> omega
      by_cases z2 : k = 2
      · subst z2
        go_upto_region 23 with (first
        | (go_at_call 22
           (with_reducible refine (c_FuseD HP.out.dk av ha).mono ?_)
           rintro e w9 ⟨rfl, hk9, f9a⟩
           have f9 := f9a.mono (S1 := fun k => k = p ∨ k = g ∨ k = mb) (fun k _ e => .inl e)
           have HK := Lib.hid hk9
           have HR := Lib.hid (rkfr hne HP.out.rk f9)
           have HB := Lib.hid (pr_bel HB.out HG.out HG2.out f9 (by omega))
           have hx9 := heap_fr X8.out f9 (by have := HL.out; omega)
           clear e0 e1 e2
           obtain ⟨e0, e1, e2⟩ := act4 hx9
           have HX9 := Lib.hid hx9
           clear hk9 f9 f9a hx9)
        | (go_at_call 23
           (with_reducible refine (r_SetFuse HR.out av ha).mono ?_)
           rintro e w10 ⟨rfl, hk10, f10a⟩
           have f10 := f10a.mono (S1 := fun k => k = q ∨ k = r) (fun k _ e => .inl e)
           have HP' := Lib.hid (Pr.mk (dkfr hne HK.out f10) hk10 hne)
           have HB' := Lib.hid (pr_bel HB.out HG.out HG2.out f10 (by omega))
           clear e0 e1 e2 hk10 f10 f10a HK HR)
        )
        have HOn : Hid ((D.setFuse av).ops ≤ 2 * (i + 1)) := Lib.hid (by have := HO.out; show D.ops ≤ _; omega)
        obtain ⟨D', hD'⟩ : ∃ D', D' = (D.setFuse av) := ⟨_, rfl⟩
        rw [← hD'] at HP'
        have HO' : Hid (D'.ops ≤ 2 * (i + 1)) := Lib.hid (by rw [hD']; exact HOn.out)
        clear hD' HOn HP
        have hLd := fun w (h : Dk w p g mb N D') => c_BootE h
        have hLr := fun w (h : Rk w q r c' D') => r_Boot h
        generalize boot D' = bt at *
        go_wp2_with (first
          | (go_at_call 32
             (with_reducible refine (hLd _ HP'.out.dk).mono ?_)
             rintro e w20 ⟨rfl, hb20⟩
             have HP' := Lib.hid (HP'.out.bel hb20)
             have HB' := Lib.hid (HB'.out.trans (hb20.mono HB'.out.size))
             clear hb20 hLd)
          | (go_at_call 33
             (with_reducible refine (hLr _ HP'.out.rk).mono ?_)
             rintro e w21 ⟨rfl, hb21⟩
             have HP' := Lib.hid (HP'.out.bel hb21)
             have HB' := Lib.hid (HB'.out.trans (hb21.mono HB'.out.size))
             clear hb21 hLr))
        go_roundw
        case rel => exact ⟨i + 1, D', by omega, by go_num, HP', HO', HB'⟩
        case measure => simp [intOf] <;> omega
      by_cases z3 : k = 3
      · subst z3
        have Es := Lib.hid (act_sec X8.out)
        go_upto_region 23 with (first
        | (refine wpL_load_rd rfl 35 (.tmp 90) rfl ⟨Bx, 3, none⟩ rfl (bytesV s2) _ Es.out Try.underlying35 rfl (by rw [bytesV_length, Hs2.out]; kernel_rfl) ?_)
        | (refine wpL_load_rd rfl 35 (.tmp 96) rfl ⟨Bx, 3, none⟩ rfl (bytesV s2) _ (act_sec HX9.out) Try.underlying35 rfl (by rw [bytesV_length, Hs2.out]; kernel_rfl) ?_)
        | (go_at_call 24
           (with_reducible refine (c_dWriteP HP.out.dk (Nat.lt_of_le_of_lt (Nat.le_succ _) ho.out) av ha s2 Hs2.out).mono ?_)
           rintro e w9 ⟨rfl, hk9, f9a⟩
           have f9 := f9a.mono (S1 := fun k => k = p ∨ k = g ∨ k = mb) (fun k _ e => e)
           have HK := Lib.hid hk9
           have HR := Lib.hid (rkfr hne HP.out.rk f9)
           have HB := Lib.hid (pr_bel HB.out HG.out HG2.out f9 (by omega))
           have hx9 := heap_fr X8.out f9 (by have := HL.out; omega)
           clear e0 e1 e2
           obtain ⟨e0, e1, e2⟩ := act4 hx9
           have HX9 := Lib.hid hx9
           clear hk9 f9 f9a hx9)
        | (go_at_call 25
           (with_reducible refine (r_Write HR.out (Nat.lt_of_le_of_lt (Nat.le_succ _) ho.out) av s2 Hs2.out).mono ?_)
           rintro e w10 ⟨rfl, hk10, f10a⟩
           have f10 := f10a.mono (S1 := fun k => k = q ∨ k = r) (fun k _ e => e)
           have HP' := Lib.hid (Pr.mk (dkfr hne HK.out f10) hk10 hne)
           have HB' := Lib.hid (pr_bel HB.out HG.out HG2.out f10 (by omega))
           clear e0 e1 e2 hk10 f10 f10a HK HR)
        )
        have HOn : Hid ((D.write av s2).1.ops ≤ 2 * (i + 1)) := Lib.hid (by have := (write_facts D av s2).1; have := HO.out; omega)
        obtain ⟨D', hD'⟩ : ∃ D', D' = (D.write av s2).1 := ⟨_, rfl⟩
        rw [← hD'] at HP'
        have HO' : Hid (D'.ops ≤ 2 * (i + 1)) := Lib.hid (by rw [hD']; exact HOn.out)
        clear hD' HOn HP
        have hLd := fun w (h : Dk w p g mb N D') => c_BootE h
        have hLr := fun w (h : Rk w q r c' D') => r_Boot h
        generalize boot D' = bt at *
        go_wp2_with (first
          | (go_at_call 32
             (with_reducible refine (hLd _ HP'.out.dk).mono ?_)
             rintro e w20 ⟨rfl, hb20⟩
             have HP' := Lib.hid (HP'.out.bel hb20)
             have HB' := Lib.hid (HB'.out.trans (hb20.mono HB'.out.size))
             clear hb20 hLd)
          | (go_at_call 33
             (with_reducible refine (hLr _ HP'.out.rk).mono ?_)
             rintro e w21 ⟨rfl, hb21⟩
             have HP' := Lib.hid (HP'.out.bel hb21)
             have HB' := Lib.hid (HB'.out.trans (hb21.mono HB'.out.size))
             clear hb21 hLr))
        go_roundw
        case rel => exact ⟨i + 1, D', by omega, by go_num, HP', HO', HB'⟩
        case measure => simp [intOf] <;> omega
      have y0 : (k == 0) = false := by simpa using z0
      have y1 : (k == 1) = false := by simpa using z1
      have y2 : (k == 2) = false := by simpa using z2
      have y3 : (k == 3) = false := by simpa using z3
      go_upto_region 23 with fail
      have HP' := HP
      have HB' := HB
      have HOn : Hid (D.ops ≤ 2 * (i + 1)) := Lib.hid (by have := HO.out; omega)
      clear e0 e1 e2
      obtain ⟨D', hD'⟩ : ∃ D', D' = D := ⟨_, rfl⟩
      rw [← hD'] at HP'
      have HO' : Hid (D'.ops ≤ 2 * (i + 1)) := Lib.hid (by rw [hD']; exact HOn.out)
      clear hD' HOn HP
      have hLd := fun w (h : Dk w p g mb N D') => c_BootE h
      have hLr := fun w (h : Rk w q r c' D') => r_Boot h
      generalize boot D' = bt at *
      go_wp2_with (first
        | (go_at_call 32
           (with_reducible refine (hLd _ HP'.out.dk).mono ?_)
           rintro e w20 ⟨rfl, hb20⟩
           have HP' := Lib.hid (HP'.out.bel hb20)
           have HB' := Lib.hid (HB'.out.trans (hb20.mono HB'.out.size))
           clear hb20 hLd)
        | (go_at_call 33
           (with_reducible refine (hLr _ HP'.out.rk).mono ?_)
           rintro e w21 ⟨rfl, hb21⟩
           have HP' := Lib.hid (HP'.out.bel hb21)
           have HB' := Lib.hid (HB'.out.trans (hb21.mono HB'.out.size))
           clear hb21 hLr))
      go_roundw
      case rel => exact ⟨i + 1, D', by omega, by go_num, HP', HO', HB'⟩
      case measure => simp [intOf] <;> omega
    · obtain rfl : i = nl := by omega
      go_wp2_with (first
        | (go_at_call 29; (with_reducible refine (c_lives _).mono ?_); rintro e w5 ⟨rfl, b5⟩))
      go_ret
      exact ⟨rfl, HB.out.trans (b5.mono HB.out.size)⟩
end Go.Proofs.Ytpbcmghfhflkbaa.Super
