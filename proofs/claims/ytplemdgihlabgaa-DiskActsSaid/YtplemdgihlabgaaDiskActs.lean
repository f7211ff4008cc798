/- The law DiskActs, walked. Conditions: none. -/
import Derived.Test.YtplemdgihlabgaaDiskAlike
set_option linter.unusedVariables false
set_option linter.unusedSimpArgs false
namespace Go.Proofs.Ytplemdgihlabgaa.Disk
open Go.RowKit Tw
set_option maxHeartbeats 8000000
set_option maxRecDepth 100000
theorem c_dNew_bad (n : Int) (hn : n < 1 ∨ 1024 < n) (w : World) : Calls Try.prog 27 #[.int .i64 n] w fun e w' => e = .returned (.tuple #[.pointer none, .int .i64 2]) ∧ w = w' := by
  by_cases h1 : n < 1
  · go_enter Try.func27, Try.ntmps27
    go_wp2_with fail
    go_ret2
    exact ⟨rfl, rfl⟩
  · have h2 : 1024 < n := by omega
    go_enter Try.func27, Try.ntmps27
    go_wp2_with fail
    go_ret2
    exact ⟨rfl, rfl⟩
theorem pr_new {w w' : World} {p g mb c q r c' p' g' mb' cc : Nat} {D : Dsk} (hA : Apart p' g' mb' q r ∧ (p' ≠ p ∧ p' ≠ g ∧ p' ≠ mb) ∧ (g' ≠ p ∧ g' ≠ g ∧ g' ≠ mb) ∧ (mb' ≠ p ∧ mb' ≠ g ∧ mb' ≠ mb)) (hk : Dk w p' g' mb' cc D) (hp : Pr w p g mb c q r c' D) (hf : Fr (fun k => k = p ∨ k = g ∨ k = mb) w w') : Pr w' p' g' mb' cc q r c' D :=
  ⟨hk.fr hf (by omega) (by omega) (by omega), rkfr hp.ne hp.rk hf, hA.1⟩
theorem PS_below {w0 w w' : World} {p g mb q r : Nat} (hB : Below w0.heap.size w0 w) (h : w0.heap.size ≤ p ∧ w0.heap.size ≤ g ∧ w0.heap.size ≤ mb) (h2 : w0.heap.size ≤ q ∧ w0.heap.size ≤ r) (f : Fr (PS p g mb q r) w w') : Below w0.heap.size w0 w' :=
  hB.trans (f.bel (fun k e => by unfold PS at e; omega) hB.size)
theorem w_DiskActs (n : Int) (A : Option Addr) (nl cb : Nat) (rows : List (List Value)) (w : World) (hn : -9223372036854775808 ≤ n ∧ n ≤ 9223372036854775807) (hr : SlRows w 19 A nl cb rows) (hro : ∀ (i : Nat) (r : List Value), rows[i]? = some r → RowOk w Keep r) :
    Calls Try.prog 6 #[.int .i64 n, .slice A nl cb] w fun e w' => e = .returned (.bool true) ∧ Below w.heap.size w w' := by
  have Hr := Lib.hid hr
  have Hro := Lib.hid hro
  clear hr hro
  by_cases h1 : 70 < n ∧ n ≤ 1024
  · have h1a := h1.1
    have h1b := h1.2
    go_enter Try.func6, Try.ntmps6
    go_wp2_with (first
      | (go_at_call 27; (with_reducible refine (c_dNew_bad n (by omega) _).mono ?_); rintro e w' ⟨rfl, rfl⟩)
      | (go_at_call 28; (with_reducible refine (r_New_bad n (by omega) _).mono ?_); rintro e w' ⟨rfl, rfl⟩)
      | (go_at_call 19; (with_reducible refine (c_Made_nil _).mono ?_); rintro e w' ⟨rfl, rfl⟩)
      | (go_at_call 26; (with_reducible refine (c_lives _).mono ?_); rintro e w5 ⟨rfl, b5⟩))
    go_ret
    exact ⟨rfl, b5⟩
  · by_cases h2 : 60 < nl
    · by_cases h3 : 70 < n
      · have h3b : 1024 < n := by omega
        go_enter Try.func6, Try.ntmps6
        go_wp2_with (first
          | (go_at_call 27; (with_reducible refine (c_dNew_bad n (by omega) _).mono ?_); rintro e w' ⟨rfl, rfl⟩)
          | (go_at_call 28; (with_reducible refine (r_New_bad n (by omega) _).mono ?_); rintro e w' ⟨rfl, rfl⟩)
          | (go_at_call 19; (with_reducible refine (c_Made_nil _).mono ?_); rintro e w' ⟨rfl, rfl⟩)
          | (go_at_call 26; (with_reducible refine (c_lives _).mono ?_); rintro e w5 ⟨rfl, b5⟩))
        go_ret
        exact ⟨rfl, b5⟩
      · skip
        go_enter Try.func6, Try.ntmps6
        go_wp2_with (first
          | (go_at_call 27; (with_reducible refine (c_dNew_bad n (by omega) _).mono ?_); rintro e w' ⟨rfl, rfl⟩)
          | (go_at_call 28; (with_reducible refine (r_New_bad n (by omega) _).mono ?_); rintro e w' ⟨rfl, rfl⟩)
          | (go_at_call 19; (with_reducible refine (c_Made_nil _).mono ?_); rintro e w' ⟨rfl, rfl⟩)
          | (go_at_call 26; (with_reducible refine (c_lives _).mono ?_); rintro e w5 ⟨rfl, b5⟩))
        go_ret
        exact ⟨rfl, b5⟩
    · by_cases h4 : n < 1
      · skip
        go_enter Try.func6, Try.ntmps6
        go_wp2_with (first
          | (go_at_call 27; (with_reducible refine (c_dNew_bad n (by omega) _).mono ?_); rintro e w' ⟨rfl, rfl⟩)
          | (go_at_call 28; (with_reducible refine (r_New_bad n (by omega) _).mono ?_); rintro e w' ⟨rfl, rfl⟩)
          | (go_at_call 19; (with_reducible refine (c_Made_nil _).mono ?_); rintro e w' ⟨rfl, rfl⟩)
          | (go_at_call 26; (with_reducible refine (c_lives _).mono ?_); rintro e w5 ⟨rfl, b5⟩))
        go_ret
        exact ⟨rfl, b5⟩
      · by_cases h5 : 1024 < n
        · skip
          go_enter Try.func6, Try.ntmps6
          go_wp2_with (first
            | (go_at_call 27; (with_reducible refine (c_dNew_bad n (by omega) _).mono ?_); rintro e w' ⟨rfl, rfl⟩)
            | (go_at_call 28; (with_reducible refine (r_New_bad n (by omega) _).mono ?_); rintro e w' ⟨rfl, rfl⟩)
            | (go_at_call 19; (with_reducible refine (c_Made_nil _).mono ?_); rintro e w' ⟨rfl, rfl⟩)
            | (go_at_call 26; (with_reducible refine (c_lives _).mono ?_); rintro e w5 ⟨rfl, b5⟩))
          go_ret
          exact ⟨rfl, b5⟩
        · obtain ⟨N, rfl⟩ : ∃ q : Nat, n = (q : Int) := ⟨n.toNat, by omega⟩
          have hN1 : 1 ≤ N := by omega
          have hN2 : N ≤ 70 := by omega
          have hnl : nl ≤ 60 := by omega
          clear h1 h2 h4 h5 hn
          go_enter Try.func6, Try.ntmps6
          go_wp2_with (first
            | (go_at_call 27
               (with_reducible refine (c_dNewI (N : Int) N rfl _ hN1 (by omega)).mono ?_)
               rintro e w1 ⟨p, g, mb, rfl, hk, hge, hb1⟩
               have HB := Lib.hid hb1
               have HK := Lib.hid hk
               have HG := Lib.hid hge
               clear hb1 hk hge)
            | (go_at_call 28
               (with_reducible refine (r_New N _ hN1 (by omega)).mono ?_)
               rintro e w2 ⟨q, r, c', rfl, hk2, hge2, hb2⟩
               have hlk := HK.out.lts
               have HP : Hid (Pr w2 p g mb N q r c' (Dsk.new N)) := Lib.hid ⟨HK.out.bel hb2, hk2, by omega⟩
               have HG2 : Hid (w.heap.size ≤ q ∧ w.heap.size ≤ r) := Lib.hid (by have := HB.out.size; omega)
               have HB := Lib.hid (HB.out.trans (hb2.mono HB.out.size))
               clear hk2 hge2 hb2 hlk HK)
            | (go_at_call 19
               (with_reducible refine (c_Made HP.out.dk).mono ?_)
               rintro e w' ⟨rfl, rfl⟩))
          go_loopw [5, 49] (fun v5 v wr => ∃ (i p g mb c : Nat) (D : Dsk), i ≤ nl ∧ v = .int .i64 (i : Int) ∧ v5 = .pointer (some ⟨p, 0, none⟩) ∧ Hid (Pr wr p g mb c q r c' D) ∧ Hid (D.ops ≤ i) ∧ Hid (w.heap.size ≤ p ∧ w.heap.size ≤ g ∧ w.heap.size ≤ mb) ∧ Hid (Below w.heap.size w wr)) (fun _ v _ => nl - (intOf v).toNat)
          case atStart => exact ⟨0, p, g, mb, N, _, Nat.zero_le _, rfl, rfl, HP, Lib.hid (Nat.le_refl _), HG, HB⟩
          case round =>
            clear HP HG HB
            obtain ⟨i, p, g, mb, c, D, hi, rfl, rfl, HP, HO, HG, HB⟩ := hrel
            by_cases hin : i < nl
            · obtain ⟨ad, rw_, rfl, hri, hrl, hcell⟩ := Hr.out.at hin
              obtain ⟨k, a, s2, m2, rfl, hk, ha, hs2, hm2⟩ := dact_of (Hro.out i rw_ hri)
              have Hs2 := Lib.hid hs2
              have ho : Hid (D.ops < 1000000000) := Lib.hid (by have := HO.out; omega)
              have hhb : ∀ j v, (dactV k a s2 m2)[j]? = some v → wr.cell? ((ad.add (i * 19)).add j) = some v := fun j v hv => by
                have hc := hcell j v hv
                rw [HB.out.cell (block_lt_of_cell hc)]
                exact hc
              have Hcs := Lib.hid hhb
              have Hdl : Hid ((dactV k a s2 m2).toArray.size = 19) := Lib.hid (by simpa using hrl)
              have HY := Lib.hid (heap_alloc_new wr (.cells dact0 26))
              have HYB := Lib.hid ((Below.refl wr.heap.size wr).alloc (Nat.le_refl _) (.cells dact0 26))
              have hlp := HP.out.dk.lts
              have hlr := HP.out.rk.lts
              have Hlt := Lib.hid (And.intro hlp hlr)
              unfold dact0 at HY HYB
              clear hri hrl hcell hhb hs2 hlp hlr
              by_cases hk5 : k = 5
              · subst hk5
                go_wp2_with (first
                | (refine wpL_load_rd rfl 26 (.tmp 51) rfl (ad.add (i * 19)) rfl (dactV 5 a s2 m2) _ Hcs.out Try.underlying26 rfl (by rw [← List.size_toArray, Hdl.out]; kernel_rfl) ?_)
                | (refine wpL_store_all rfl rfl 26 (.tmp 10) (.tmp 52) rfl _ rfl _ rfl _ _ HY.out (by rw [Hdl.out]; kernel_rfl) (by rw [Hdl.out]; rfl) one_dact ?_
                   intro w8 x8 g8
                   have hb8 := HYB.out.grown g8 HYB.out.size (by rintro k ⟨⟩; exact Nat.le_refl _)
                   have HP := Lib.hid (HP.out.bel hb8)
                   have HB := Lib.hid (HB.out.trans (hb8.mono HB.out.size))
                   have X8 := Lib.hid x8
                   have HL8 := Lib.hid ((rd_of_heap (n := 19) x8 (by rw [← List.size_toArray, Hdl.out]) (by simp [maxLen])).cell _ rfl)
                   clear x8 g8 HY HYB hb8)
                | (refine wpL_load_rd rfl 26 (.tmp 10) rfl _ rfl (dactV 5 a s2 m2) _ HL8.out Try.underlying26 rfl (by rw [← List.size_toArray, Hdl.out]; kernel_rfl) ?_)
                | (go_at_call 29
                   (with_reducible refine (c_do HP.out ho.out 5 a s2 m2 ha Hs2.out hm2).mono ?_)
                   rintro e w9 ⟨rfl, D', hp9, ho9, _, f9⟩
                   have HP := Lib.hid hp9
                   have HO := Lib.hid (show D'.ops ≤ i + 1 from Nat.le_trans ho9 (Nat.succ_le_succ HO.out))
                   have HB := Lib.hid (PS_below HB.out HG.out HG2.out f9)
                   have hx9 := heap_fr X8.out f9 (by have := Hlt.out; unfold PS; omega)
                   have X9 := Lib.hid hx9
                   obtain ⟨e0, e1, e18, es⟩ := dact_cells hx9 Hs2.out
                   have Es := Lib.hid es
                   clear hp9 ho9 f9 hx9 es HL8)
                | (go_at_call 30
                   (with_reducible refine (c_Alike HP.out).mono ?_)
                   rintro e w10 ⟨rfl, hb10⟩
                   have HP := Lib.hid (HP.out.bel hb10)
                   have HB := Lib.hid (HB.out.trans (hb10.mono HB.out.size))
                   clear hb10 e0 e1 e18)
                | (go_at_call 25
                   (with_reducible refine (c_Copy HP.out.dk).mono ?_)
                   rintro e w11 ⟨p', g', mb', cc', rfl, hk11, hge11, hb11⟩
                   have hp0 := Lib.hid (And.intro HP.out.dk.lts HP.out.rk.lts)
                   have HP := Lib.hid (HP.out.bel hb11)
                   have HK11 := Lib.hid hk11
                   have HG11 : Hid (w.heap.size ≤ p' ∧ w.heap.size ≤ g' ∧ w.heap.size ≤ mb') := Lib.hid (by have := HB.out.size; omega)
                   have HA11 : Hid (Apart p' g' mb' q r ∧ (p' ≠ p ∧ p' ≠ g ∧ p' ≠ mb) ∧ (g' ≠ p ∧ g' ≠ g ∧ g' ≠ mb) ∧ (mb' ≠ p ∧ mb' ≠ g ∧ mb' ≠ mb)) := Lib.hid (by have := hp0.out; unfold Apart; omega)
                   have HB := Lib.hid (HB.out.trans (hb11.mono HB.out.size))
                   have hx11 := (hb11.block _ (heap_lt X9.out)).trans X9.out
                   clear e0 e1 e18
                   obtain ⟨e0, e1, e18, es⟩ := dact_cells hx11 Hs2.out
                   have Es := Lib.hid es
                   have ho2 : Hid (D'.ops < 1000000000) := Lib.hid (by have := HO.out; omega)
                   clear es hx11 hk11 hge11 hb11 hp0)
                | (refine wpL_load_rd rfl 23 (.tmp 66) rfl ⟨wr.heap.size, 2, none⟩ rfl (bytesV s2) _ Es.out Try.underlying23 rfl (by rw [bytesV_length, Hs2.out]; kernel_rfl) ?_)
                | (go_at_call 17
                   (with_reducible refine (c_dWriteE HP.out.dk ho2.out a ha s2 Hs2.out _ _ rfl).mono ?_)
                   rintro e w12 ⟨rfl, _, f12⟩
                   have HPN : Hid (Pr w12 p' g' mb' cc' q r c' D') := Lib.hid (pr_new HA11.out HK11.out HP.out f12)
                   have HB := Lib.hid (Dk.fresh HG.out HB.out f12)
                   clear f12 e0 e1 e18 Es)
                | (go_at_call 30
                   (with_reducible refine (c_Alike HPN.out).mono ?_)
                   rintro e w13 ⟨rfl, hb13⟩
                   have HP := Lib.hid (HPN.out.bel hb13)
                   have HB := Lib.hid (HB.out.trans (hb13.mono HB.out.size))
                   clear hb13))
                go_roundw
                case rel => exact ⟨i + 1, p', g', mb', cc', D', by omega, by go_num, rfl, HP, HO, HG11, HB⟩
                case measure => simp [intOf] <;> omega
              · have q5 : (k == 5) = false := by simpa using hk5
                go_wp2_with (first
                | (refine wpL_load_rd rfl 26 (.tmp 51) rfl (ad.add (i * 19)) rfl (dactV k a s2 m2) _ Hcs.out Try.underlying26 rfl (by rw [← List.size_toArray, Hdl.out]; kernel_rfl) ?_)
                | (refine wpL_store_all rfl rfl 26 (.tmp 10) (.tmp 52) rfl _ rfl _ rfl _ _ HY.out (by rw [Hdl.out]; kernel_rfl) (by rw [Hdl.out]; rfl) one_dact ?_
                   intro w8 x8 g8
                   have hb8 := HYB.out.grown g8 HYB.out.size (by rintro k ⟨⟩; exact Nat.le_refl _)
                   have HP := Lib.hid (HP.out.bel hb8)
                   have HB := Lib.hid (HB.out.trans (hb8.mono HB.out.size))
                   have X8 := Lib.hid x8
                   have HL8 := Lib.hid ((rd_of_heap (n := 19) x8 (by rw [← List.size_toArray, Hdl.out]) (by simp [maxLen])).cell _ rfl)
                   clear x8 g8 HY HYB hb8)
                | (refine wpL_load_rd rfl 26 (.tmp 10) rfl _ rfl (dactV k a s2 m2) _ HL8.out Try.underlying26 rfl (by rw [← List.size_toArray, Hdl.out]; kernel_rfl) ?_)
                | (go_at_call 29
                   (with_reducible refine (c_do HP.out ho.out k a s2 m2 ha Hs2.out hm2).mono ?_)
                   rintro e w9 ⟨rfl, D', hp9, ho9, _, f9⟩
                   have HP := Lib.hid hp9
                   have HO := Lib.hid (show D'.ops ≤ i + 1 from Nat.le_trans ho9 (Nat.succ_le_succ HO.out))
                   have HB := Lib.hid (PS_below HB.out HG.out HG2.out f9)
                   have hx9 := heap_fr X8.out f9 (by have := Hlt.out; unfold PS; omega)
                   have X9 := Lib.hid hx9
                   obtain ⟨e0, e1, e18, es⟩ := dact_cells hx9 Hs2.out
                   have Es := Lib.hid es
                   clear hp9 ho9 f9 hx9 es HL8)
                | (go_at_call 30
                   (with_reducible refine (c_Alike HP.out).mono ?_)
                   rintro e w10 ⟨rfl, hb10⟩
                   have HP := Lib.hid (HP.out.bel hb10)
                   have HB := Lib.hid (HB.out.trans (hb10.mono HB.out.size))
                   clear hb10 e0 e1 e18)
                )
                go_roundw
                case rel => exact ⟨i + 1, p, g, mb, c, D', by omega, by go_num, rfl, HP, HO, HG, HB⟩
                case measure => simp [intOf] <;> omega
            · obtain rfl : i = nl := by omega
              go_wp2_with (first
                | (go_at_call 26; (with_reducible refine (c_lives _).mono ?_); rintro e w5 ⟨rfl, b5⟩))
              go_ret
              exact ⟨rfl, HB.out.trans (b5.mono HB.out.size)⟩
end Go.Proofs.Ytplemdgihlabgaa.Disk
