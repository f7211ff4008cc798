/- The laws SuperRises and ActlogSafe, walked. Conditions: none. -/
import Derived.Test.YtpbcmghfhflkbaaSuperActs
import Derived.Test.YtpbcmghfhflkbaaActlogActs
set_option linter.unusedVariables false
set_option linter.unusedSimpArgs false
namespace Go.Proofs.Ytpbcmghfhflkbaa.Super
open Go.RowKit Tw Disk Slots
set_option maxHeartbeats 8000000
set_option maxRecDepth 100000
theorem w_SuperRises (A : Option Addr) (nl cb : Nat) (rows : List (List Value)) (w : World) (hr : SlRows w 19 A nl cb rows) (hro : ∀ (i : Nat) (r : List Value), rows[i]? = some r → RowOk w ActL r) :
    Calls Try.prog 6 #[.slice A nl cb] w fun e w' => e = .returned (.bool true) ∧ Below w.heap.size w w' := by
  have HBq := Lib.hid (Below.refl w.heap.size w)
  have Hr := Lib.hid hr
  have Hro := Lib.hid hro
  clear hr hro
  go_enter Try.func6, Try.ntmps6
  by_cases h3 : 60 < nl
  · go_wp2_with (first
      | (go_at_call 29; (with_reducible refine (c_lives _).mono ?_); rintro e w5 ⟨rfl, b5⟩))
    go_ret
    exact ⟨rfl, HBq.out.trans (b5.mono HBq.out.size)⟩
  have hnl : nl ≤ 60 := by omega
  clear h3
  go_wp2_with (first
    | (go_at_call 16
       (with_reducible refine (c_dNewI' 8 8 rfl _ (by omega) (by omega)).mono ?_)
       rintro e w1 ⟨p, g, mb, rfl, hk, hge, hb1⟩
       have HB := Lib.hid (HBq.out.trans (hb1.mono HBq.out.size))
       have HK := Lib.hid hk
       have HG : Hid (w.heap.size ≤ p ∧ w.heap.size ≤ g ∧ w.heap.size ≤ mb) := Lib.hid hge
       clear hb1 hk hge))
  have HR0 := Lib.hid Rises.new
  have hops0 : Hid ((Dsk.new 8).ops ≤ 2 * 0) := Lib.hid (Nat.le_refl _)
  generalize Dsk.new 8 = D0 at *
  go_loopw [5, 20] (fun v5 v wr => ∃ (i last : Nat) (D : Dsk), i ≤ nl ∧ v = .int .i64 (i : Int) ∧ v5 = .int .u32 (last : Int) ∧ Hid (Dk wr p g mb 8 D) ∧ Hid (Rises D last) ∧ last < 4294967296 ∧ Hid (D.ops ≤ 2 * i) ∧ Hid (Below w.heap.size w wr)) (fun _ v _ => nl - (intOf v).toNat)
  case atStart => exact ⟨0, 0, D0, Nat.zero_le _, rfl, rfl, HK, HR0, by omega, hops0, HB⟩
  case round =>
    clear HK HR0 hops0 HB
    obtain ⟨i, last, D, hi, rfl, rfl, HK, HR, hlast, HO, HB⟩ := hrel
    by_cases hin : i < nl
    · obtain ⟨ad, rw_, rfl, hri, hrl, hcell⟩ := Hr.out.at hin
      obtain ⟨k, av, m2, s2, rfl, ha, hm2, hs2⟩ := act_of (Hro.out i rw_ hri)
      have ho : Hid (D.ops + 1 < 1000000000) := Lib.hid (by have := HO.out; omega)
      have hhb : ∀ j v, (actV k av m2 s2)[j]? = some v → wr.cell? ((ad.add (i * 19)).add j) = some v := fun j v hv => by
        have hc := hcell j v hv
        rw [HB.out.cell (block_lt_of_cell hc)]
        exact hc
      have Hcs := Lib.hid hhb
      have Hdl : Hid ((actV k av m2 s2).toArray.size = 19) := Lib.hid (by simpa using hrl)
      have HY := Lib.hid (heap_alloc_new wr (.cells act0 59))
      have HYB := Lib.hid ((Below.refl wr.heap.size wr).alloc (Nat.le_refl _) (.cells act0 59))
      unfold act0 at HY HYB
      clear hri hrl hcell hhb hs2
      go_upto_block 2 with (first
        | (refine wpL_load_rd rfl 59 (.tmp 22) rfl (ad.add (i * 19)) rfl (actV k av m2 s2) _ Hcs.out Try.underlying59 rfl (by rw [← List.size_toArray, Hdl.out]; kernel_rfl) ?_)
        | (refine wpL_store_all rfl rfl 59 (.tmp 7) (.tmp 23) rfl _ rfl _ rfl _ _ HY.out (by rw [Hdl.out]; kernel_rfl) (by rw [Hdl.out]; rfl) act_one ?_
           intro w8 x8 g8
           have hb8 := HYB.out.grown g8 HYB.out.size (by rintro k ⟨⟩; exact Nat.le_refl _)
           have HK := Lib.hid (HK.out.bel hb8)
           have HB := Lib.hid (HB.out.trans (hb8.mono HB.out.size))
           obtain ⟨e0, e1, e2⟩ := act4 x8
           clear x8 g8 HY HYB hb8 Hcs)
        )
      generalize wr.heap.size = Bx at *
      by_cases z0 : k = 0
      · subst z0
        have hnd := fun w (h : Dk w p g mb 8 D) => c_NextE h ho.out
        have hno := snext_ops D
        have hnl2 : (snext D).2.1 < 4294967296 := by
          have := boot_lt D
          unfold snext
          (repeat' split) <;> simp only <;> omega
        obtain ⟨⟨D2, m1, er1⟩, hsn⟩ : ∃ r, snext D = r := ⟨_, rfl⟩
        have hrs := HR.out.next hsn
        rw [hsn] at hnd hno hnl2
        simp only at hnd hno hnl2
        clear hsn
        have HOn : Hid (D2.ops ≤ 2 * (i + 1)) := Lib.hid (by have := HO.out; omega)
        by_cases he : er1 = 0
        · obtain ⟨hlm, hR2⟩ := hrs.1 he
          have HR2 := Lib.hid hR2
          subst he
          clear hrs hR2
          go_wp2_with (first
            | (go_at_call 30
               (with_reducible refine (hnd _ HK.out).mono ?_)
               rintro e w9 ⟨rfl, hk9, f9⟩
               have HK9 := Lib.hid hk9
               have HB9 := Lib.hid (HB.out.trans (f9.bel (B := w.heap.size) (fun k e => by have := HG.out; omega) HB.out.size))
               clear hk9 f9 e0 e1 e2 hnd))
          go_roundw
          case rel => exact ⟨i + 1, m1, D2, by omega, by go_num, by first | go_num | (congr 1; omega), HK9, HR2, hnl2, HOn, HB9⟩
          case measure => simp [intOf] <;> omega
        · obtain ⟨hm0, hR2⟩ := hrs.2 he
          have HR2 := Lib.hid hR2
          subst hm0
          have hne : ((er1 : Int) == 0) = false := by simp; omega
          have hne2 : ((er1 : Int) != 0) = true := by simp; omega
          clear hrs hR2
          go_wp2_with (first
            | (go_at_call 30
               (with_reducible refine (hnd _ HK.out).mono ?_)
               rintro e w9 ⟨rfl, hk9, f9⟩
               have HK9 := Lib.hid hk9
               have HB9 := Lib.hid (HB.out.trans (f9.bel (B := w.heap.size) (fun k e => by have := HG.out; omega) HB.out.size))
               clear hk9 f9 e0 e1 e2 hnd))
          go_roundw
          case rel => exact ⟨i + 1, last, D2, by omega, by go_num, by first | go_num | (congr 1; omega), HK9, HR2, hlast, HOn, HB9⟩
          case measure => simp [intOf] <;> omega
      by_cases z1 : k = 1
      · subst z1
        go_wp2_with (first
          | (go_at_call 20
             (with_reducible refine (c_Crash HK.out m2 hm2).mono ?_)
             rintro e w9 ⟨rfl, hk9, f9⟩
             have HK9 := Lib.hid hk9
             have HB9 := Lib.hid (HB.out.trans (f9.bel (B := w.heap.size) (fun k e => by have := HG.out; omega) HB.out.size))
             clear hk9 f9 e0 e1 e2))
        go_roundw
        case rel => exact ⟨i + 1, last, D.crash m2, by omega, by go_num, rfl, HK9, Lib.hid (HR.out.crash m2), hlast, Lib.hid (by have := HO.out; show D.ops ≤ _; omega), HB9⟩
        case measure => simp [intOf] <;> omega
      by_cases z2 : k = 2
      · subst z2
        go_wp2_with (first
          | (go_at_call 22
             (with_reducible refine (c_FuseD HK.out av ha).mono ?_)
             rintro e w9 ⟨rfl, hk9, f9⟩
             have HK9 := Lib.hid hk9
             have HB9 := Lib.hid (HB.out.trans (f9.bel (B := w.heap.size) (fun k e => by have := HG.out; omega) HB.out.size))
             clear hk9 f9 e0 e1 e2))
        go_roundw
        case rel => exact ⟨i + 1, last, D.setFuse av, by omega, by go_num, rfl, HK9, Lib.hid (HR.out.fused av), hlast, Lib.hid (by have := HO.out; show D.ops ≤ _; omega), HB9⟩
        case measure => simp [intOf] <;> omega
      have y0 : (k == 0) = false := by simpa using z0
      have y1 : (k == 1) = false := by simpa using z1
      have y2 : (k == 2) = false := by simpa using z2
      go_wp2_with fail
      go_roundw
      case rel => exact ⟨i + 1, last, D, by omega, by go_num, rfl, HK, HR, hlast, Lib.hid (by have := HO.out; omega), HB⟩
      case measure => simp [intOf] <;> omega
    · obtain rfl : i = nl := by omega
      go_wp2_with (first
        | (go_at_call 29; (with_reducible refine (c_lives _).mono ?_); rintro e w5 ⟨rfl, b5⟩))
      go_ret
      exact ⟨rfl, HB.out.trans (b5.mono HB.out.size)⟩
end Go.Proofs.Ytpbcmghfhflkbaa.Super
namespace Go.Proofs.Ytpbcmghfhflkbaa.Actlog
open Go.RowKit Tw Disk Slots
set_option maxHeartbeats 8000000
set_option maxRecDepth 100000
/-- the word is the same: nothing is done -/
theorem rput_same {b s : Int} {d : Dsk} {x : Nat} (hb : d.broken = false) (h : (latest d b s).2 = x) : rput b s d x = (d, 0) := by
  unfold rput
  rw [if_neg (by simp [hb]), if_pos h]
theorem act_safe {a b k mask : Nat} (ha : a < 18446744073709551616) (hb : b < 18446744073709551616) (hk : k ≤ 3) :
    ∃ d1 d3 g now n, aput (Dsk.new 12) a = (d1, 0) ∧ aput d1 a = (d1, 0) ∧ aput (d1.setFuse (k : Int)) b = (d3, g) ∧ latest (d3.crash mask) 2 4 = (n, now) ∧ d1.ops ≤ 2 ∧ d3.ops ≤ 10 ∧
      ((g = 0 ∧ now = b) ∨ (g ≠ 0 ∧ k < 2 ∧ (now = a ∨ now = b))) := by
  have h0 := st_new (N := 12) (by omega)
  obtain ⟨⟨d1, e1⟩, h1⟩ : ∃ r, aput (Dsk.new 12) a = r := ⟨_, rfl⟩
  have hf0 : (Dsk.new 12).fuse < 0 := by simp [Dsk.new]
  have ho1 : d1.ops ≤ 2 := by
    have := rput_ops 2 4 (Dsk.new 12) a
    rw [show rput 2 4 (Dsk.new 12) a = (d1, e1) from h1] at this
    exact this
  rcases h0.aput (by omega) ha h1 with ⟨rfl, s1, f1, _⟩ | ⟨_, f1, _⟩
  · obtain ⟨n1, hn1, l1⟩ := s1.hot
    have h2 := rput_same (b := 2) (s := 4) (x := a) s1.clean.up (by rw [l1])
    have s2 := s1.fused (k := (k : Int)) (by omega)
    obtain ⟨⟨d3, g⟩, h3⟩ : ∃ r, aput (d1.setFuse (k : Int)) b = r := ⟨_, rfl⟩
    have hfu : (d1.setFuse (k : Int)).fuse = (k : Int) := by simp [Dsk.setFuse]; omega
    have ho3 : d3.ops ≤ 10 := by
      have := rput_ops 2 4 (d1.setFuse (k : Int)) b
      rw [show rput 2 4 (d1.setFuse (k : Int)) b = (d3, g) from h3] at this
      have e : (d1.setFuse (k : Int)).ops = d1.ops := rfl
      simp only at this
      omega
    rcases s2.aput (by omega) hb h3 with ⟨rfl, s3, _, _⟩ | ⟨rfl, f3, s3⟩
    · obtain ⟨n3, _, l3⟩ := s3.hot
      exact ⟨d1, d3, 0, b, n3, h1, h2, h3, by rw [s3.clean.latest_crash]; exact l3, ho1, ho3, .inl ⟨rfl, rfl⟩⟩
    · obtain ⟨H', hor, s4⟩ := s3 mask
      obtain ⟨n4, _, l4⟩ := s4.hot
      exact ⟨d1, d3, 3, H', n4, h1, h2, h3, l4, ho1, ho3, .inr ⟨by omega, by omega, hor⟩⟩
  · omega
theorem w_ActlogSafe (a b : Nat) (k : Int) (mask : Nat) (w : World) (ha : a < 18446744073709551616) (hb : b < 18446744073709551616) (hm : mask < 18446744073709551616) (hk : -9223372036854775808 ≤ k ∧ k ≤ 9223372036854775807) :
    Calls Try.prog 8 #[.int .u64 (a : Int), .int .u64 (b : Int), .agg #[.int .i64 k, .int .u64 (mask : Int)]] w fun e w' => e = .returned (.bool true) ∧ Below w.heap.size w w' := by
  have hB := ((Below.refl w.heap.size w).alloc (Nat.le_refl _) (.cells #[.int .i64 k, .int .u64 (mask : Int)] 77))
  have HX := Lib.hid (heap_alloc_new w (.cells #[.int .i64 k, .int .u64 (mask : Int)] 77))
  obtain ⟨k1, k2⟩ := cells2 HX.out
  have HB0 := Lib.hid hB
  clear hB
  go_enter Try.func8, Try.ntmps8
  go_wp2_with fail
  go_quiet (fail)
  have HBq := Lib.hid (HB0.out.trans ((Fr.drewN (S := fun _ => False) nq).bel (fun _ e => e.elim) HB0.out.size))
  generalize (w.alloc (.cells #[.int .i64 k, .int .u64 (mask : Int)] 77)).drewN nq = W1 at *
  clear k1 k2 HX HB0
  by_cases h4 : k < 0
  · go_wp2_with (first
    | (go_at_call 16
       (with_reducible refine (c_dNewI' 12 12 rfl _ (by omega) (by omega)).mono ?_)
       rintro e w1 ⟨p, g, mb, rfl, hk1, hge, hb1⟩
       have HB := Lib.hid (HBq.out.trans (hb1.mono HBq.out.size))
       have HK := Lib.hid hk1
       have HG : Hid (w.heap.size ≤ p ∧ w.heap.size ≤ g ∧ w.heap.size ≤ mb) := Lib.hid (by have := HBq.out.size; omega)
       clear hb1 hk1 hge)
    | (go_at_call 34; (with_reducible refine (c_lives _).mono ?_); rintro e w5 ⟨rfl, b5⟩)
    )
    go_ret
    exact ⟨rfl, HB.out.trans (b5.mono HB.out.size)⟩
  by_cases h5 : 3 < k
  · go_wp2_with (first
    | (go_at_call 16
       (with_reducible refine (c_dNewI' 12 12 rfl _ (by omega) (by omega)).mono ?_)
       rintro e w1 ⟨p, g, mb, rfl, hk1, hge, hb1⟩
       have HB := Lib.hid (HBq.out.trans (hb1.mono HBq.out.size))
       have HK := Lib.hid hk1
       have HG : Hid (w.heap.size ≤ p ∧ w.heap.size ≤ g ∧ w.heap.size ≤ mb) := Lib.hid (by have := HBq.out.size; omega)
       clear hb1 hk1 hge)
    | (go_at_call 34; (with_reducible refine (c_lives _).mono ?_); rintro e w5 ⟨rfl, b5⟩)
    )
    go_ret
    exact ⟨rfl, HB.out.trans (b5.mono HB.out.size)⟩
  obtain ⟨K, rfl⟩ : ∃ K : Nat, k = (K : Int) := ⟨k.toNat, by omega⟩
  obtain ⟨d1, d3, gg, now, n, h1, h2, h3, h4', ho1, ho3, hor⟩ := act_safe (mask := mask) ha hb (by omega : K ≤ 3)
  have H1 := fun w p g mb (h : Dk w p g mb 12 (Dsk.new 12)) => c_PutE h (by simp [Dsk.new]) (a : Int) a rfl ha
  rw [h1] at H1
  have H2 := fun w p g mb (h : Dk w p g mb 12 d1) => c_PutE h (by omega) (a : Int) a rfl ha
  rw [h2] at H2
  have H3 := fun w p g mb (h : Dk w p g mb 12 (d1.setFuse (K : Int))) => c_PutE h (by show d1.ops + 1 < _; omega) (b : Int) b rfl hb
  rw [h3] at H3
  simp only at H1 H2 H3
  have HL := Lib.hid h4'
  clear h1 h2 h3 h4'
  rcases hor with ⟨rfl, rfl⟩ | ⟨hg, hk2, hor⟩
  · by_cases hab : now = a
    · subst hab
      go_wp2_with (first
      | (go_at_call 16
         (with_reducible refine (c_dNewI' 12 12 rfl _ (by omega) (by omega)).mono ?_)
         rintro e w1 ⟨p, g, mb, rfl, hk1, hge, hb1⟩
         have HB := Lib.hid (HBq.out.trans (hb1.mono HBq.out.size))
         have HK := Lib.hid hk1
         have HG : Hid (w.heap.size ≤ p ∧ w.heap.size ≤ g ∧ w.heap.size ≤ mb) := Lib.hid (by have := HBq.out.size; omega)
         clear hb1 hk1 hge)
      | (go_at_call 34; (with_reducible refine (c_lives _).mono ?_); rintro e w5 ⟨rfl, b5⟩)
      | (go_at_call 35
         (with_reducible refine (H1 _ p g mb HK.out).mono ?_)
         rintro e w2 ⟨rfl, hk2, f2⟩
         have HB2 := Lib.hid (HB.out.trans (f2.bel (B := w.heap.size) (fun k e => by have := HG.out; omega) HB.out.size))
         have HK2 := Lib.hid hk2
         clear hk2 f2 HK H1)
      | (go_at_call 28
         (with_reducible refine (c_Ops HK2.out).mono ?_)
         rintro e w3 ⟨rfl, rfl⟩)
      | (go_at_call 35
         (with_reducible refine (H2 _ p g mb HK2.out).mono ?_)
         rintro e w4 ⟨rfl, hk4, f4⟩
         have HB4 := Lib.hid (HB2.out.trans (f4.bel (B := w.heap.size) (fun k e => by have := HG.out; omega) HB2.out.size))
         have HK4 := Lib.hid hk4
         clear hk4 f4 HK2 H2)
      | (go_at_call 28
         (with_reducible refine (c_Ops HK4.out).mono ?_)
         rintro e w3 ⟨rfl, rfl⟩)
      | (go_at_call 22
         (with_reducible refine (c_FuseD HK4.out (K : Int) hk).mono ?_)
         rintro e w6 ⟨rfl, hk6, f6⟩
         have HB6 := Lib.hid (HB4.out.trans (f6.bel (B := w.heap.size) (fun k e => by have := HG.out; omega) HB4.out.size))
         have HK6 := Lib.hid hk6
         clear hk6 f6 HK4)
      | (go_at_call 35
         (with_reducible refine (H3 _ p g mb HK6.out).mono ?_)
         rintro e w7 ⟨rfl, hk7, f7⟩
         have HB7 := Lib.hid (HB6.out.trans (f7.bel (B := w.heap.size) (fun k e => by have := HG.out; omega) HB6.out.size))
         have HK7 := Lib.hid hk7
         clear hk7 f7 HK6 H3)
      | (go_at_call 20
         (with_reducible refine (c_Crash HK7.out mask hm).mono ?_)
         rintro e w9 ⟨rfl, hk9, f9⟩
         have HB9 := Lib.hid (HB7.out.trans (f9.bel (B := w.heap.size) (fun k e => by have := HG.out; omega) HB7.out.size))
         have HK9 := Lib.hid hk9
         clear hk9 f9)
      | (go_at_call 37
         (with_reducible refine (c_GetE HK9.out).mono ?_)
         rw [HL.out]
         rintro e w10 ⟨rfl, hb10⟩
         have HB10 := Lib.hid (HB9.out.trans (hb10.mono HB9.out.size))
         clear hb10)
      )
      all_goals
        go_ret
        exact ⟨rfl, HB10.out.trans (b5.mono HB10.out.size)⟩
    · have hab2 : ((now : Int) == (a : Int)) = false := by simp; omega
      go_wp2_with (first
      | (go_at_call 16
         (with_reducible refine (c_dNewI' 12 12 rfl _ (by omega) (by omega)).mono ?_)
         rintro e w1 ⟨p, g, mb, rfl, hk1, hge, hb1⟩
         have HB := Lib.hid (HBq.out.trans (hb1.mono HBq.out.size))
         have HK := Lib.hid hk1
         have HG : Hid (w.heap.size ≤ p ∧ w.heap.size ≤ g ∧ w.heap.size ≤ mb) := Lib.hid (by have := HBq.out.size; omega)
         clear hb1 hk1 hge)
      | (go_at_call 34; (with_reducible refine (c_lives _).mono ?_); rintro e w5 ⟨rfl, b5⟩)
      | (go_at_call 35
         (with_reducible refine (H1 _ p g mb HK.out).mono ?_)
         rintro e w2 ⟨rfl, hk2, f2⟩
         have HB2 := Lib.hid (HB.out.trans (f2.bel (B := w.heap.size) (fun k e => by have := HG.out; omega) HB.out.size))
         have HK2 := Lib.hid hk2
         clear hk2 f2 HK H1)
      | (go_at_call 28
         (with_reducible refine (c_Ops HK2.out).mono ?_)
         rintro e w3 ⟨rfl, rfl⟩)
      | (go_at_call 35
         (with_reducible refine (H2 _ p g mb HK2.out).mono ?_)
         rintro e w4 ⟨rfl, hk4, f4⟩
         have HB4 := Lib.hid (HB2.out.trans (f4.bel (B := w.heap.size) (fun k e => by have := HG.out; omega) HB2.out.size))
         have HK4 := Lib.hid hk4
         clear hk4 f4 HK2 H2)
      | (go_at_call 28
         (with_reducible refine (c_Ops HK4.out).mono ?_)
         rintro e w3 ⟨rfl, rfl⟩)
      | (go_at_call 22
         (with_reducible refine (c_FuseD HK4.out (K : Int) hk).mono ?_)
         rintro e w6 ⟨rfl, hk6, f6⟩
         have HB6 := Lib.hid (HB4.out.trans (f6.bel (B := w.heap.size) (fun k e => by have := HG.out; omega) HB4.out.size))
         have HK6 := Lib.hid hk6
         clear hk6 f6 HK4)
      | (go_at_call 35
         (with_reducible refine (H3 _ p g mb HK6.out).mono ?_)
         rintro e w7 ⟨rfl, hk7, f7⟩
         have HB7 := Lib.hid (HB6.out.trans (f7.bel (B := w.heap.size) (fun k e => by have := HG.out; omega) HB6.out.size))
         have HK7 := Lib.hid hk7
         clear hk7 f7 HK6 H3)
      | (go_at_call 20
         (with_reducible refine (c_Crash HK7.out mask hm).mono ?_)
         rintro e w9 ⟨rfl, hk9, f9⟩
         have HB9 := Lib.hid (HB7.out.trans (f9.bel (B := w.heap.size) (fun k e => by have := HG.out; omega) HB7.out.size))
         have HK9 := Lib.hid hk9
         clear hk9 f9)
      | (go_at_call 37
         (with_reducible refine (c_GetE HK9.out).mono ?_)
         rw [HL.out]
         rintro e w10 ⟨rfl, hb10⟩
         have HB10 := Lib.hid (HB9.out.trans (hb10.mono HB9.out.size))
         clear hb10)
      )
      all_goals
        go_ret
        exact ⟨rfl, HB10.out.trans (b5.mono HB10.out.size)⟩
  · have hg1 : ((gg : Int) != 0) = true := by simp; omega
    have hg2 : ((gg : Int) == 0) = false := by simp; omega
    by_cases hab : now = a
    · subst hab
      clear hor
      go_wp2_with (first
      | (go_at_call 16
         (with_reducible refine (c_dNewI' 12 12 rfl _ (by omega) (by omega)).mono ?_)
         rintro e w1 ⟨p, g, mb, rfl, hk1, hge, hb1⟩
         have HB := Lib.hid (HBq.out.trans (hb1.mono HBq.out.size))
         have HK := Lib.hid hk1
         have HG : Hid (w.heap.size ≤ p ∧ w.heap.size ≤ g ∧ w.heap.size ≤ mb) := Lib.hid (by have := HBq.out.size; omega)
         clear hb1 hk1 hge)
      | (go_at_call 34; (with_reducible refine (c_lives _).mono ?_); rintro e w5 ⟨rfl, b5⟩)
      | (go_at_call 35
         (with_reducible refine (H1 _ p g mb HK.out).mono ?_)
         rintro e w2 ⟨rfl, hk2, f2⟩
         have HB2 := Lib.hid (HB.out.trans (f2.bel (B := w.heap.size) (fun k e => by have := HG.out; omega) HB.out.size))
         have HK2 := Lib.hid hk2
         clear hk2 f2 HK H1)
      | (go_at_call 28
         (with_reducible refine (c_Ops HK2.out).mono ?_)
         rintro e w3 ⟨rfl, rfl⟩)
      | (go_at_call 35
         (with_reducible refine (H2 _ p g mb HK2.out).mono ?_)
         rintro e w4 ⟨rfl, hk4, f4⟩
         have HB4 := Lib.hid (HB2.out.trans (f4.bel (B := w.heap.size) (fun k e => by have := HG.out; omega) HB2.out.size))
         have HK4 := Lib.hid hk4
         clear hk4 f4 HK2 H2)
      | (go_at_call 28
         (with_reducible refine (c_Ops HK4.out).mono ?_)
         rintro e w3 ⟨rfl, rfl⟩)
      | (go_at_call 22
         (with_reducible refine (c_FuseD HK4.out (K : Int) hk).mono ?_)
         rintro e w6 ⟨rfl, hk6, f6⟩
         have HB6 := Lib.hid (HB4.out.trans (f6.bel (B := w.heap.size) (fun k e => by have := HG.out; omega) HB4.out.size))
         have HK6 := Lib.hid hk6
         clear hk6 f6 HK4)
      | (go_at_call 35
         (with_reducible refine (H3 _ p g mb HK6.out).mono ?_)
         rintro e w7 ⟨rfl, hk7, f7⟩
         have HB7 := Lib.hid (HB6.out.trans (f7.bel (B := w.heap.size) (fun k e => by have := HG.out; omega) HB6.out.size))
         have HK7 := Lib.hid hk7
         clear hk7 f7 HK6 H3)
      | (go_at_call 20
         (with_reducible refine (c_Crash HK7.out mask hm).mono ?_)
         rintro e w9 ⟨rfl, hk9, f9⟩
         have HB9 := Lib.hid (HB7.out.trans (f9.bel (B := w.heap.size) (fun k e => by have := HG.out; omega) HB7.out.size))
         have HK9 := Lib.hid hk9
         clear hk9 f9)
      | (go_at_call 37
         (with_reducible refine (c_GetE HK9.out).mono ?_)
         rw [HL.out]
         rintro e w10 ⟨rfl, hb10⟩
         have HB10 := Lib.hid (HB9.out.trans (hb10.mono HB9.out.size))
         clear hb10)
      )
      go_ret
      exact ⟨rfl, HB10.out.trans (b5.mono HB10.out.size)⟩
    · have hab2 : ((now : Int) == (a : Int)) = false := by simp; omega
      obtain rfl : now = b := by omega
      clear hor
      go_wp2_with (first
      | (go_at_call 16
         (with_reducible refine (c_dNewI' 12 12 rfl _ (by omega) (by omega)).mono ?_)
         rintro e w1 ⟨p, g, mb, rfl, hk1, hge, hb1⟩
         have HB := Lib.hid (HBq.out.trans (hb1.mono HBq.out.size))
         have HK := Lib.hid hk1
         have HG : Hid (w.heap.size ≤ p ∧ w.heap.size ≤ g ∧ w.heap.size ≤ mb) := Lib.hid (by have := HBq.out.size; omega)
         clear hb1 hk1 hge)
      | (go_at_call 34; (with_reducible refine (c_lives _).mono ?_); rintro e w5 ⟨rfl, b5⟩)
      | (go_at_call 35
         (with_reducible refine (H1 _ p g mb HK.out).mono ?_)
         rintro e w2 ⟨rfl, hk2, f2⟩
         have HB2 := Lib.hid (HB.out.trans (f2.bel (B := w.heap.size) (fun k e => by have := HG.out; omega) HB.out.size))
         have HK2 := Lib.hid hk2
         clear hk2 f2 HK H1)
      | (go_at_call 28
         (with_reducible refine (c_Ops HK2.out).mono ?_)
         rintro e w3 ⟨rfl, rfl⟩)
      | (go_at_call 35
         (with_reducible refine (H2 _ p g mb HK2.out).mono ?_)
         rintro e w4 ⟨rfl, hk4, f4⟩
         have HB4 := Lib.hid (HB2.out.trans (f4.bel (B := w.heap.size) (fun k e => by have := HG.out; omega) HB2.out.size))
         have HK4 := Lib.hid hk4
         clear hk4 f4 HK2 H2)
      | (go_at_call 28
         (with_reducible refine (c_Ops HK4.out).mono ?_)
         rintro e w3 ⟨rfl, rfl⟩)
      | (go_at_call 22
         (with_reducible refine (c_FuseD HK4.out (K : Int) hk).mono ?_)
         rintro e w6 ⟨rfl, hk6, f6⟩
         have HB6 := Lib.hid (HB4.out.trans (f6.bel (B := w.heap.size) (fun k e => by have := HG.out; omega) HB4.out.size))
         have HK6 := Lib.hid hk6
         clear hk6 f6 HK4)
      | (go_at_call 35
         (with_reducible refine (H3 _ p g mb HK6.out).mono ?_)
         rintro e w7 ⟨rfl, hk7, f7⟩
         have HB7 := Lib.hid (HB6.out.trans (f7.bel (B := w.heap.size) (fun k e => by have := HG.out; omega) HB6.out.size))
         have HK7 := Lib.hid hk7
         clear hk7 f7 HK6 H3)
      | (go_at_call 20
         (with_reducible refine (c_Crash HK7.out mask hm).mono ?_)
         rintro e w9 ⟨rfl, hk9, f9⟩
         have HB9 := Lib.hid (HB7.out.trans (f9.bel (B := w.heap.size) (fun k e => by have := HG.out; omega) HB7.out.size))
         have HK9 := Lib.hid hk9
         clear hk9 f9)
      | (go_at_call 37
         (with_reducible refine (c_GetE HK9.out).mono ?_)
         rw [HL.out]
         rintro e w10 ⟨rfl, hb10⟩
         have HB10 := Lib.hid (HB9.out.trans (hb10.mono HB9.out.size))
         clear hb10)
      )
      go_ret
      exact ⟨rfl, HB10.out.trans (b5.mono HB10.out.size)⟩
section
open Go.ChangeShapes Go.WideShapes Go.Deep
variable {H : Type} {enc : TypeId × Value → H} {P : Program} {W : World} {base : Nat} {spare : Nat → Bool} {held : Bool}
theorem open_point2 {r : Reach} {base2 : Nat} {t : TypeId} {v : Value} {d : DataW H} {ps : List MemPlace} (hL : flat P 4 t = some [.int .i64, .int .u64]) (hc : P.cellsOf t = 2) (ht : (P.underlying t).map (·.isRow) = some true)
    (hv : Value.okWide P W r base2 t v) (h : DataW.Trod enc P W base spare held t v d ps) : ∃ (k : Int) (m : Nat), v = .agg #[.int .i64 k, .int .u64 (m : Int)] ∧ (-9223372036854775808 ≤ k ∧ k ≤ 9223372036854775807) ∧ m < 18446744073709551616 := by
  obtain ⟨cs, rfl, hr⟩ := open_agg 4 hL hc ht hv h
  obtain ⟨v1, r1, rfl, k1, hr⟩ := rowOk_cons hr
  obtain ⟨v2, r2, rfl, k2, hr⟩ := rowOk_cons hr
  obtain rfl := rowOk_nil hr
  obtain ⟨z1, rfl, q1⟩ := leaf_i64 k1
  obtain ⟨z2, rfl, q2⟩ := leaf_u64 k2
  exact ⟨z1, z2, rfl, q1, q2⟩
end
end Go.Proofs.Ytpbcmghfhflkbaa.Actlog
