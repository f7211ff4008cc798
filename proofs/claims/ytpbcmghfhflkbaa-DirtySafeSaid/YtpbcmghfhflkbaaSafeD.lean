/- The law DirtySafe, walked. Conditions: none. -/
import Derived.Test.YtpbcmghfhflkbaaB11
import Derived.Test.YtpbcmghfhflkbaaB10
set_option linter.unusedVariables false
set_option linter.unusedSimpArgs false
namespace Go.Proofs.Ytpbcmghfhflkbaa.Dirty
open Go.RowKit Tw Disk Slots
set_option maxHeartbeats 8000000
set_option maxRecDepth 100000
theorem drops_snoc (m : Nat) (l : List Nat) (x : Nat) : Bt.drops m (l ++ [x]) = Bt.without (Bt.drops m l) (x : Int) := by simp [Bt.drops]
theorem rput_opsD (b s : Int) (d : Dsk) (x : Nat) : (rput b s d x).1.ops ≤ d.ops + 2 := by
  have h := sput_ops d b s x
  unfold rput
  (repeat' split) <;> first | exact h | exact Nat.le_add_right _ _
theorem ops_dclear (d : Dsk) (x : Int) : (dclear d x).1.ops ≤ d.ops + 2 := by
  have h := rput_opsD 6 2 d (Bt.without (latest d 6 2).2 x)
  unfold dclear
  split <;> exact h
theorem dirty_safe {mask k spare : Nat} (x : Int) (hm : mask < 18446744073709551616) (hk : k ≤ 3) :
    ∃ d1 d3 r g now c, dput (Dsk.new 12) mask = (d1, 0) ∧ (latest d1 6 2).2 = mask ∧ dclear (d1.setFuse (k : Int)) x = (d3, r, g) ∧ St (d3.crash spare) 12 c 0 0 now ∧ (d3.crash spare).fuse < 0 ∧ c ≤ 2 ∧ d1.ops ≤ 2 ∧ d3.ops ≤ 10 ∧ (now = mask ∨ now = Bt.without mask x) := by
  have h0 := st_new (N := 12) (by omega)
  obtain ⟨⟨d1, e1⟩, h1⟩ : ∃ r, dput (Dsk.new 12) mask = r := ⟨_, rfl⟩
  have hf0 : (Dsk.new 12).fuse < 0 := by simp [Dsk.new]
  have ho1 : d1.ops ≤ 2 := by
    have := rput_opsD 6 2 (Dsk.new 12) mask
    rw [show rput 6 2 (Dsk.new 12) mask = (d1, e1) from h1] at this
    exact this
  rcases h0.dput (by omega) hm h1 with ⟨rfl, s1, f1, _⟩ | ⟨_, f1, _⟩
  · obtain ⟨n1, hn1, l1⟩ := s1.dirty
    have s2 := s1.fused (k := (k : Int)) (by omega)
    obtain ⟨⟨d3, r, g⟩, h3⟩ : ∃ r, dclear (d1.setFuse (k : Int)) x = r := ⟨_, rfl⟩
    have ho3 : d3.ops ≤ 10 := by
      have := ops_dclear (d1.setFuse (k : Int)) x
      rw [h3] at this
      have e : (d1.setFuse (k : Int)).ops = d1.ops := rfl
      simp only at this
      omega
    rcases s2.clear (by omega) x h3 with ⟨rfl, rfl, s3, _, _⟩ | ⟨rfl, rfl, f3, s3⟩
    · exact ⟨d1, d3, _, 0, _, _, h1, by rw [l1], h3, s3.crash spare, by simp [Dsk.crash], by omega, ho1, ho3, .inr rfl⟩
    · obtain ⟨D', hor, s4⟩ := s3 spare
      exact ⟨d1, d3, _, 3, _, _, h1, by rw [l1], h3, s4, by simp [Dsk.crash], by omega, ho1, ho3, hor⟩
  · omega
/-- behind i clears -/
structure Clr (D : Dsk) (now : Nat) (l : List Nat) (i : Nat) : Prop where
  st : St D 12 (2 + i) 0 0 (Bt.drops now (l.take i))
  fuse : D.fuse < 0
  ops : D.ops ≤ 10 + 2 * i
theorem Clr.next {D D' : Dsk} {now : Nat} {l : List Nat} {i x r e : Nat} (h : Clr D now l i) (hi : i < 64) (hx : l[i]? = some x) (hs : dclear D (x : Int) = (D', r, e)) : e = 0 ∧ Clr D' now l (i + 1) := by
  have ho := ops_dclear D (x : Int)
  rw [hs] at ho
  simp only at ho
  rcases h.st.clear (by omega) (x : Int) hs with ⟨rfl, rfl, s3, f3, _⟩ | ⟨_, _, f3, _⟩
  · refine ⟨rfl, ?_, by rw [f3 h.fuse]; exact h.fuse, by have := h.ops; omega⟩
    have ht : l.take (i + 1) = l.take i ++ [x] := by rw [List.take_add_one, hx]; rfl
    rw [ht, drops_snoc]
    exact s3
  · have := h.fuse
    omega
theorem w_DirtySafe (mask : Nat) (x k : Int) (spare : Nat) (w : World) (hm : mask < 18446744073709551616) (hsp : spare < 18446744073709551616) (hk : -9223372036854775808 ≤ k ∧ k ≤ 9223372036854775807) :
    Calls Try.prog 9 #[.int .u64 (mask : Int), .int .i64 x, .agg #[.int .i64 k, .int .u64 (spare : Int)]] w fun e w' => e = .returned (.bool true) ∧ Below w.heap.size w w' := by
  have hB := ((Below.refl w.heap.size w).alloc (Nat.le_refl _) (.cells #[.int .i64 k, .int .u64 (spare : Int)] 80))
  have HX := Lib.hid (heap_alloc_new w (.cells #[.int .i64 k, .int .u64 (spare : Int)] 80))
  obtain ⟨k1, k2⟩ := cells2 HX.out
  have HB0 := Lib.hid hB
  clear hB
  go_enter Try.func9, Try.ntmps9
  go_wp2_with fail
  go_quiet (fail)
  have HBq := Lib.hid (HB0.out.trans ((Fr.drewN (S := fun _ => False) nq).bel (fun _ e => e.elim) HB0.out.size))
  generalize (w.alloc (.cells #[.int .i64 k, .int .u64 (spare : Int)] 80)).drewN nq = W1 at *
  clear k1 k2 HX HB0
  by_cases h4 : k < 0
  · go_wp2_with (first
    | (go_at_call 16
       (with_reducible refine (c_dNewI' 12 12 rfl _ (by omega) (by omega)).mono ?_)
       rintro e w1 ⟨p, g, mb, rfl, hk1, hge, hb1⟩
       have HB := Lib.hid (HBq.out.trans (hb1.mono HBq.out.size))
       have HK := Lib.hid hk1
       have HG : Hid (w.heap.size ≤ p ∧ w.heap.size ≤ g ∧ w.heap.size ≤ mb) := Lib.hid (by have := HBq.out.size; omega)
       clear hb1 hk1 hge)
    | (go_at_call 41; (with_reducible refine (c_lives _).mono ?_); rintro e w5 ⟨rfl, b5⟩)
    )
    go_ret
    exact ⟨rfl, HB.out.trans (b5.mono HB.out.size)⟩
  by_cases h5 : 3 < k
  · go_wp2_with (first
    | (go_at_call 16
       (with_reducible refine (c_dNewI' 12 12 rfl _ (by omega) (by omega)).mono ?_)
       rintro e w1 ⟨p, g, mb, rfl, hk1, hge, hb1⟩
       have HB := Lib.hid (HBq.out.trans (hb1.mono HBq.out.size))
       have HK := Lib.hid hk1
       have HG : Hid (w.heap.size ≤ p ∧ w.heap.size ≤ g ∧ w.heap.size ≤ mb) := Lib.hid (by have := HBq.out.size; omega)
       clear hb1 hk1 hge)
    | (go_at_call 41; (with_reducible refine (c_lives _).mono ?_); rintro e w5 ⟨rfl, b5⟩)
    )
    go_ret
    exact ⟨rfl, HB.out.trans (b5.mono HB.out.size)⟩
  obtain ⟨K, rfl⟩ : ∃ K : Nat, k = (K : Int) := ⟨k.toNat, by omega⟩
  obtain ⟨d1, d3, rr, gg, now, cc, h1, h2, h3, hst, hfu, hcc, ho1, ho3, hor⟩ := dirty_safe (spare := spare) x hm (by omega : K ≤ 3)
  have H1 := fun w p g mb (h : Dk w p g mb 12 (Dsk.new 12)) => c_PutE h (by simp [Dsk.new]) (mask : Int) mask rfl hm
  rw [h1] at H1
  have H3 := fun w p g mb (h : Dk w p g mb 12 (d1.setFuse (K : Int))) => c_ClearE h (by show d1.ops + 1 < _; omega) x
  rw [h3] at H3
  have Hnow := Lib.hid (hst.dirty)
  have hnl : now < 18446744073709551616 := by
    rcases hor with rfl | rfl
    · exact hm
    · exact Bt.without_lt hm x
  have hno : ∀ i, now.testBit i = true → mask.testBit i = true := fun i hi => by
    rcases hor with rfl | rfl
    · exact hi
    · by_cases hx : 0 ≤ x ∧ x < 64
      · rw [Bt.without_bit mask hm hx] at hi
        simp only [Bool.and_eq_true] at hi
        exact hi.1
      · rwa [Bt.without_off hx] at hi
  have Hall := Lib.hid (Bt.drops_all hm hnl hno)
  have Hw : Hid (now = mask ∨ now = Bt.without mask x) := Lib.hid hor
  have HC0 : Hid (Clr (d3.crash spare) now (Bt.upTo mask 64) 0) := Lib.hid ⟨by simpa [Bt.drops] using hst.mono hcc, hfu, by show d3.ops ≤ _; omega⟩
  have hcn : ∀ w p g mb, Dk w p g mb 12 (d3.crash spare) → Calls Try.prog 43 #[.pointer (some ⟨p, 0, none⟩)] w fun e w' => e = .returned (.int .u64 (now : Int)) ∧ Below w.heap.size w w' := fun w p g mb h => by
    have h9 := c_GetE h
    obtain ⟨n, _, hl⟩ := hst.dirty
    rw [hl] at h9
    exact h9
  have hcm : ∀ w p g mb, Dk w p g mb 12 d1 → Calls Try.prog 43 #[.pointer (some ⟨p, 0, none⟩)] w fun e w' => e = .returned (.int .u64 (mask : Int)) ∧ Below w.heap.size w w' := fun w p g mb h => by
    have h9 := c_GetE h
    rw [h2] at h9
    exact h9
  have hwo := fun w => Bt.r_Without mask hm x w
  have hls := fun w => Bt.r_List mask hm w
  have hlen := Bt.upTo_len mask 64
  have hmem : ∀ i z, (Bt.upTo mask 64)[i]? = some z → z < 64 := fun i z hz => (Bt.mem_upTo.1 (List.mem_of_getElem? hz)).1
  generalize Bt.without mask x = wo at *
  generalize Bt.upTo mask 64 = ul at *
  simp only at H1 H3
  clear h1 h2 h3 hst hfu hor hno Hnow hnl
  by_cases hnm : now = mask
  · have hn1 : ((now : Int) != (mask : Int)) = false := by simp [hnm]
    go_wp2_with (first
    | (go_at_call 16
       (with_reducible refine (c_dNewI' 12 12 rfl _ (by omega) (by omega)).mono ?_)
       rintro e w1 ⟨p, g, mb, rfl, hk1, hge, hb1⟩
       have HB := Lib.hid (HBq.out.trans (hb1.mono HBq.out.size))
       have HK := Lib.hid hk1
       have HG : Hid (w.heap.size ≤ p ∧ w.heap.size ≤ g ∧ w.heap.size ≤ mb) := Lib.hid (by have := HBq.out.size; omega)
       clear hb1 hk1 hge)
    | (go_at_call 41; (with_reducible refine (c_lives _).mono ?_); rintro e w5 ⟨rfl, b5⟩)
    | (go_at_call 42
       (with_reducible refine (H1 _ p g mb HK.out).mono ?_)
       rintro e w2 ⟨rfl, hk2, f2⟩
       have HB2 := Lib.hid (HB.out.trans (f2.bel (B := w.heap.size) (fun k e => by have := HG.out; omega) HB.out.size))
       have HK2 := Lib.hid hk2
       clear hk2 f2 HK H1)
    | (go_at_call 43
       (with_reducible refine (hcm _ p g mb HK2.out).mono ?_)
       rintro e w3 ⟨rfl, hb3⟩
       have HB2 := Lib.hid (HB2.out.trans (hb3.mono HB2.out.size))
       have HK2 := Lib.hid (HK2.out.bel hb3)
       clear hb3 hcm)
    | (go_at_call 22
       (with_reducible refine (c_FuseD HK2.out (K : Int) hk).mono ?_)
       rintro e w6 ⟨rfl, hk6, f6⟩
       have HB6 := Lib.hid (HB2.out.trans (f6.bel (B := w.heap.size) (fun k e => by have := HG.out; omega) HB2.out.size))
       have HK6 := Lib.hid hk6
       clear hk6 f6 HK2)
    | (go_at_call 44
       (with_reducible refine (H3 _ p g mb HK6.out).mono ?_)
       rintro e w7 ⟨rfl, hk7, f7⟩
       have HB7 := Lib.hid (HB6.out.trans (f7.bel (B := w.heap.size) (fun k e => by have := HG.out; omega) HB6.out.size))
       have HK7 := Lib.hid hk7
       clear hk7 f7 HK6 H3)
    | (go_at_call 20
       (with_reducible refine (c_Crash HK7.out spare hsp).mono ?_)
       rintro e w9 ⟨rfl, hk9, f9⟩
       have HB9 := Lib.hid (HB7.out.trans (f9.bel (B := w.heap.size) (fun k e => by have := HG.out; omega) HB7.out.size))
       have HK9 := Lib.hid hk9
       clear hk9 f9)
    | (go_at_call 43
       (with_reducible refine (hcn _ p g mb HK9.out).mono ?_)
       rintro e w10 ⟨rfl, hb10⟩
       have HB10 := Lib.hid (HB9.out.trans (hb10.mono HB9.out.size))
       have HK10 := Lib.hid (HK9.out.bel hb10)
       clear hb10 hcn)
    | (go_at_call 45
       (with_reducible refine (hwo _).mono ?_)
       rintro e w11 ⟨rfl, rfl⟩)
    | (go_at_call 46
       (with_reducible refine (hls _).mono ?_)
       rintro e w12 ⟨A, c2, rfl, ho12, hb12⟩
       have HB12 := Lib.hid (HB10.out.trans (hb12.mono HB10.out.size))
       have HK12 := Lib.hid (HK10.out.bel hb12)
       have HO12 := Lib.hid (Tw.Own.mono ho12 HB10.out.size).rd
       have HO13 := Lib.hid ho12
       have HL12 := Lib.hid (And.intro HK10.out.lts HB10.out.size)
       clear ho12 hb12)
    )
    generalize d3.crash spare = D0 at *
    go_loopw [65] (fun v wr => ∃ (i : Nat) (D : Dsk), i ≤ ul.length ∧ v = .int .i64 (i : Int) ∧ Hid (Dk wr p g mb 12 D) ∧ Hid (Clr D now ul i) ∧ Hid (Fr (fun k => k = p ∨ k = g ∨ k = mb) w12 wr)) (fun v _ => ul.length - (intOf v).toNat)
    case atStart => exact ⟨0, D0, Nat.zero_le _, rfl, HK12, HC0, Lib.hid (Fr.refl _ _)⟩
    case round =>
      clear HK12 HC0
      obtain ⟨i, D, hi, rfl, HK, HC, HF⟩ := hrel
      by_cases hin : i < ul.length
      · have HR := Lib.hid (HO13.out.fr HF.out (fun ad e => by have h1 := (HO13.out.at0 ad e).1; have h2 := HL12.out.1; omega)).rd
        obtain ⟨ad, u, rfl, hu, hcu⟩ := HR.out.at1 (k := i) hin
        obtain ⟨z, hz⟩ : ∃ z, ul[i]? = some z := ⟨_, List.getElem?_eq_getElem hin⟩
        have hzu : u = .int .i64 (z : Int) := by
          have : (Bt.nsV ul)[i]? = some (.int .i64 (z : Int)) := by simp [Bt.nsV, hz]
          rw [this] at hu
          injection hu with hu
          exact hu.symm
        subst hzu
        obtain ⟨⟨D', r', e'⟩, hcl⟩ : ∃ r, dclear D (z : Int) = r := ⟨_, rfl⟩
        obtain ⟨rfl, hn⟩ := HC.out.next (by omega) hz hcl
        have HN := Lib.hid hn
        have hce := fun w (h : Dk w p g mb 12 D) => c_ClearE h (by have := HC.out.ops; omega) (z : Int)
        rw [hcl] at hce
        simp only at hce
        clear hu hz hcl hn
        go_wp2_with (first
          | (go_at_call 44
             (with_reducible refine (hce _ HK.out).mono ?_)
             rintro e w14 ⟨rfl, hk14, f14⟩
             have HK14 := Lib.hid hk14
             have HF14 := Lib.hid (HF.out.trans f14 (fun _ _ e => e))
             clear hk14 f14 hce hcu))
        go_roundw
        case rel => exact ⟨i + 1, D', by omega, by go_num, HK14, HN, HF14⟩
        case measure => simp [intOf] <;> omega
      · obtain rfl : i = ul.length := by omega
        have hz : (latest D 6 2).2 = 0 := by
          obtain ⟨n, _, hl⟩ := HC.out.st.dirty
          rw [hl]
          simp only
          rw [List.take_length]
          exact Hall.out
        have hg := c_GetE HK.out
        rw [hz] at hg
        have HBf := Lib.hid (HB12.out.trans (HF.out.bel (B := w.heap.size) (fun k e => by have := HG.out; omega) HB12.out.size))
        clear hz
        go_wp2_with (first
          | (go_at_call 43
             (with_reducible refine hg.mono ?_)
             rintro e w15 ⟨rfl, hb15⟩
             have HB15 := Lib.hid (HBf.out.trans (hb15.mono HBf.out.size))
             clear hb15)
          | (go_at_call 41; (with_reducible refine (c_lives _).mono ?_); rintro e w5 ⟨rfl, b5⟩))
        go_ret
        exact ⟨rfl, HB15.out.trans (b5.mono HB15.out.size)⟩
  · have hn1 : ((now : Int) != (mask : Int)) = true := by simp; omega
    have hn2 : ((now : Int) != (wo : Int)) = false := by
      rcases Hw.out with e | e
      · exact absurd e hnm
      · simp [e]
    go_wp2_with (first
    | (go_at_call 16
       (with_reducible refine (c_dNewI' 12 12 rfl _ (by omega) (by omega)).mono ?_)
       rintro e w1 ⟨p, g, mb, rfl, hk1, hge, hb1⟩
       have HB := Lib.hid (HBq.out.trans (hb1.mono HBq.out.size))
       have HK := Lib.hid hk1
       have HG : Hid (w.heap.size ≤ p ∧ w.heap.size ≤ g ∧ w.heap.size ≤ mb) := Lib.hid (by have := HBq.out.size; omega)
       clear hb1 hk1 hge)
    | (go_at_call 41; (with_reducible refine (c_lives _).mono ?_); rintro e w5 ⟨rfl, b5⟩)
    | (go_at_call 42
       (with_reducible refine (H1 _ p g mb HK.out).mono ?_)
       rintro e w2 ⟨rfl, hk2, f2⟩
       have HB2 := Lib.hid (HB.out.trans (f2.bel (B := w.heap.size) (fun k e => by have := HG.out; omega) HB.out.size))
       have HK2 := Lib.hid hk2
       clear hk2 f2 HK H1)
    | (go_at_call 43
       (with_reducible refine (hcm _ p g mb HK2.out).mono ?_)
       rintro e w3 ⟨rfl, hb3⟩
       have HB2 := Lib.hid (HB2.out.trans (hb3.mono HB2.out.size))
       have HK2 := Lib.hid (HK2.out.bel hb3)
       clear hb3 hcm)
    | (go_at_call 22
       (with_reducible refine (c_FuseD HK2.out (K : Int) hk).mono ?_)
       rintro e w6 ⟨rfl, hk6, f6⟩
       have HB6 := Lib.hid (HB2.out.trans (f6.bel (B := w.heap.size) (fun k e => by have := HG.out; omega) HB2.out.size))
       have HK6 := Lib.hid hk6
       clear hk6 f6 HK2)
    | (go_at_call 44
       (with_reducible refine (H3 _ p g mb HK6.out).mono ?_)
       rintro e w7 ⟨rfl, hk7, f7⟩
       have HB7 := Lib.hid (HB6.out.trans (f7.bel (B := w.heap.size) (fun k e => by have := HG.out; omega) HB6.out.size))
       have HK7 := Lib.hid hk7
       clear hk7 f7 HK6 H3)
    | (go_at_call 20
       (with_reducible refine (c_Crash HK7.out spare hsp).mono ?_)
       rintro e w9 ⟨rfl, hk9, f9⟩
       have HB9 := Lib.hid (HB7.out.trans (f9.bel (B := w.heap.size) (fun k e => by have := HG.out; omega) HB7.out.size))
       have HK9 := Lib.hid hk9
       clear hk9 f9)
    | (go_at_call 43
       (with_reducible refine (hcn _ p g mb HK9.out).mono ?_)
       rintro e w10 ⟨rfl, hb10⟩
       have HB10 := Lib.hid (HB9.out.trans (hb10.mono HB9.out.size))
       have HK10 := Lib.hid (HK9.out.bel hb10)
       clear hb10 hcn)
    | (go_at_call 45
       (with_reducible refine (hwo _).mono ?_)
       rintro e w11 ⟨rfl, rfl⟩)
    | (go_at_call 46
       (with_reducible refine (hls _).mono ?_)
       rintro e w12 ⟨A, c2, rfl, ho12, hb12⟩
       have HB12 := Lib.hid (HB10.out.trans (hb12.mono HB10.out.size))
       have HK12 := Lib.hid (HK10.out.bel hb12)
       have HO12 := Lib.hid (Tw.Own.mono ho12 HB10.out.size).rd
       have HO13 := Lib.hid ho12
       have HL12 := Lib.hid (And.intro HK10.out.lts HB10.out.size)
       clear ho12 hb12)
    )
    generalize d3.crash spare = D0 at *
    go_loopw [65] (fun v wr => ∃ (i : Nat) (D : Dsk), i ≤ ul.length ∧ v = .int .i64 (i : Int) ∧ Hid (Dk wr p g mb 12 D) ∧ Hid (Clr D now ul i) ∧ Hid (Fr (fun k => k = p ∨ k = g ∨ k = mb) w12 wr)) (fun v _ => ul.length - (intOf v).toNat)
    case atStart => exact ⟨0, D0, Nat.zero_le _, rfl, HK12, HC0, Lib.hid (Fr.refl _ _)⟩
    case round =>
      clear HK12 HC0
      obtain ⟨i, D, hi, rfl, HK, HC, HF⟩ := hrel
      by_cases hin : i < ul.length
      · have HR := Lib.hid (HO13.out.fr HF.out (fun ad e => by have h1 := (HO13.out.at0 ad e).1; have h2 := HL12.out.1; omega)).rd
        obtain ⟨ad, u, rfl, hu, hcu⟩ := HR.out.at1 (k := i) hin
        obtain ⟨z, hz⟩ : ∃ z, ul[i]? = some z := ⟨_, List.getElem?_eq_getElem hin⟩
        have hzu : u = .int .i64 (z : Int) := by
          have : (Bt.nsV ul)[i]? = some (.int .i64 (z : Int)) := by simp [Bt.nsV, hz]
          rw [this] at hu
          injection hu with hu
          exact hu.symm
        subst hzu
        obtain ⟨⟨D', r', e'⟩, hcl⟩ : ∃ r, dclear D (z : Int) = r := ⟨_, rfl⟩
        obtain ⟨rfl, hn⟩ := HC.out.next (by omega) hz hcl
        have HN := Lib.hid hn
        have hce := fun w (h : Dk w p g mb 12 D) => c_ClearE h (by have := HC.out.ops; omega) (z : Int)
        rw [hcl] at hce
        simp only at hce
        clear hu hz hcl hn
        go_wp2_with (first
          | (go_at_call 44
             (with_reducible refine (hce _ HK.out).mono ?_)
             rintro e w14 ⟨rfl, hk14, f14⟩
             have HK14 := Lib.hid hk14
             have HF14 := Lib.hid (HF.out.trans f14 (fun _ _ e => e))
             clear hk14 f14 hce hcu))
        go_roundw
        case rel => exact ⟨i + 1, D', by omega, by go_num, HK14, HN, HF14⟩
        case measure => simp [intOf] <;> omega
      · obtain rfl : i = ul.length := by omega
        have hz : (latest D 6 2).2 = 0 := by
          obtain ⟨n, _, hl⟩ := HC.out.st.dirty
          rw [hl]
          simp only
          rw [List.take_length]
          exact Hall.out
        have hg := c_GetE HK.out
        rw [hz] at hg
        have HBf := Lib.hid (HB12.out.trans (HF.out.bel (B := w.heap.size) (fun k e => by have := HG.out; omega) HB12.out.size))
        clear hz
        go_wp2_with (first
          | (go_at_call 43
             (with_reducible refine hg.mono ?_)
             rintro e w15 ⟨rfl, hb15⟩
             have HB15 := Lib.hid (HBf.out.trans (hb15.mono HBf.out.size))
             clear hb15)
          | (go_at_call 41; (with_reducible refine (c_lives _).mono ?_); rintro e w5 ⟨rfl, b5⟩))
        go_ret
        exact ⟨rfl, HB15.out.trans (b5.mono HB15.out.size)⟩
section
open Go.ChangeShapes Go.WideShapes Go.Deep
variable {H : Type} {enc : TypeId × Value → H} {P : Program} {W : World} {base : Nat} {spare : Nat → Bool} {held : Bool}
theorem open_pointD {r : Reach} {base2 : Nat} {t : TypeId} {v : Value} {d : DataW H} {ps : List MemPlace} (hL : flat P 4 t = some [.int .i64, .int .u64]) (hc : P.cellsOf t = 2) (ht : (P.underlying t).map (·.isRow) = some true)
    (hv : Value.okWide P W r base2 t v) (h : DataW.Trod enc P W base spare held t v d ps) : ∃ (k : Int) (m : Nat), v = .agg #[.int .i64 k, .int .u64 (m : Int)] ∧ (-9223372036854775808 ≤ k ∧ k ≤ 9223372036854775807) ∧ m < 18446744073709551616 := by
  obtain ⟨cs, rfl, hr⟩ := open_agg 4 hL hc ht hv h
  obtain ⟨v1, r1, rfl, k1, hr⟩ := rowOk_cons hr
  obtain ⟨v2, r2, rfl, k2, hr⟩ := rowOk_cons hr
  obtain rfl := rowOk_nil hr
  obtain ⟨z1, rfl, q1⟩ := leaf_i64 k1
  obtain ⟨z2, rfl, q2⟩ := leaf_u64 k2
  exact ⟨z1, z2, rfl, q1, q2⟩
end
end Go.Proofs.Ytpbcmghfhflkbaa.Dirty
