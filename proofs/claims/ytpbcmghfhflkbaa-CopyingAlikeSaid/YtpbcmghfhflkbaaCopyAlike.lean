/- The law CopyingAlike, walked. Conditions: none. -/
import Derived.Test.YtpbcmghfhflkbaaAlike
import Derived.Test.YtpbcmghfhflkbaaCopyEx
import Derived.Test.YtpbcmghfhflkbaaCopyingNone
set_option linter.unusedVariables false
set_option linter.unusedSimpArgs false
namespace Go.Proofs.Ytpbcmghfhflkbaa.Copying
open Go.RowKit Tw Disk Slots Go.Proofs.Ytpbcmghfhflkbaa.Data
set_option maxHeartbeats 8000000
set_option maxRecDepth 100000
/-- the first extents, without one -/
def psum (x : Nat) : Nat → Nat
  | 0 => 0
  | i + 1 => psum x i + if i = x then 0 else 2 ^ i
theorem psum_lt (x : Nat) : ∀ i, psum x i < 2 ^ i
  | 0 => by simp [psum]
  | i + 1 => by
    have := psum_lt x i
    rw [psum, Nat.pow_succ]
    split <;> omega
theorem c_without (x : Nat) (hx : x ≤ 3) (w : World) : Calls Try.prog 58 #[.int .i64 (x : Int)] w fun e w' => e = .returned (.int .u64 ((Bt.without 15 (x : Int) : Nat) : Int)) ∧ w = w' := by
  have hr : ∀ y : Nat, y < 4 → Bt.without 15 (y : Int) = psum y 4 := by decide
  rw [hr x (by omega)]
  go_enter Try.func58, Try.ntmps58
  go_wp2_with fail
  go_loopw [3, 4, 5] (fun v3 v4 v5 wr => ∃ (i s t : Nat), i ≤ 4 ∧ v3 = .int .u64 (s : Int) ∧ v4 = .int .u64 (t : Int) ∧ v5 = .int .i64 (i : Int) ∧ Hid (s = psum x i) ∧ Hid (t = 2 ^ i) ∧ Hid (wr = w)) (fun _ _ v5 _ => 4 - (intOf v5).toNat)
  case atStart => exact ⟨0, 0, 1, by omega, rfl, rfl, rfl, Lib.hid rfl, Lib.hid rfl, Lib.hid rfl⟩
  case round =>
    obtain ⟨i, s, t, hi, rfl, rfl, rfl, Hs, Ht, Hw⟩ := hrel
    by_cases hin : i < 4
    · have hs := psum_lt x i
      have ht : 2 ^ i ≤ 8 := by
        have := Nat.pow_le_pow_right (n := 2) (by omega) (by omega : i ≤ 3)
        simpa using this
      rw [← Hs.out, ← Ht.out] at hs
      rw [← Ht.out] at ht
      by_cases he : i = x
      · have hne : ((i : Int) != (x : Int)) = false := by simp [he]
        have HN : Hid (s = psum x (i + 1)) := Lib.hid (by rw [psum, if_pos he, Nat.add_zero]; exact Hs.out)
        have HT : Hid (t * 2 = 2 ^ (i + 1)) := Lib.hid (by rw [Nat.pow_succ, ← Ht.out])
        clear he
        go_wp2_with fail
        go_roundw
        case rel => exact ⟨i + 1, s, t * 2, by omega, rfl, by go_num, by go_num, HN, HT, Hw⟩
        case measure => simp [intOf] <;> omega
      · have hne : ((i : Int) != (x : Int)) = true := by simp; omega
        have HN : Hid (s + t = psum x (i + 1)) := Lib.hid (by rw [psum, if_neg he, ← Hs.out, ← Ht.out])
        have HT : Hid (t * 2 = 2 ^ (i + 1)) := Lib.hid (by rw [Nat.pow_succ, ← Ht.out])
        clear he
        go_wp2_with fail
        go_roundw
        case rel => exact ⟨i + 1, s + t, t * 2, by omega, by go_num, by go_num, by go_num, HN, HT, Hw⟩
        case measure => simp [intOf] <;> omega
    · obtain rfl : i = 4 := by omega
      go_wp2_with fail
      go_ret
      rw [Hs.out, Hw.out]
      exact ⟨rfl, rfl⟩
theorem w_CopyingAlike (A0 : Option Addr) (n0 c0 : Nat) (b : List UInt8) (A1 : Option Addr) (n1 c1 : Nat) (cc : List UInt8) (e k : Int) (spare : Nat) (w : World) (hb : Byt w A0 n0 c0 b) (hc : Byt w A1 n1 c1 cc) (hsp : spare < 18446744073709551616) (hk : -9223372036854775808 ≤ k ∧ k ≤ 9223372036854775807) :
    Calls Try.prog 11 #[.slice A0 n0 c0, .slice A1 n1 c1, .agg #[.int .i64 e, .int .i64 k, .int .u64 (spare : Int)]] w fun e w' => e = .returned (.bool true) ∧ Below w.heap.size w w' := by
  have hB := ((Below.refl w.heap.size w).alloc (Nat.le_refl _) (.cells #[.int .i64 e, .int .i64 k, .int .u64 (spare : Int)] 98))
  have HX := Lib.hid (heap_alloc_new w (.cells #[.int .i64 e, .int .i64 k, .int .u64 (spare : Int)] 98))
  obtain ⟨k1, k2, k3⟩ := three_cells HX.out
  have HB0 := Lib.hid hB
  have hbl := hb.blen
  have hcl := hc.blen
  have Hb0 := Lib.hid hb
  have Hc0 := Lib.hid hc
  clear hB hb hc
  go_enter Try.func11, Try.ntmps11
  go_wp2_with fail
  go_quiet (fail)
  have HBq := Lib.hid (HB0.out.trans ((Fr.drewN (S := fun _ => False) nq).bel (fun _ e => e.elim) HB0.out.size))
  have Hb := Lib.hid (Hb0.out.bel HBq.out)
  have Hc := Lib.hid (Hc0.out.bel HBq.out)
  have hA0 : ∀ ad, A0 = some ad → 0 < n0 → ad.block < w.heap.size := fun ad h1 h2 => by
    obtain ⟨ad', u, h3, _, h5⟩ := Hb0.out.at1 (k := 0) h2
    rw [h1] at h3
    injection h3 with h3
    subst h3
    have := block_lt_of_cell h5
    rwa [block_add] at this
  have hA1 : ∀ ad, A1 = some ad → 0 < n1 → ad.block < w.heap.size := fun ad h1 h2 => by
    obtain ⟨ad', u, h3, _, h5⟩ := Hc0.out.at1 (k := 0) h2
    rw [h1] at h3
    injection h3 with h3
    subst h3
    have := block_lt_of_cell h5
    rwa [block_add] at this
  have HA0 := Lib.hid hA0
  have HA1 := Lib.hid hA1
  generalize (w.alloc (.cells #[.int .i64 e, .int .i64 k, .int .u64 (spare : Int)] 98)).drewN nq = W1 at *
  clear k1 k2 k3 HX HB0 hA0 hA1
  by_cases h1 : n0 ≠ 64
  · have h1b : ((n0 : Int) != 64) = true := by simp; omega
    go_wp2_with (first
      | (go_at_call 52; (with_reducible refine (c_lives _).mono ?_); rintro e w5 ⟨rfl, b5⟩))
    go_ret
    exact ⟨rfl, HBq.out.trans (b5.mono HBq.out.size)⟩
  obtain rfl : n0 = 64 := by omega
  by_cases h2 : n1 ≠ 64
  · have h2b : ((n1 : Int) != 64) = true := by simp; omega
    go_wp2_with (first
      | (go_at_call 52; (with_reducible refine (c_lives _).mono ?_); rintro e w5 ⟨rfl, b5⟩))
    go_ret
    exact ⟨rfl, HBq.out.trans (b5.mono HBq.out.size)⟩
  obtain rfl : n1 = 64 := by omega
  clear h1 h2
  by_cases h3 : e < 0
  · skip
    go_wp2_with (first
      | (go_at_call 52; (with_reducible refine (c_lives _).mono ?_); rintro e w5 ⟨rfl, b5⟩))
    go_ret
    exact ⟨rfl, HBq.out.trans (b5.mono HBq.out.size)⟩
  by_cases h4 : 3 < e
  · skip
    go_wp2_with (first
      | (go_at_call 52; (with_reducible refine (c_lives _).mono ?_); rintro e w5 ⟨rfl, b5⟩))
    go_ret
    exact ⟨rfl, HBq.out.trans (b5.mono HBq.out.size)⟩
  by_cases h5 : k < 0
  · skip
    go_wp2_with (first
      | (go_at_call 52; (with_reducible refine (c_lives _).mono ?_); rintro e w5 ⟨rfl, b5⟩))
    go_ret
    exact ⟨rfl, HBq.out.trans (b5.mono HBq.out.size)⟩
  by_cases h6 : 10 < k
  · skip
    go_wp2_with (first
      | (go_at_call 52; (with_reducible refine (c_lives _).mono ?_); rintro e w5 ⟨rfl, b5⟩))
    go_ret
    exact ⟨rfl, HBq.out.trans (b5.mono HBq.out.size)⟩
  obtain ⟨x, rfl⟩ : ∃ x : Nat, e = (x : Int) := ⟨e.toNat, by omega⟩
  obtain ⟨K, rfl⟩ : ∃ K : Nat, k = (K : Int) := ⟨k.toNat, by omega⟩
  have hx3 : x ≤ 3 := by omega
  have hK10 : K ≤ 10 := by omega
  clear h3 h4 h5 h6
  have hxi : -9223372036854775808 ≤ (x : Int) ∧ (x : Int) ≤ 9223372036854775807 := by omega
  obtain ⟨dd, _, _, a1, _, _, ao, _, _, _, _, aok, aF, aext, alen⟩ := alike_start (x := x) (c := b) hx3 hbl
  obtain ⟨x1, x2, x3, b1, b2, b3, bo1, bo2, bo3, bst, bf3, _, _, _, _⟩ := alike_start (x := x) (c := cc) hx3 hcl
  have hrd : dRead dd (whole (x : Int)).1 (whole (x : Int)).2 = (b, 0) := by
    rw [ext_read aF alen (by omega) (by omega), ext_is hbl aext]
  obtain ⟨⟨dd2, ed2⟩, a2⟩ : ∃ r, dd.flush = r := ⟨_, rfl⟩
  have hed2 : ed2 = 0 := by
    have := aF.fuse
    rcases flush_step aF.broken with ⟨f0, _⟩ | ⟨_, hfl⟩
    · omega
    · rw [a2] at hfl
      exact (Prod.mk.inj hfl).2
  subst hed2
  have bst4 := bst.fused (k := (K : Int)) (by omega)
  have hfu4 : (x3.setFuse (K : Int)).fuse = (K : Int) := by simp [Dsk.setFuse]; omega
  obtain ⟨⟨x5, E5⟩, hcp⟩ : ∃ r, cput (x3.setFuse (K : Int)) (x : Int) b = r := ⟨_, rfl⟩
  obtain ⟨D', hst5, hor5, hz5, h75⟩ := cput_safe bst4 (by omega) (by rw [hfu4]; omega) (by omega) (by omega) hbl hcp spare
  rw [hfu4] at h75
  have hcm : cputM (x3.setFuse (K : Int)) 6 0 (x : Int) 0 false 64 b = (x5, E5) := by
    unfold cputM
    rw [if_pos ⟨rfl, ⟨by omega, .inr ⟨rfl, rfl⟩, .inr ⟨by omega, rfl⟩, ⟨by omega, .inr (.inl ⟨.inl rfl, by omega⟩)⟩, .inr (.inl ⟨rfl, rfl⟩)⟩⟩, hcp]
  have hl5 : (x5.crash spare).cells.length = 24 := hst5.len
  obtain ⟨nd, _, ld⟩ := hst5.dirty
  have hgd : ∀ W p g mb, Dk W p g mb 24 (x5.crash spare) → Calls Try.prog 43 #[.pointer (some ⟨p, 0, none⟩)] W fun e w' => e = .returned (.int .u64 (D' : Int)) ∧ Below W.heap.size W w' := fun W p g mb h => by
    have := Dirty.c_GetE h
    rw [ld] at this
    exact this
  obtain ⟨got, hgot⟩ : ∃ got, cat (fun i => Data.viewAt (x5.crash spare) (8 + 4 * x + i)) 4 = got := ⟨_, rfl⟩
  have hge : ∀ W p g mb, Dk W p g mb 24 (x5.crash spare) → Calls Try.prog 57 #[.pointer (some ⟨p, 0, none⟩), .int .i64 (x : Int)] W fun e w' => ∃ A2 c2, e = .returned (.tuple #[.slice A2 got.length c2, .int .i64 0]) ∧ Tw.Own w' W.heap.size 5 1 A2 got.length c2 (bytesV got) ∧ Below W.heap.size W w' := fun W p g mb h => by
    have := c_ExtentE h (x : Int) hxi
    rw [ext_read ⟨h.ok, by simp [Dsk.crash], rfl⟩ hl5 (by omega) (by omega), hgot] at this
    exact this
  have hgb : has_ext (x5.crash spare) (4 * x) 4 b → b = got := fun h => by rw [← hgot]; exact (ext_is hbl h).symm
  have hput : ∀ W p g mb A2 c2, Dk W p g mb 24 (x3.setFuse (K : Int)) → Byt W A2 64 c2 b → (∀ ad, A2 = some ad → 0 < 64 → ad.block ≠ p ∧ ad.block ≠ mb) → Calls Try.prog 56 #[.pointer (some ⟨p, 0, none⟩), .agg #[.int .i64 6, .int .i64 0, .int .i64 (x : Int), .int .u64 0, .bool false, .slice A2 64 c2]] W fun e w' => e = .returned (.tuple #[.agg (told (x : Int) E5), .int .i64 (E5 : Int)]) ∧ Dk w' p g mb 24 x5 ∧ Fr (fun k => k = p ∨ k = g ∨ k = mb) W w' := fun W p g mb A2 c2 h hbb hA => by
    have hw1 := wseq_ops (o := 4 * x) (b := b) (List.range 4) (x3.setFuse (K : Int))
    have hwe := ext_write (x := x) (b := b) bst4.len (by omega) (by omega) hbl
    have e3 : (x3.setFuse (K : Int)).ops = x3.ops := rfl
    rw [← hwe, List.length_range] at hw1
    have hf1 := (flush_facts (dWrite (x3.setFuse (K : Int)) (whole (x : Int)).1 (whole (x : Int)).2 b).1).1
    have := c_PutX h (by omega) 6 0 (x : Int) 0 false A2 64 c2 b hxi hbb hA (by omega) (by omega)
    rw [hcm] at this
    exact this
  have hcase : (E5 = 0 ∧ b = got ∧ D' = Bt.without 15 (x : Int)) ∨ (E5 ≠ 0 ∧ K < 7 ∧ b = got) ∨ (E5 ≠ 0 ∧ K < 7 ∧ D' = 15) := by
    by_cases hE : E5 = 0
    · exact .inl ⟨hE, hgb (hz5 hE).1, (hz5 hE).2⟩
    · have hK7 : K < 7 := by
        by_cases h7 : (7 : Int) ≤ (K : Int)
        · exact absurd (h75 h7) hE
        · omega
      rcases hor5 with h | h
      · exact .inr (.inl ⟨hE, hK7, hgb h⟩)
      · exact .inr (.inr ⟨hE, hK7, h⟩)
  clear hgot hcp hcm ld hor5 hz5 h75 hgb
  rcases hcase with ⟨rfl, rfl, rfl⟩ | ⟨hE, hK7, rfl⟩ | ⟨hE, hK7, rfl⟩
  · simp only [told, msV, if_true] at hput
    go_wp2_with (first
    | (go_at_call 16
       (with_reducible refine (c_dNewI' 24 24 rfl _ (by omega) (by omega)).mono ?_)
       rintro e w2 ⟨p2, g2, mb2, rfl, hk2, hge2, hb2⟩
       have HL := Lib.hid HKd.out.lts
       have HG2 := Lib.hid hge2
       have HAp : Hid ((p2 ≠ p ∧ p2 ≠ g ∧ p2 ≠ mb) ∧ (g2 ≠ p ∧ g2 ≠ g ∧ g2 ≠ mb) ∧ (mb2 ≠ p ∧ mb2 ≠ g ∧ mb2 ≠ mb)) := Lib.hid (by have := HL.out; omega)
       have HG2b : Hid (w.heap.size ≤ p2 ∧ w.heap.size ≤ g2 ∧ w.heap.size ≤ mb2) := Lib.hid (by have := HB.out.size; omega)
       have HKd := Lib.hid (HKd.out.bel hb2)
       have HKx := Lib.hid hk2
       have HB := Lib.hid (HB.out.trans (hb2.mono HB.out.size))
       clear hk2 hge2 hb2)
    | (go_at_call 16
       (with_reducible refine (c_dNewI' 24 24 rfl _ (by omega) (by omega)).mono ?_)
       rintro e w1 ⟨p, g, mb, rfl, hk1, hge, hb1⟩
       have HB := Lib.hid (HBq.out.trans (hb1.mono HBq.out.size))
       have HKd := Lib.hid hk1
       have HG1 : Hid (w.heap.size ≤ p ∧ w.heap.size ≤ g ∧ w.heap.size ≤ mb) := Lib.hid (by have := HBq.out.size; omega)
       clear hk1 hge hb1)
    | (go_at_call 53
       (with_reducible refine (c_SetExtentE HKd.out (by simp [Dsk.new]) (x : Int) hxi A0 64 c0 b (Hb0.out.bel HB.out) (fun ad h1 h2 => by have := HA0.out ad h1 h2; have := HG1.out; omega)).mono ?_)
       rw [a1]
       rintro e w3 ⟨rfl, h3, f3⟩
       have HKd := Lib.hid h3
       have HKx := Lib.hid (HKx.out.fr f3 (by have := HAp.out; omega) (by have := HAp.out; omega) (by have := HAp.out; omega))
       have HB := Lib.hid (HB.out.trans (f3.bel (B := w.heap.size) (fun k e => by have := HG1.out; omega) HB.out.size))
       clear h3 f3)
    | (go_at_call 53
       (with_reducible refine (c_SetExtentE HKx.out (by simp [Dsk.new]) (x : Int) hxi A1 64 c1 cc (Hc0.out.bel HB.out) (fun ad h1 h2 => by have := HA1.out ad h1 h2; have := HG2b.out; omega)).mono ?_)
       rw [b1]
       rintro e w4 ⟨rfl, h4, f4⟩
       have HKx := Lib.hid h4
       have HKd := Lib.hid (HKd.out.fr f4 (by have := HAp.out; omega) (by have := HAp.out; omega) (by have := HAp.out; omega))
       have HB := Lib.hid (HB.out.trans (f4.bel (B := w.heap.size) (fun k e => by have := HG2b.out; omega) HB.out.size))
       clear h4 f4)
    | (go_at_call 42
       (with_reducible refine (Dirty.c_PutE HKx.out (by omega) 15 15 rfl (by omega)).mono ?_)
       rw [b2]
       rintro e w5 ⟨rfl, h5, f5⟩
       have HKx := Lib.hid h5
       have HKd := Lib.hid (HKd.out.fr f5 (by have := HAp.out; omega) (by have := HAp.out; omega) (by have := HAp.out; omega))
       have HB := Lib.hid (HB.out.trans (f5.bel (B := w.heap.size) (fun k e => by have := HG2b.out; omega) HB.out.size))
       clear h5 f5)
    | (go_at_call 54
       (with_reducible refine (c_Give_ok HKd.out (x : Int) hxi b hrd).mono ?_)
       rw [hbl]
       simp only [msV]
       rintro e w6 ⟨A2, c2, rfl, ho6, hb6⟩
       have hx6 := heap_alloc_new w6 (.cells #[.int .i64 6, .int .i64 0, .int .i64 (x : Int), .int .u64 0, .bool false, .slice A2 64 c2] 101)
       have ha6 := (Below.refl w6.heap.size w6).alloc (Nat.le_refl _) (.cells #[.int .i64 6, .int .i64 0, .int .i64 (x : Int), .int .u64 0, .bool false, .slice A2 64 c2] 101)
       have HL6 := Lib.hid (And.intro HKd.out.lts HKx.out.lts)
       have HKd := Lib.hid ((HKd.out.bel hb6).bel ha6)
       have HKx := Lib.hid ((HKx.out.bel hb6).bel ha6)
       have HO6 := Lib.hid (Tw.Own.bel ho6 ha6)
       have HS6 := Lib.hid hb6.size
       have HB := Lib.hid ((HB.out.trans (hb6.mono HB.out.size)).trans (ha6.mono (Nat.le_trans HB.out.size hb6.size)))
       have HX6 := Lib.hid hx6
       clear ho6 hb6 hx6 ha6)
    | (go_at_call 55
       (with_reducible refine (c_Flush HKx.out (by omega)).mono ?_)
       rw [b3]
       rintro e w7 ⟨rfl, h7, f7⟩
       have HKx := Lib.hid h7
       have HKd := Lib.hid (HKd.out.fr f7 (by have := HAp.out; omega) (by have := HAp.out; omega) (by have := HAp.out; omega))
       have HX6 := Lib.hid (heap_fr HX6.out f7 (by have := HL6.out; have := HS6.out; omega))
       have HO6 := Lib.hid (Tw.Own.fr HO6.out f7 (fun ad e => by have := (HO6.out.at0 ad e).1; have := HL6.out; omega))
       have HB := Lib.hid (HB.out.trans (f7.bel (B := w.heap.size) (fun k e => by have := HG2b.out; omega) HB.out.size))
       clear h7 f7)
    | (go_at_call 55
       (with_reducible refine (c_Flush HKd.out (by omega)).mono ?_)
       rw [a2]
       rintro e w8 ⟨rfl, h8, f8⟩
       have HKx := Lib.hid (HKx.out.fr f8 (by have := HAp.out; omega) (by have := HAp.out; omega) (by have := HAp.out; omega))
       have HX6 := Lib.hid (heap_fr HX6.out f8 (by have := HL6.out; have := HS6.out; omega))
       have HO6 := Lib.hid (Tw.Own.fr HO6.out f8 (fun ad e => by have := (HO6.out.at0 ad e).1; have := HL6.out; omega))
       have HB := Lib.hid (HB.out.trans (f8.bel (B := w.heap.size) (fun k e => by have := HG1.out; omega) HB.out.size))
       clear h8 f8)
    | (go_at_call 22
       (with_reducible refine (c_FuseD HKx.out (K : Int) hk).mono ?_)
       rintro e w9 ⟨rfl, h9, f9⟩
       have HKx := Lib.hid h9
       have HX6 := Lib.hid (heap_fr HX6.out f9 (by have := HL6.out; have := HS6.out; omega))
       have HO6 := Lib.hid (Tw.Own.fr HO6.out f9 (fun ad e => by have := (HO6.out.at0 ad e).1; have := HL6.out; omega))
       have HB := Lib.hid (HB.out.trans (f9.bel (B := w.heap.size) (fun k e => by have := HG2b.out; omega) HB.out.size))
       clear h9 f9)
    | (go_at_call 56
       (with_reducible refine (hput _ p2 g2 mb2 A2 c2 HKx.out HO6.out.rd (fun ad h1 h2 => by have := (HO6.out.at0 ad h1).1; have := HL6.out; omega)).mono ?_)
       rintro e w10 ⟨rfl, h10, f10⟩
       have hx16 := heap_alloc_new w10 (.cells #[.int .i64 7, .int .i64 0, .int .i64 (x : Int), .int .u64 0, .bool false, .slice none 0 0] 101)
       have ha16 := (Below.refl w10.heap.size w10).alloc (Nat.le_refl _) (.cells #[.int .i64 7, .int .i64 0, .int .i64 (x : Int), .int .u64 0, .bool false, .slice none 0 0] 101)
       have HL16 := Lib.hid h10.lts
       have HKx := Lib.hid (h10.bel ha16)
       have hB10 := HB.out.trans (f10.bel (B := w.heap.size) (fun k e => by have := HG2b.out; omega) HB.out.size)
       have HB := Lib.hid (hB10.trans (ha16.mono hB10.size))
       have HX16 := Lib.hid hx16
       clear h10 f10 hx16 ha16 hB10 HX6 HO6)
    | (go_at_call 20
       (with_reducible refine (c_Crash HKx.out spare hsp).mono ?_)
       rintro e w11 ⟨rfl, h11, f11⟩
       have HKx := Lib.hid h11
       have HX16 := Lib.hid (heap_fr HX16.out f11 (by have := HL16.out; omega))
       have HB := Lib.hid (HB.out.trans (f11.bel (B := w.heap.size) (fun k e => by have := HG2b.out; omega) HB.out.size))
       clear h11 f11)
    | (go_at_call 57
       (with_reducible refine (hge _ p2 g2 mb2 HKx.out).mono ?_)
       rintro e w12 ⟨A3, c3, rfl, ho12, hb12⟩
       have HKx := Lib.hid (HKx.out.bel hb12)
       have HX16 := Lib.hid ((hb12.block _ (heap_lt HX16.out)).trans HX16.out)
       have HB := Lib.hid (HB.out.trans (hb12.mono HB.out.size))
       have HO12 := Lib.hid ho12.rd
       have hcv1 := run_str (P := Try.prog) w12 96 9 5 A3 64 c3 b Try.underlying96 Try.underlying5 Try.underlying9 (by first | exact HO12.out | (have h := HO12.out; rw [hbl] at h; exact h))
       have hcv2 := run_str (P := Try.prog) w12 96 9 5 A0 64 c0 b Try.underlying96 Try.underlying5 Try.underlying9 (Hb0.out.bel HB.out)
       have e16 := cells_of HX16.out 2 _ rfl
       clear ho12 hb12)
    | (go_at_call 43
       (with_reducible refine (hgd _ p2 g2 mb2 HKx.out).mono ?_)
       rintro e w13 ⟨rfl, hb13⟩
       have HKx := Lib.hid (HKx.out.bel hb13)
       have HX16 := Lib.hid ((hb13.block _ (heap_lt HX16.out)).trans HX16.out)
       have HB := Lib.hid (HB.out.trans (hb13.mono HB.out.size))
       have HO12 := Lib.hid (HO12.out.bel hb13)
       clear hcv1 hcv2 e16
       have hcv1 := run_str (P := Try.prog) w13 96 9 5 A3 64 c3 b Try.underlying96 Try.underlying5 Try.underlying9 (by first | exact HO12.out | (have h := HO12.out; rw [hbl] at h; exact h))
       have hcv2 := run_str (P := Try.prog) w13 96 9 5 A0 64 c0 b Try.underlying96 Try.underlying5 Try.underlying9 (Hb0.out.bel HB.out)
       have e16 := cells_of HX16.out 2 _ rfl
       clear hb13)
    | (go_at_call 58
       (with_reducible refine (c_without x hx3 _).mono ?_)
       rintro e w14 ⟨rfl, rfl⟩)
    | (go_at_call 52
       (with_reducible refine (c_lives _).mono ?_)
       rintro e w15 ⟨rfl, b15⟩)
    | (with_reducible refine wpL_load_rd ?hgd 101 (.tmp 14) ?ho ⟨w6.heap.size, 0, none⟩ ?hx [.int .i64 6, .int .i64 0, .int .i64 (x : Int), .int .u64 0, .bool false, .slice A2 64 c2] _ ((rd_of_heap (n := 6) HX6.out rfl (by simp [maxLen])).cell _ rfl) Try.underlying101 ?hd ?hi ?h
       case hgd => rfl
       case ho => rfl
       case hx => rfl
       case hd => rfl
       case hi => kernel_rfl)
    )
    go_ret
    exact ⟨rfl, HB.out.trans (b15.mono HB.out.size)⟩
  · have hE1 : ((E5 : Int) != 0) = true := by simp; omega
    simp only [told, m0, if_neg hE] at hput
    go_wp2_with (first
    | (go_at_call 16
       (with_reducible refine (c_dNewI' 24 24 rfl _ (by omega) (by omega)).mono ?_)
       rintro e w2 ⟨p2, g2, mb2, rfl, hk2, hge2, hb2⟩
       have HL := Lib.hid HKd.out.lts
       have HG2 := Lib.hid hge2
       have HAp : Hid ((p2 ≠ p ∧ p2 ≠ g ∧ p2 ≠ mb) ∧ (g2 ≠ p ∧ g2 ≠ g ∧ g2 ≠ mb) ∧ (mb2 ≠ p ∧ mb2 ≠ g ∧ mb2 ≠ mb)) := Lib.hid (by have := HL.out; omega)
       have HG2b : Hid (w.heap.size ≤ p2 ∧ w.heap.size ≤ g2 ∧ w.heap.size ≤ mb2) := Lib.hid (by have := HB.out.size; omega)
       have HKd := Lib.hid (HKd.out.bel hb2)
       have HKx := Lib.hid hk2
       have HB := Lib.hid (HB.out.trans (hb2.mono HB.out.size))
       clear hk2 hge2 hb2)
    | (go_at_call 16
       (with_reducible refine (c_dNewI' 24 24 rfl _ (by omega) (by omega)).mono ?_)
       rintro e w1 ⟨p, g, mb, rfl, hk1, hge, hb1⟩
       have HB := Lib.hid (HBq.out.trans (hb1.mono HBq.out.size))
       have HKd := Lib.hid hk1
       have HG1 : Hid (w.heap.size ≤ p ∧ w.heap.size ≤ g ∧ w.heap.size ≤ mb) := Lib.hid (by have := HBq.out.size; omega)
       clear hk1 hge hb1)
    | (go_at_call 53
       (with_reducible refine (c_SetExtentE HKd.out (by simp [Dsk.new]) (x : Int) hxi A0 64 c0 b (Hb0.out.bel HB.out) (fun ad h1 h2 => by have := HA0.out ad h1 h2; have := HG1.out; omega)).mono ?_)
       rw [a1]
       rintro e w3 ⟨rfl, h3, f3⟩
       have HKd := Lib.hid h3
       have HKx := Lib.hid (HKx.out.fr f3 (by have := HAp.out; omega) (by have := HAp.out; omega) (by have := HAp.out; omega))
       have HB := Lib.hid (HB.out.trans (f3.bel (B := w.heap.size) (fun k e => by have := HG1.out; omega) HB.out.size))
       clear h3 f3)
    | (go_at_call 53
       (with_reducible refine (c_SetExtentE HKx.out (by simp [Dsk.new]) (x : Int) hxi A1 64 c1 cc (Hc0.out.bel HB.out) (fun ad h1 h2 => by have := HA1.out ad h1 h2; have := HG2b.out; omega)).mono ?_)
       rw [b1]
       rintro e w4 ⟨rfl, h4, f4⟩
       have HKx := Lib.hid h4
       have HKd := Lib.hid (HKd.out.fr f4 (by have := HAp.out; omega) (by have := HAp.out; omega) (by have := HAp.out; omega))
       have HB := Lib.hid (HB.out.trans (f4.bel (B := w.heap.size) (fun k e => by have := HG2b.out; omega) HB.out.size))
       clear h4 f4)
    | (go_at_call 42
       (with_reducible refine (Dirty.c_PutE HKx.out (by omega) 15 15 rfl (by omega)).mono ?_)
       rw [b2]
       rintro e w5 ⟨rfl, h5, f5⟩
       have HKx := Lib.hid h5
       have HKd := Lib.hid (HKd.out.fr f5 (by have := HAp.out; omega) (by have := HAp.out; omega) (by have := HAp.out; omega))
       have HB := Lib.hid (HB.out.trans (f5.bel (B := w.heap.size) (fun k e => by have := HG2b.out; omega) HB.out.size))
       clear h5 f5)
    | (go_at_call 54
       (with_reducible refine (c_Give_ok HKd.out (x : Int) hxi b hrd).mono ?_)
       rw [hbl]
       simp only [msV]
       rintro e w6 ⟨A2, c2, rfl, ho6, hb6⟩
       have hx6 := heap_alloc_new w6 (.cells #[.int .i64 6, .int .i64 0, .int .i64 (x : Int), .int .u64 0, .bool false, .slice A2 64 c2] 101)
       have ha6 := (Below.refl w6.heap.size w6).alloc (Nat.le_refl _) (.cells #[.int .i64 6, .int .i64 0, .int .i64 (x : Int), .int .u64 0, .bool false, .slice A2 64 c2] 101)
       have HL6 := Lib.hid (And.intro HKd.out.lts HKx.out.lts)
       have HKd := Lib.hid ((HKd.out.bel hb6).bel ha6)
       have HKx := Lib.hid ((HKx.out.bel hb6).bel ha6)
       have HO6 := Lib.hid (Tw.Own.bel ho6 ha6)
       have HS6 := Lib.hid hb6.size
       have HB := Lib.hid ((HB.out.trans (hb6.mono HB.out.size)).trans (ha6.mono (Nat.le_trans HB.out.size hb6.size)))
       have HX6 := Lib.hid hx6
       clear ho6 hb6 hx6 ha6)
    | (go_at_call 55
       (with_reducible refine (c_Flush HKx.out (by omega)).mono ?_)
       rw [b3]
       rintro e w7 ⟨rfl, h7, f7⟩
       have HKx := Lib.hid h7
       have HKd := Lib.hid (HKd.out.fr f7 (by have := HAp.out; omega) (by have := HAp.out; omega) (by have := HAp.out; omega))
       have HX6 := Lib.hid (heap_fr HX6.out f7 (by have := HL6.out; have := HS6.out; omega))
       have HO6 := Lib.hid (Tw.Own.fr HO6.out f7 (fun ad e => by have := (HO6.out.at0 ad e).1; have := HL6.out; omega))
       have HB := Lib.hid (HB.out.trans (f7.bel (B := w.heap.size) (fun k e => by have := HG2b.out; omega) HB.out.size))
       clear h7 f7)
    | (go_at_call 55
       (with_reducible refine (c_Flush HKd.out (by omega)).mono ?_)
       rw [a2]
       rintro e w8 ⟨rfl, h8, f8⟩
       have HKx := Lib.hid (HKx.out.fr f8 (by have := HAp.out; omega) (by have := HAp.out; omega) (by have := HAp.out; omega))
       have HX6 := Lib.hid (heap_fr HX6.out f8 (by have := HL6.out; have := HS6.out; omega))
       have HO6 := Lib.hid (Tw.Own.fr HO6.out f8 (fun ad e => by have := (HO6.out.at0 ad e).1; have := HL6.out; omega))
       have HB := Lib.hid (HB.out.trans (f8.bel (B := w.heap.size) (fun k e => by have := HG1.out; omega) HB.out.size))
       clear h8 f8)
    | (go_at_call 22
       (with_reducible refine (c_FuseD HKx.out (K : Int) hk).mono ?_)
       rintro e w9 ⟨rfl, h9, f9⟩
       have HKx := Lib.hid h9
       have HX6 := Lib.hid (heap_fr HX6.out f9 (by have := HL6.out; have := HS6.out; omega))
       have HO6 := Lib.hid (Tw.Own.fr HO6.out f9 (fun ad e => by have := (HO6.out.at0 ad e).1; have := HL6.out; omega))
       have HB := Lib.hid (HB.out.trans (f9.bel (B := w.heap.size) (fun k e => by have := HG2b.out; omega) HB.out.size))
       clear h9 f9)
    | (go_at_call 56
       (with_reducible refine (hput _ p2 g2 mb2 A2 c2 HKx.out HO6.out.rd (fun ad h1 h2 => by have := (HO6.out.at0 ad h1).1; have := HL6.out; omega)).mono ?_)
       rintro e w10 ⟨rfl, h10, f10⟩
       have hx16 := heap_alloc_new w10 (.cells #[.int .i64 0, .int .i64 0, .int .i64 0, .int .u64 0, .bool false, .slice none 0 0] 101)
       have ha16 := (Below.refl w10.heap.size w10).alloc (Nat.le_refl _) (.cells #[.int .i64 0, .int .i64 0, .int .i64 0, .int .u64 0, .bool false, .slice none 0 0] 101)
       have HL16 := Lib.hid h10.lts
       have HKx := Lib.hid (h10.bel ha16)
       have hB10 := HB.out.trans (f10.bel (B := w.heap.size) (fun k e => by have := HG2b.out; omega) HB.out.size)
       have HB := Lib.hid (hB10.trans (ha16.mono hB10.size))
       have HX16 := Lib.hid hx16
       clear h10 f10 hx16 ha16 hB10 HX6 HO6)
    | (go_at_call 20
       (with_reducible refine (c_Crash HKx.out spare hsp).mono ?_)
       rintro e w11 ⟨rfl, h11, f11⟩
       have HKx := Lib.hid h11
       have HX16 := Lib.hid (heap_fr HX16.out f11 (by have := HL16.out; omega))
       have HB := Lib.hid (HB.out.trans (f11.bel (B := w.heap.size) (fun k e => by have := HG2b.out; omega) HB.out.size))
       clear h11 f11)
    | (go_at_call 57
       (with_reducible refine (hge _ p2 g2 mb2 HKx.out).mono ?_)
       rintro e w12 ⟨A3, c3, rfl, ho12, hb12⟩
       have HKx := Lib.hid (HKx.out.bel hb12)
       have HX16 := Lib.hid ((hb12.block _ (heap_lt HX16.out)).trans HX16.out)
       have HB := Lib.hid (HB.out.trans (hb12.mono HB.out.size))
       have HO12 := Lib.hid ho12.rd
       have hcv1 := run_str (P := Try.prog) w12 96 9 5 A3 64 c3 b Try.underlying96 Try.underlying5 Try.underlying9 (by first | exact HO12.out | (have h := HO12.out; rw [hbl] at h; exact h))
       have hcv2 := run_str (P := Try.prog) w12 96 9 5 A0 64 c0 b Try.underlying96 Try.underlying5 Try.underlying9 (Hb0.out.bel HB.out)
       have e16 := cells_of HX16.out 2 _ rfl
       clear ho12 hb12)
    | (go_at_call 43
       (with_reducible refine (hgd _ p2 g2 mb2 HKx.out).mono ?_)
       rintro e w13 ⟨rfl, hb13⟩
       have HKx := Lib.hid (HKx.out.bel hb13)
       have HX16 := Lib.hid ((hb13.block _ (heap_lt HX16.out)).trans HX16.out)
       have HB := Lib.hid (HB.out.trans (hb13.mono HB.out.size))
       have HO12 := Lib.hid (HO12.out.bel hb13)
       clear hcv1 hcv2 e16
       have hcv1 := run_str (P := Try.prog) w13 96 9 5 A3 64 c3 b Try.underlying96 Try.underlying5 Try.underlying9 (by first | exact HO12.out | (have h := HO12.out; rw [hbl] at h; exact h))
       have hcv2 := run_str (P := Try.prog) w13 96 9 5 A0 64 c0 b Try.underlying96 Try.underlying5 Try.underlying9 (Hb0.out.bel HB.out)
       have e16 := cells_of HX16.out 2 _ rfl
       clear hb13)
    | (go_at_call 58
       (with_reducible refine (c_without x hx3 _).mono ?_)
       rintro e w14 ⟨rfl, rfl⟩)
    | (go_at_call 52
       (with_reducible refine (c_lives _).mono ?_)
       rintro e w15 ⟨rfl, b15⟩)
    | (with_reducible refine wpL_load_rd ?hgd 101 (.tmp 14) ?ho ⟨w6.heap.size, 0, none⟩ ?hx [.int .i64 6, .int .i64 0, .int .i64 (x : Int), .int .u64 0, .bool false, .slice A2 64 c2] _ ((rd_of_heap (n := 6) HX6.out rfl (by simp [maxLen])).cell _ rfl) Try.underlying101 ?hd ?hi ?h
       case hgd => rfl
       case ho => rfl
       case hx => rfl
       case hd => rfl
       case hi => kernel_rfl)
    )
    go_ret
    exact ⟨rfl, HB.out.trans (b15.mono HB.out.size)⟩
  · have hE1 : ((E5 : Int) != 0) = true := by simp; omega
    simp only [told, m0, if_neg hE] at hput
    go_wp2_with (first
    | (go_at_call 16
       (with_reducible refine (c_dNewI' 24 24 rfl _ (by omega) (by omega)).mono ?_)
       rintro e w2 ⟨p2, g2, mb2, rfl, hk2, hge2, hb2⟩
       have HL := Lib.hid HKd.out.lts
       have HG2 := Lib.hid hge2
       have HAp : Hid ((p2 ≠ p ∧ p2 ≠ g ∧ p2 ≠ mb) ∧ (g2 ≠ p ∧ g2 ≠ g ∧ g2 ≠ mb) ∧ (mb2 ≠ p ∧ mb2 ≠ g ∧ mb2 ≠ mb)) := Lib.hid (by have := HL.out; omega)
       have HG2b : Hid (w.heap.size ≤ p2 ∧ w.heap.size ≤ g2 ∧ w.heap.size ≤ mb2) := Lib.hid (by have := HB.out.size; omega)
       have HKd := Lib.hid (HKd.out.bel hb2)
       have HKx := Lib.hid hk2
       have HB := Lib.hid (HB.out.trans (hb2.mono HB.out.size))
       clear hk2 hge2 hb2)
    | (go_at_call 16
       (with_reducible refine (c_dNewI' 24 24 rfl _ (by omega) (by omega)).mono ?_)
       rintro e w1 ⟨p, g, mb, rfl, hk1, hge, hb1⟩
       have HB := Lib.hid (HBq.out.trans (hb1.mono HBq.out.size))
       have HKd := Lib.hid hk1
       have HG1 : Hid (w.heap.size ≤ p ∧ w.heap.size ≤ g ∧ w.heap.size ≤ mb) := Lib.hid (by have := HBq.out.size; omega)
       clear hk1 hge hb1)
    | (go_at_call 53
       (with_reducible refine (c_SetExtentE HKd.out (by simp [Dsk.new]) (x : Int) hxi A0 64 c0 b (Hb0.out.bel HB.out) (fun ad h1 h2 => by have := HA0.out ad h1 h2; have := HG1.out; omega)).mono ?_)
       rw [a1]
       rintro e w3 ⟨rfl, h3, f3⟩
       have HKd := Lib.hid h3
       have HKx := Lib.hid (HKx.out.fr f3 (by have := HAp.out; omega) (by have := HAp.out; omega) (by have := HAp.out; omega))
       have HB := Lib.hid (HB.out.trans (f3.bel (B := w.heap.size) (fun k e => by have := HG1.out; omega) HB.out.size))
       clear h3 f3)
    | (go_at_call 53
       (with_reducible refine (c_SetExtentE HKx.out (by simp [Dsk.new]) (x : Int) hxi A1 64 c1 cc (Hc0.out.bel HB.out) (fun ad h1 h2 => by have := HA1.out ad h1 h2; have := HG2b.out; omega)).mono ?_)
       rw [b1]
       rintro e w4 ⟨rfl, h4, f4⟩
       have HKx := Lib.hid h4
       have HKd := Lib.hid (HKd.out.fr f4 (by have := HAp.out; omega) (by have := HAp.out; omega) (by have := HAp.out; omega))
       have HB := Lib.hid (HB.out.trans (f4.bel (B := w.heap.size) (fun k e => by have := HG2b.out; omega) HB.out.size))
       clear h4 f4)
    | (go_at_call 42
       (with_reducible refine (Dirty.c_PutE HKx.out (by omega) 15 15 rfl (by omega)).mono ?_)
       rw [b2]
       rintro e w5 ⟨rfl, h5, f5⟩
       have HKx := Lib.hid h5
       have HKd := Lib.hid (HKd.out.fr f5 (by have := HAp.out; omega) (by have := HAp.out; omega) (by have := HAp.out; omega))
       have HB := Lib.hid (HB.out.trans (f5.bel (B := w.heap.size) (fun k e => by have := HG2b.out; omega) HB.out.size))
       clear h5 f5)
    | (go_at_call 54
       (with_reducible refine (c_Give_ok HKd.out (x : Int) hxi b hrd).mono ?_)
       rw [hbl]
       simp only [msV]
       rintro e w6 ⟨A2, c2, rfl, ho6, hb6⟩
       have hx6 := heap_alloc_new w6 (.cells #[.int .i64 6, .int .i64 0, .int .i64 (x : Int), .int .u64 0, .bool false, .slice A2 64 c2] 101)
       have ha6 := (Below.refl w6.heap.size w6).alloc (Nat.le_refl _) (.cells #[.int .i64 6, .int .i64 0, .int .i64 (x : Int), .int .u64 0, .bool false, .slice A2 64 c2] 101)
       have HL6 := Lib.hid (And.intro HKd.out.lts HKx.out.lts)
       have HKd := Lib.hid ((HKd.out.bel hb6).bel ha6)
       have HKx := Lib.hid ((HKx.out.bel hb6).bel ha6)
       have HO6 := Lib.hid (Tw.Own.bel ho6 ha6)
       have HS6 := Lib.hid hb6.size
       have HB := Lib.hid ((HB.out.trans (hb6.mono HB.out.size)).trans (ha6.mono (Nat.le_trans HB.out.size hb6.size)))
       have HX6 := Lib.hid hx6
       clear ho6 hb6 hx6 ha6)
    | (go_at_call 55
       (with_reducible refine (c_Flush HKx.out (by omega)).mono ?_)
       rw [b3]
       rintro e w7 ⟨rfl, h7, f7⟩
       have HKx := Lib.hid h7
       have HKd := Lib.hid (HKd.out.fr f7 (by have := HAp.out; omega) (by have := HAp.out; omega) (by have := HAp.out; omega))
       have HX6 := Lib.hid (heap_fr HX6.out f7 (by have := HL6.out; have := HS6.out; omega))
       have HO6 := Lib.hid (Tw.Own.fr HO6.out f7 (fun ad e => by have := (HO6.out.at0 ad e).1; have := HL6.out; omega))
       have HB := Lib.hid (HB.out.trans (f7.bel (B := w.heap.size) (fun k e => by have := HG2b.out; omega) HB.out.size))
       clear h7 f7)
    | (go_at_call 55
       (with_reducible refine (c_Flush HKd.out (by omega)).mono ?_)
       rw [a2]
       rintro e w8 ⟨rfl, h8, f8⟩
       have HKx := Lib.hid (HKx.out.fr f8 (by have := HAp.out; omega) (by have := HAp.out; omega) (by have := HAp.out; omega))
       have HX6 := Lib.hid (heap_fr HX6.out f8 (by have := HL6.out; have := HS6.out; omega))
       have HO6 := Lib.hid (Tw.Own.fr HO6.out f8 (fun ad e => by have := (HO6.out.at0 ad e).1; have := HL6.out; omega))
       have HB := Lib.hid (HB.out.trans (f8.bel (B := w.heap.size) (fun k e => by have := HG1.out; omega) HB.out.size))
       clear h8 f8)
    | (go_at_call 22
       (with_reducible refine (c_FuseD HKx.out (K : Int) hk).mono ?_)
       rintro e w9 ⟨rfl, h9, f9⟩
       have HKx := Lib.hid h9
       have HX6 := Lib.hid (heap_fr HX6.out f9 (by have := HL6.out; have := HS6.out; omega))
       have HO6 := Lib.hid (Tw.Own.fr HO6.out f9 (fun ad e => by have := (HO6.out.at0 ad e).1; have := HL6.out; omega))
       have HB := Lib.hid (HB.out.trans (f9.bel (B := w.heap.size) (fun k e => by have := HG2b.out; omega) HB.out.size))
       clear h9 f9)
    | (go_at_call 56
       (with_reducible refine (hput _ p2 g2 mb2 A2 c2 HKx.out HO6.out.rd (fun ad h1 h2 => by have := (HO6.out.at0 ad h1).1; have := HL6.out; omega)).mono ?_)
       rintro e w10 ⟨rfl, h10, f10⟩
       have hx16 := heap_alloc_new w10 (.cells #[.int .i64 0, .int .i64 0, .int .i64 0, .int .u64 0, .bool false, .slice none 0 0] 101)
       have ha16 := (Below.refl w10.heap.size w10).alloc (Nat.le_refl _) (.cells #[.int .i64 0, .int .i64 0, .int .i64 0, .int .u64 0, .bool false, .slice none 0 0] 101)
       have HL16 := Lib.hid h10.lts
       have HKx := Lib.hid (h10.bel ha16)
       have hB10 := HB.out.trans (f10.bel (B := w.heap.size) (fun k e => by have := HG2b.out; omega) HB.out.size)
       have HB := Lib.hid (hB10.trans (ha16.mono hB10.size))
       have HX16 := Lib.hid hx16
       clear h10 f10 hx16 ha16 hB10 HX6 HO6)
    | (go_at_call 20
       (with_reducible refine (c_Crash HKx.out spare hsp).mono ?_)
       rintro e w11 ⟨rfl, h11, f11⟩
       have HKx := Lib.hid h11
       have HX16 := Lib.hid (heap_fr HX16.out f11 (by have := HL16.out; omega))
       have HB := Lib.hid (HB.out.trans (f11.bel (B := w.heap.size) (fun k e => by have := HG2b.out; omega) HB.out.size))
       clear h11 f11)
    | (go_at_call 57
       (with_reducible refine (hge _ p2 g2 mb2 HKx.out).mono ?_)
       rintro e w12 ⟨A3, c3, rfl, ho12, hb12⟩
       have HKx := Lib.hid (HKx.out.bel hb12)
       have HX16 := Lib.hid ((hb12.block _ (heap_lt HX16.out)).trans HX16.out)
       have HB := Lib.hid (HB.out.trans (hb12.mono HB.out.size))
       have HO12 := Lib.hid ho12.rd
       have hcv1 := run_str (P := Try.prog) w12 96 9 5 A3 got.length c3 got Try.underlying96 Try.underlying5 Try.underlying9 (by first | exact HO12.out | (have h := HO12.out; rw [hbl] at h; exact h))
       have hcv2 := run_str (P := Try.prog) w12 96 9 5 A0 64 c0 b Try.underlying96 Try.underlying5 Try.underlying9 (Hb0.out.bel HB.out)
       have e16 := cells_of HX16.out 2 _ rfl
       clear ho12 hb12)
    | (go_at_call 43
       (with_reducible refine (hgd _ p2 g2 mb2 HKx.out).mono ?_)
       rintro e w13 ⟨rfl, hb13⟩
       have HKx := Lib.hid (HKx.out.bel hb13)
       have HX16 := Lib.hid ((hb13.block _ (heap_lt HX16.out)).trans HX16.out)
       have HB := Lib.hid (HB.out.trans (hb13.mono HB.out.size))
       have HO12 := Lib.hid (HO12.out.bel hb13)
       clear hcv1 hcv2 e16
       have hcv1 := run_str (P := Try.prog) w13 96 9 5 A3 got.length c3 got Try.underlying96 Try.underlying5 Try.underlying9 (by first | exact HO12.out | (have h := HO12.out; rw [hbl] at h; exact h))
       have hcv2 := run_str (P := Try.prog) w13 96 9 5 A0 64 c0 b Try.underlying96 Try.underlying5 Try.underlying9 (Hb0.out.bel HB.out)
       have e16 := cells_of HX16.out 2 _ rfl
       clear hb13)
    | (go_at_call 58
       (with_reducible refine (c_without x hx3 _).mono ?_)
       rintro e w14 ⟨rfl, rfl⟩)
    | (go_at_call 52
       (with_reducible refine (c_lives _).mono ?_)
       rintro e w15 ⟨rfl, b15⟩)
    | (with_reducible refine wpL_load_rd ?hgd 101 (.tmp 14) ?ho ⟨w6.heap.size, 0, none⟩ ?hx [.int .i64 6, .int .i64 0, .int .i64 (x : Int), .int .u64 0, .bool false, .slice A2 64 c2] _ ((rd_of_heap (n := 6) HX6.out rfl (by simp [maxLen])).cell _ rfl) Try.underlying101 ?hd ?hi ?h
       case hgd => rfl
       case ho => rfl
       case hx => rfl
       case hd => rfl
       case hi => kernel_rfl)
    )
    all_goals
      go_ret
      exact ⟨rfl, HB.out.trans (b15.mono HB.out.size)⟩
end Go.Proofs.Ytpbcmghfhflkbaa.Copying
