/- The package copying and its reference (twainref29) on a disk, exactly: Give, Put, Told; two messages alike. Conditions: at most 10^9 operations. -/
import Derived.Test.YtaldlapnhhhclaaGreatCopyEx
import Derived.Test.YtaldlapnhhhclaaGreatDatRef
import Derived.Test.YtaldlapnhhhclaaGreatB10
import Derived.Test.YtaldlapnhhhclaaGreatAct3
import Derived.Test.YtaldlapnhhhclaaGreatPack4
set_option linter.unusedVariables false
set_option linter.unusedSimpArgs false
namespace Go.Proofs.YtaldlapnhhhclaaGreat.Copying
open Go.RowKit Tw Disk Slots Go.Proofs.YtaldlapnhhhclaaGreat.Data
set_option maxHeartbeats 8000000
set_option maxRecDepth 100000
/-- what Give tells: the error, the message's kind and place, the bytes -/
def gE (d : Dsk) (x : Int) : Nat := (dRead d (whole x).1 (whole x).2).2
def gB (d : Dsk) (x : Int) : List UInt8 := (dRead d (whole x).1 (whole x).2).1
def gK (E : Nat) : Int := if E = 0 then 6 else 0
def gO (E : Nat) (x : Int) : Int := if E = 0 then x else 0
theorem gB_bad {d : Dsk} {x : Int} (h : gE d x ≠ 0) : gB d x = [] := dRead_err h
section
variable {w : World} {p g mb c q r : Nat} {d : Dsk}
theorem c_GiveE (h : Dk w p g mb c d) (x : Int) (hx : -9223372036854775808 ≤ x ∧ x ≤ 9223372036854775807) : Calls Tryz.prog 40 #[.pointer (some ⟨p, 0, none⟩), .int .i64 x] w fun e w' => ∃ A2 c2, e = .returned (.tuple #[.agg (msV (gK (gE d x)) 0 (gO (gE d x) x) 0 false A2 (gB d x).length c2).toArray, .int .i64 (gE d x : Int)]) ∧ (Byt w' A2 (gB d x).length c2 (gB d x) ∧ ∀ ad, A2 = some ad → w.heap.size ≤ ad.block) ∧ Below w.heap.size w w' := by
  have HB := Lib.hid ((Below.refl w.heap.size w).alloc (Nat.le_refl _) (.cells m0 25))
  have HX := Lib.hid (heap_alloc_new w (.cells m0 25))
  unfold m0 at HB HX
  have H := Lib.hid (h.bel HB.out)
  have hbad := @gB_bad d x
  obtain ⟨⟨t, E⟩, hr⟩ : ∃ r, dRead d (whole x).1 (whole x).2 = r := ⟨_, rfl⟩
  have h1 : gE d x = E := by unfold gE; rw [hr]
  have h2 : gB d x = t := by unfold gB; rw [hr]
  rw [h1, h2] at hbad
  rw [h1, h2]
  have HR := Lib.hid hr
  clear h hr h1 h2
  by_cases he : E = 0
  · subst he
    simp only [gK, gO, if_pos]
    clear hbad
    go_enter Tryz.func40, Tryz.ntmps40
    go_wp2_with (first
      | (go_at_call 75
         (with_reducible refine (c_ExtentE H.out x hx).mono ?_)
         rw [HR.out]
         rintro e w2 ⟨A2, c2, rfl, ho2, hb2⟩
         have HX := Lib.hid ((hb2.block _ (heap_lt HX.out)).trans HX.out)
         have HO := Lib.hid ho2
         have HB := Lib.hid (HB.out.trans (hb2.mono HB.out.size))
         clear hb2 ho2)
      | (refine wpL_store_all rfl rfl 25 (.tmp 4) (.tmp 20) rfl _ rfl _ rfl _ _ HX.out (by kernel_rfl) rfl (by simp [Value.oneCell']) ?_
         intro w8 x8 g8
         have HX8 := Lib.hid x8
         have HB8 := Lib.hid (HB.out.grown g8 HB.out.size (by rintro k ⟨⟩; exact Nat.le_refl _))
         have G8 := Lib.hid g8
         clear x8 g8)
      )
    refine bodyPost_ret (results_cell2 rfl _ _ w.heap.size _ _ (0, 0) _ rfl HX8.out Tryz.underlying25 rfl (by kernel_rfl) _ rfl) rfl ?_
    exact ⟨A2, c2, rfl, ⟨Tw.Own.rd (HO.out.kept G8.out (own_apart HO.out (by rintro k ⟨⟩; simp))), fun ad e => by have := (Tw.Own.at0 HO.out ad e).1; simp only [World.size_alloc] at this; omega⟩, HB8.out⟩
  · have ht := hbad he
    subst ht
    have hne : ((E : Int) != 0) = true := by simp; omega
    simp only [gK, gO, if_neg he]
    clear hbad he
    go_enter Tryz.func40, Tryz.ntmps40
    go_wp2_with (first
      | (go_at_call 75
         (with_reducible refine (c_ExtentE H.out x hx).mono ?_)
         rw [HR.out]
         rintro e w2 ⟨A2, c2, rfl, ho2, hb2⟩
         have HX := Lib.hid ((hb2.block _ (heap_lt HX.out)).trans HX.out)
         have HB := Lib.hid (HB.out.trans (hb2.mono HB.out.size))
         clear hb2 ho2)
      | (refine wpL_store_all rfl rfl 25 (.tmp 4) (.tmp 16) rfl _ rfl _ rfl _ _ HX.out (by kernel_rfl) rfl (by simp [Value.oneCell']) ?_
         intro w8 x8 g8
         have HX8 := Lib.hid x8
         have HB8 := Lib.hid (HB.out.grown g8 HB.out.size (by rintro k ⟨⟩; exact Nat.le_refl _))
         have G8 := Lib.hid g8
         clear x8 g8)
      )
    refine bodyPost_ret (results_cell2 rfl _ _ w.heap.size _ _ (0, 0) _ rfl HX8.out Tryz.underlying25 rfl (by kernel_rfl) _ rfl) rfl ?_
    exact ⟨none, 0, rfl, ⟨Rd.nil_, fun ad e => by cases e⟩, HB8.out⟩
theorem r_Give (h : Rk w q r c d) (x : Int) (hx : -9223372036854775808 ≤ x ∧ x ≤ 9223372036854775807) : Calls Tryz.prog 41 #[.pointer (some ⟨q, 0, none⟩), .int .i64 x] w fun e w' => ∃ A2 c2, e = .returned (.tuple #[.agg (msV (gK (gE d x)) 0 (gO (gE d x) x) 0 false A2 (gB d x).length c2).toArray, .int .i64 (gE d x : Int)]) ∧ (Byt w' A2 (gB d x).length c2 (gB d x) ∧ ∀ ad, A2 = some ad → w.heap.size ≤ ad.block) ∧ Below w.heap.size w w' := by
  have HB := Lib.hid ((Below.refl w.heap.size w).alloc (Nat.le_refl _) (.cells m0 25))
  have HX := Lib.hid (heap_alloc_new w (.cells m0 25))
  unfold m0 at HB HX
  have H := Lib.hid (h.bel HB.out)
  have hbad := @gB_bad d x
  obtain ⟨⟨t, E⟩, hr⟩ : ∃ r, dRead d (whole x).1 (whole x).2 = r := ⟨_, rfl⟩
  have h1 : gE d x = E := by unfold gE; rw [hr]
  have h2 : gB d x = t := by unfold gB; rw [hr]
  rw [h1, h2] at hbad
  rw [h1, h2]
  have HR := Lib.hid hr
  clear h hr h1 h2
  by_cases he : E = 0
  · subst he
    simp only [gK, gO, if_pos]
    clear hbad
    go_enter Tryz.func41, Tryz.ntmps41
    go_wp2_with (first
      | (go_at_call 84
         (with_reducible refine (r_Extent H.out x hx).mono ?_)
         rw [HR.out]
         rintro e w2 ⟨A2, c2, rfl, ho2, hb2⟩
         have HX := Lib.hid ((hb2.block _ (heap_lt HX.out)).trans HX.out)
         have HO := Lib.hid ho2
         have HB := Lib.hid (HB.out.trans (hb2.mono HB.out.size))
         clear hb2 ho2)
      | (refine wpL_store_all rfl rfl 25 (.tmp 4) (.tmp 20) rfl _ rfl _ rfl _ _ HX.out (by kernel_rfl) rfl (by simp [Value.oneCell']) ?_
         intro w8 x8 g8
         have HX8 := Lib.hid x8
         have HB8 := Lib.hid (HB.out.grown g8 HB.out.size (by rintro k ⟨⟩; exact Nat.le_refl _))
         have G8 := Lib.hid g8
         clear x8 g8)
      )
    refine bodyPost_ret (results_cell2 rfl _ _ w.heap.size _ _ (0, 0) _ rfl HX8.out Tryz.underlying25 rfl (by kernel_rfl) _ rfl) rfl ?_
    exact ⟨A2, c2, rfl, ⟨Tw.Own.rd (HO.out.kept G8.out (own_apart HO.out (by rintro k ⟨⟩; simp))), fun ad e => by have := (Tw.Own.at0 HO.out ad e).1; simp only [World.size_alloc] at this; omega⟩, HB8.out⟩
  · have ht := hbad he
    subst ht
    have hne : ((E : Int) != 0) = true := by simp; omega
    simp only [gK, gO, if_neg he]
    clear hbad he
    go_enter Tryz.func41, Tryz.ntmps41
    go_wp2_with (first
      | (go_at_call 84
         (with_reducible refine (r_Extent H.out x hx).mono ?_)
         rw [HR.out]
         rintro e w2 ⟨A2, c2, rfl, ho2, hb2⟩
         have HX := Lib.hid ((hb2.block _ (heap_lt HX.out)).trans HX.out)
         have HB := Lib.hid (HB.out.trans (hb2.mono HB.out.size))
         clear hb2 ho2)
      | (refine wpL_store_all rfl rfl 25 (.tmp 4) (.tmp 16) rfl _ rfl _ rfl _ _ HX.out (by kernel_rfl) rfl (by simp [Value.oneCell']) ?_
         intro w8 x8 g8
         have HX8 := Lib.hid x8
         have HB8 := Lib.hid (HB.out.grown g8 HB.out.size (by rintro k ⟨⟩; exact Nat.le_refl _))
         have G8 := Lib.hid g8
         clear x8 g8)
      )
    refine bodyPost_ret (results_cell2 rfl _ _ w.heap.size _ _ (0, 0) _ rfl HX8.out Tryz.underlying25 rfl (by kernel_rfl) _ rfl) rfl ?_
    exact ⟨none, 0, rfl, ⟨Rd.nil_, fun ad e => by cases e⟩, HB8.out⟩
/-- what Told does -/
def ctold (d : Dsk) (x : Int) : Dsk × Nat × Nat := if 0 ≤ x ∧ x ≤ 63 then dclear d x else (d, 0, 2)
theorem ctold_ops (d : Dsk) (x : Int) : (ctold d x).1.ops ≤ d.ops + 2 := by
  have := Act3.dclear_ops d x
  unfold ctold
  split
  · exact this
  · exact Nat.le_add_right _ _
theorem c_ToldE (h : Dk w p g mb c d) (ho : d.ops + 1 < 1000000000) (x : Int) : Calls Tryz.prog 45 #[.pointer (some ⟨p, 0, none⟩), .int .i64 x] w fun e w' => e = .returned (.tuple #[.int .u64 ((ctold d x).2.1 : Int), .int .i64 ((ctold d x).2.2 : Int)]) ∧ Dk w' p g mb c (ctold d x).1 ∧ Fr (fun k => k = p ∨ k = g ∨ k = mb) w w' := by
  have H := Lib.hid h
  have hc := Dirty.c_ClearE h ho x
  clear h
  by_cases h1 : x < 0
  · rw [show ctold d x = (d, 0, 2) from if_neg (by omega)]
    clear hc
    go_enter Tryz.func45, Tryz.ntmps45
    go_wp2_with fail
    go_ret2
    exact ⟨rfl, H.out, Fr.refl _ _⟩
  · by_cases h2 : 63 < x
    · have h3 : 64 ≤ x := by omega
      rw [show ctold d x = (d, 0, 2) from if_neg (by omega)]
      clear hc
      go_enter Tryz.func45, Tryz.ntmps45
      go_wp2_with fail
      go_ret2
      exact ⟨rfl, H.out, Fr.refl _ _⟩
    · have h3 : ¬ 64 ≤ x := by omega
      rw [show ctold d x = dclear d x from if_pos (by omega)]
      generalize dclear d x = R at *
      go_enter Tryz.func45, Tryz.ntmps45
      go_wp2_with (first
        | (go_at_call 25
           (with_reducible refine hc.mono ?_)
           rintro e w1 ⟨rfl, hk1, f1⟩
           have HK1 := Lib.hid hk1
           have HF1 := Lib.hid f1
           clear hk1 f1 hc))
      go_ret2
      exact ⟨rfl, HK1.out, HF1.out⟩
theorem r_Told (h : Rk w q r c d) (ho : d.ops + 1 < 1000000000) (x : Int) : Calls Tryz.prog 46 #[.pointer (some ⟨q, 0, none⟩), .int .i64 x] w fun e w' => e = .returned (.tuple #[.int .u64 ((ctold d x).2.1 : Int), .int .i64 ((ctold d x).2.2 : Int)]) ∧ Rk w' q r c (ctold d x).1 ∧ Fr (fun k => k = q ∨ k = r) w w' := by
  have H := Lib.hid h
  have hc := r_dClear h ho x
  clear h
  by_cases h1 : x < 0
  · rw [show ctold d x = (d, 0, 2) from if_neg (by omega)]
    clear hc
    go_enter Tryz.func46, Tryz.ntmps46
    go_wp2_with fail
    go_ret2
    exact ⟨rfl, H.out, Fr.refl _ _⟩
  · by_cases h2 : 63 < x
    · have h3 : 64 ≤ x := by omega
      rw [show ctold d x = (d, 0, 2) from if_neg (by omega)]
      clear hc
      go_enter Tryz.func46, Tryz.ntmps46
      go_wp2_with fail
      go_ret2
      exact ⟨rfl, H.out, Fr.refl _ _⟩
    · have h3 : ¬ 64 ≤ x := by omega
      rw [show ctold d x = dclear d x from if_pos (by omega)]
      generalize dclear d x = R at *
      go_enter Tryz.func46, Tryz.ntmps46
      go_wp2_with (first
        | (go_at_call 26
           (with_reducible refine hc.mono ?_)
           rintro e w1 ⟨rfl, hk1, f1⟩
           have HK1 := Lib.hid hk1
           have HF1 := Lib.hid f1
           clear hk1 f1 hc))
      go_ret2
      exact ⟨rfl, HK1.out, HF1.out⟩
end
theorem rgood_ms (k i x : Int) (m : Nat) (wb : Bool) (A : Option Addr) (n cb : Nat) (w : World) : Calls Tryz.prog 90 #[.agg (msV k i x m wb A n cb).toArray] w fun e w' => e = .returned (.bool (decide (Pack.Good k i x m wb n))) ∧ Below w.heap.size w w' := Pack.c_rGood k i x m wb A n cb w
section
variable {w : World} {q r c : Nat} {d : Dsk}
theorem r_Put (h : Rk w q r c d) (ho : d.ops + 1030 < 1000000000) (k i x : Int) (m : Nat) (wb : Bool) (A : Option Addr) (n cb : Nat) (b : List UInt8) (hx : -9223372036854775808 ≤ x ∧ x ≤ 9223372036854775807) (hb : Byt w A n cb b) (hA : ∀ ad, A = some ad → 0 < n → ad.block ≠ q ∧ ad.block ≠ r) (hw1 : (dWrite d (whole x).1 (whole x).2 b).1.ops ≤ d.ops + 1024) (hw2 : (dWrite d (whole x).1 (whole x).2 b).1.flush.1.ops ≤ d.ops + 1025) :
    Calls Tryz.prog 44 #[.pointer (some ⟨q, 0, none⟩), .agg (msV k i x m wb A n cb).toArray] w fun e w' => e = .returned (.tuple #[.agg (told x (cputM d k i x m wb n b).2), .int .i64 ((cputM d k i x m wb n b).2 : Int)]) ∧ Rk w' q r c (cputM d k i x m wb n b).1 ∧ Fr (fun k => k = q ∨ k = r) w w' := by
  have hlt := h.lts
  obtain ⟨W2, hW2, x1, x2, hB⟩ := Actlog.two_boxes w (.cells (msV k i x m wb A n cb).toArray 25) (.cells m0 25)
  have hsz : w.heap.size + 2 ≤ W2.heap.size := by rw [hW2]; simp [World.size_alloc]
  simp only [m0] at hW2 x2
  have e0 := (ms6 x1).1
  have e2 := (ms6 x1).2.1
  have e5 := (ms6 x1).2.2
  have X1 := Lib.hid x1
  have X2 := Lib.hid x2
  have HB := Lib.hid hB
  have HW := Lib.hid hW2
  have H := Lib.hid (h.bel (HB.out.mono (by omega)))
  have Hb := Lib.hid (hb.bel (HB.out.mono (by omega)))
  have HA := Lib.hid hA
  clear x1 x2 hB hW2 h hb hA
  by_cases hk : k = 6
  · by_cases hg : Pack.Good k i x m wb n
    · rw [show cputM d k i x m wb n b = cput d x b from if_pos ⟨hk, hg⟩]
      obtain ⟨⟨d1, E1⟩, hs1⟩ : ∃ r, dWrite d (whole x).1 (whole x).2 b = r := ⟨_, rfl⟩
      rw [hs1] at hw1 hw2
      simp only at hw1 hw2
      obtain ⟨⟨d2, E2⟩, hs2⟩ : ∃ r, d1.flush = r := ⟨_, rfl⟩
      rw [hs2] at hw2
      simp only at hw2
      obtain ⟨⟨d3, y, E3⟩, hs3⟩ : ∃ r, dclear d2 x = r := ⟨_, rfl⟩
      have hcp : cput d x b = (if E1 = 0 then if E2 = 0 then d3 else d2 else d1, if E1 = 0 then if E2 = 0 then E3 else E2 else E1) := by
        unfold cput
        rw [hs1]
        simp only
        rw [hs2]
        simp only
        rw [hs3]
        by_cases q1 : E1 = 0
        · by_cases q2 : E2 = 0
          · simp [q1, q2]
          · simp [q1, q2]
        · simp [q1]
      rw [hcp]
      have Hg := Lib.hid (decide_eq_true hg)
      have hk2 : (k != 6) = false := by simp [hk]
      have S1 := Lib.hid hs1
      have S2 := Lib.hid hs2
      have hcl := fun W (hW : Rk W q r c d2) => r_dClear hW (by omega) x
      rw [hs3] at hcl
      simp only at hcl
      have Hcl := Lib.hid hcl
      clear hs1 hs2 hs3 hcp hg hk hcl
      by_cases z1 : E1 = 0
      · subst z1
        by_cases z2 : E2 = 0
        · subst z2
          simp only [if_pos]
          by_cases z3 : E3 = 0
          · subst z3
            go_enter Tryz.func44, Tryz.ntmps44
            go_upto_region 1 with (fail)
            rw [← HW.out]
            go_wp2_with (first
              | (refine wpL_load_rdG rfl 25 (.tmp 3) rfl ⟨w.heap.size, 0, none⟩ rfl (msV k i x m wb A n cb) _ ((rd_of_heap (n := 6) X1.out rfl (by simp [maxLen])).cell _ rfl) Tryz.underlying25 rfl (by kernel_rfl) ?_)
              | (go_at_call 90
                 (with_reducible refine (rgood_ms k i x m wb A n cb _).mono ?_)
                 rintro e w2 ⟨rfl, hb2⟩
                 rw [Hg.out]
                 have X1 := Lib.hid ((hb2.block _ (heap_lt X1.out)).trans X1.out)
                 have X2 := Lib.hid ((hb2.block _ (heap_lt X2.out)).trans X2.out)
                 have HB := Lib.hid (HB.out.trans (hb2.mono HB.out.size))
                 have H := Lib.hid (H.out.bel hb2)
                 have Hb := Lib.hid (Hb.out.bel hb2)
                 have hsz := Nat.le_trans hsz hb2.size
                 clear e0 e2 e5
                 obtain ⟨e0, e2, e5⟩ := ms6 X1.out
                 clear hb2)
              | (go_at_call 91
                 (with_reducible refine (r_SetExtent H.out (by omega) x hx A n cb b Hb.out HA.out).mono ?_)
                 rw [S1.out]
                 rintro e w3 ⟨rfl, h3, f3⟩
                 have X1 := Lib.hid (heap_fr X1.out f3 (by omega))
                 have X2 := Lib.hid (heap_fr X2.out f3 (by omega))
                 have HF := Lib.hid ((Fr.of_bel (S := fun k => k = q ∨ k = r) HB.out).trans f3 (fun _ _ e => e))
                 have H := Lib.hid h3
                 have hsz := Nat.le_trans hsz f3.size
                 clear e0 e2 e5 h3 f3
                 obtain ⟨e0, e2, e5⟩ := ms6 X1.out)
              | (go_at_call 92
                 (with_reducible refine (r_Flush H.out (by omega)).mono ?_)
                 rw [S2.out]
                 rintro e w4 ⟨rfl, h3, f3⟩
                 have X1 := Lib.hid (heap_fr X1.out f3 (by omega))
                 have X2 := Lib.hid (heap_fr X2.out f3 (by omega))
                 have HF := Lib.hid (HF.out.trans f3 (fun _ _ e => e))
                 have H := Lib.hid h3
                 have hsz := Nat.le_trans hsz f3.size
                 clear e0 e2 e5 h3 f3
                 obtain ⟨e0, e2, e5⟩ := ms6 X1.out)
              | (go_at_call 26
                 (with_reducible refine (Hcl.out _ H.out).mono ?_)
                 rintro e w5 ⟨rfl, h3, f3⟩
                 have X1 := Lib.hid (heap_fr X1.out f3 (by omega))
                 have X2 := Lib.hid (heap_fr X2.out f3 (by omega))
                 have HF := Lib.hid (HF.out.trans f3 (fun _ _ e => e))
                 have H := Lib.hid h3
                 have hsz := Nat.le_trans hsz f3.size
                 clear e0 e2 e5 h3 f3
                 obtain ⟨e0, e2, e5⟩ := ms6 X1.out)
              | (refine wpL_store_all rfl rfl 25 (.tmp 4) (.tmp 41) rfl _ rfl _ rfl _ _ X2.out (by kernel_rfl) rfl (by simp [Value.oneCell']) ?_
                 intro w8 x8 g8
                 have HX8 := Lib.hid x8
                 have f8 := Fr.grown (S := fun k => k = w.heap.size + 1) g8 (by rintro k ⟨⟩; rfl)
                 have H8 := Lib.hid (H.out.fr f8 (by omega) (by omega))
                 have HF8 := Lib.hid (HF.out.trans f8 (fun z hz e => by omega))
                 clear x8 g8 f8 e0 e2 e5)
              )
            refine bodyPost_ret (results_cell2 rfl _ _ (w.heap.size + 1) _ _ (0, 0) _ rfl HX8.out Tryz.underlying25 rfl (by kernel_rfl) _ rfl) rfl ?_
            exact ⟨rfl, H8.out, HF8.out⟩
          · rw [show told x E3 = m0 from if_neg z3]
            have hne : ((E3 : Int) != 0) = true := by simp; omega
            clear z3
            go_enter Tryz.func44, Tryz.ntmps44
            go_upto_region 1 with (fail)
            rw [← HW.out]
            go_wp2_with (first
              | (refine wpL_load_rdG rfl 25 (.tmp 3) rfl ⟨w.heap.size, 0, none⟩ rfl (msV k i x m wb A n cb) _ ((rd_of_heap (n := 6) X1.out rfl (by simp [maxLen])).cell _ rfl) Tryz.underlying25 rfl (by kernel_rfl) ?_)
              | (go_at_call 90
                 (with_reducible refine (rgood_ms k i x m wb A n cb _).mono ?_)
                 rintro e w2 ⟨rfl, hb2⟩
                 rw [Hg.out]
                 have X1 := Lib.hid ((hb2.block _ (heap_lt X1.out)).trans X1.out)
                 have X2 := Lib.hid ((hb2.block _ (heap_lt X2.out)).trans X2.out)
                 have HB := Lib.hid (HB.out.trans (hb2.mono HB.out.size))
                 have H := Lib.hid (H.out.bel hb2)
                 have Hb := Lib.hid (Hb.out.bel hb2)
                 have hsz := Nat.le_trans hsz hb2.size
                 clear e0 e2 e5
                 obtain ⟨e0, e2, e5⟩ := ms6 X1.out
                 clear hb2)
              | (go_at_call 91
                 (with_reducible refine (r_SetExtent H.out (by omega) x hx A n cb b Hb.out HA.out).mono ?_)
                 rw [S1.out]
                 rintro e w3 ⟨rfl, h3, f3⟩
                 have X1 := Lib.hid (heap_fr X1.out f3 (by omega))
                 have X2 := Lib.hid (heap_fr X2.out f3 (by omega))
                 have HF := Lib.hid ((Fr.of_bel (S := fun k => k = q ∨ k = r) HB.out).trans f3 (fun _ _ e => e))
                 have H := Lib.hid h3
                 have hsz := Nat.le_trans hsz f3.size
                 clear e0 e2 e5 h3 f3
                 obtain ⟨e0, e2, e5⟩ := ms6 X1.out)
              | (go_at_call 92
                 (with_reducible refine (r_Flush H.out (by omega)).mono ?_)
                 rw [S2.out]
                 rintro e w4 ⟨rfl, h3, f3⟩
                 have X1 := Lib.hid (heap_fr X1.out f3 (by omega))
                 have X2 := Lib.hid (heap_fr X2.out f3 (by omega))
                 have HF := Lib.hid (HF.out.trans f3 (fun _ _ e => e))
                 have H := Lib.hid h3
                 have hsz := Nat.le_trans hsz f3.size
                 clear e0 e2 e5 h3 f3
                 obtain ⟨e0, e2, e5⟩ := ms6 X1.out)
              | (go_at_call 26
                 (with_reducible refine (Hcl.out _ H.out).mono ?_)
                 rintro e w5 ⟨rfl, h3, f3⟩
                 have X1 := Lib.hid (heap_fr X1.out f3 (by omega))
                 have X2 := Lib.hid (heap_fr X2.out f3 (by omega))
                 have HF := Lib.hid (HF.out.trans f3 (fun _ _ e => e))
                 have H := Lib.hid h3
                 have hsz := Nat.le_trans hsz f3.size
                 clear e0 e2 e5 h3 f3
                 obtain ⟨e0, e2, e5⟩ := ms6 X1.out)
              | (refine wpL_store_all rfl rfl 25 (.tmp 4) (.tmp 37) rfl _ rfl _ rfl _ _ X2.out (by kernel_rfl) rfl (by simp [Value.oneCell']) ?_
                 intro w8 x8 g8
                 have HX8 := Lib.hid x8
                 have f8 := Fr.grown (S := fun k => k = w.heap.size + 1) g8 (by rintro k ⟨⟩; rfl)
                 have H8 := Lib.hid (H.out.fr f8 (by omega) (by omega))
                 have HF8 := Lib.hid (HF.out.trans f8 (fun z hz e => by omega))
                 clear x8 g8 f8 e0 e2 e5)
              )
            refine bodyPost_ret (results_cell2 rfl _ _ (w.heap.size + 1) _ _ (0, 0) _ rfl HX8.out Tryz.underlying25 rfl (by kernel_rfl) _ rfl) rfl ?_
            exact ⟨rfl, H8.out, HF8.out⟩
        · simp only [if_pos, if_neg z2]
          rw [show told x E2 = m0 from if_neg z2]
          have hne : ((E2 : Int) != 0) = true := by simp; omega
          have hne2 : ((E2 : Int) == 0) = false := by simp; omega
          clear z2
          go_enter Tryz.func44, Tryz.ntmps44
          go_upto_region 1 with (fail)
          rw [← HW.out]
          go_wp2_with (first
            | (refine wpL_load_rdG rfl 25 (.tmp 3) rfl ⟨w.heap.size, 0, none⟩ rfl (msV k i x m wb A n cb) _ ((rd_of_heap (n := 6) X1.out rfl (by simp [maxLen])).cell _ rfl) Tryz.underlying25 rfl (by kernel_rfl) ?_)
            | (go_at_call 90
               (with_reducible refine (rgood_ms k i x m wb A n cb _).mono ?_)
               rintro e w2 ⟨rfl, hb2⟩
               rw [Hg.out]
               have X1 := Lib.hid ((hb2.block _ (heap_lt X1.out)).trans X1.out)
               have X2 := Lib.hid ((hb2.block _ (heap_lt X2.out)).trans X2.out)
               have HB := Lib.hid (HB.out.trans (hb2.mono HB.out.size))
               have H := Lib.hid (H.out.bel hb2)
               have Hb := Lib.hid (Hb.out.bel hb2)
               have hsz := Nat.le_trans hsz hb2.size
               clear e0 e2 e5
               obtain ⟨e0, e2, e5⟩ := ms6 X1.out
               clear hb2)
            | (go_at_call 91
               (with_reducible refine (r_SetExtent H.out (by omega) x hx A n cb b Hb.out HA.out).mono ?_)
               rw [S1.out]
               rintro e w3 ⟨rfl, h3, f3⟩
               have X1 := Lib.hid (heap_fr X1.out f3 (by omega))
               have X2 := Lib.hid (heap_fr X2.out f3 (by omega))
               have HF := Lib.hid ((Fr.of_bel (S := fun k => k = q ∨ k = r) HB.out).trans f3 (fun _ _ e => e))
               have H := Lib.hid h3
               have hsz := Nat.le_trans hsz f3.size
               clear e0 e2 e5 h3 f3
               obtain ⟨e0, e2, e5⟩ := ms6 X1.out)
            | (go_at_call 92
               (with_reducible refine (r_Flush H.out (by omega)).mono ?_)
               rw [S2.out]
               rintro e w4 ⟨rfl, h3, f3⟩
               have X1 := Lib.hid (heap_fr X1.out f3 (by omega))
               have X2 := Lib.hid (heap_fr X2.out f3 (by omega))
               have HF := Lib.hid (HF.out.trans f3 (fun _ _ e => e))
               have H := Lib.hid h3
               have hsz := Nat.le_trans hsz f3.size
               clear e0 e2 e5 h3 f3
               obtain ⟨e0, e2, e5⟩ := ms6 X1.out)
            | (go_at_call 26
               (with_reducible refine (Hcl.out _ H.out).mono ?_)
               rintro e w5 ⟨rfl, h3, f3⟩
               have X1 := Lib.hid (heap_fr X1.out f3 (by omega))
               have X2 := Lib.hid (heap_fr X2.out f3 (by omega))
               have HF := Lib.hid (HF.out.trans f3 (fun _ _ e => e))
               have H := Lib.hid h3
               have hsz := Nat.le_trans hsz f3.size
               clear e0 e2 e5 h3 f3
               obtain ⟨e0, e2, e5⟩ := ms6 X1.out)
            | (refine wpL_store_all rfl rfl 25 (.tmp 4) (.tmp 37) rfl _ rfl _ rfl _ _ X2.out (by kernel_rfl) rfl (by simp [Value.oneCell']) ?_
               intro w8 x8 g8
               have HX8 := Lib.hid x8
               have f8 := Fr.grown (S := fun k => k = w.heap.size + 1) g8 (by rintro k ⟨⟩; rfl)
               have H8 := Lib.hid (H.out.fr f8 (by omega) (by omega))
               have HF8 := Lib.hid (HF.out.trans f8 (fun z hz e => by omega))
               clear x8 g8 f8 e0 e2 e5)
            )
          refine bodyPost_ret (results_cell2 rfl _ _ (w.heap.size + 1) _ _ (0, 0) _ rfl HX8.out Tryz.underlying25 rfl (by kernel_rfl) _ rfl) rfl ?_
          exact ⟨rfl, H8.out, HF8.out⟩
      · simp only [if_neg z1]
        rw [show told x E1 = m0 from if_neg z1]
        have hne : ((E1 : Int) != 0) = true := by simp; omega
        have hne2 : ((E1 : Int) == 0) = false := by simp; omega
        clear z1
        go_enter Tryz.func44, Tryz.ntmps44
        go_upto_region 1 with (fail)
        rw [← HW.out]
        go_wp2_with (first
          | (refine wpL_load_rdG rfl 25 (.tmp 3) rfl ⟨w.heap.size, 0, none⟩ rfl (msV k i x m wb A n cb) _ ((rd_of_heap (n := 6) X1.out rfl (by simp [maxLen])).cell _ rfl) Tryz.underlying25 rfl (by kernel_rfl) ?_)
          | (go_at_call 90
             (with_reducible refine (rgood_ms k i x m wb A n cb _).mono ?_)
             rintro e w2 ⟨rfl, hb2⟩
             rw [Hg.out]
             have X1 := Lib.hid ((hb2.block _ (heap_lt X1.out)).trans X1.out)
             have X2 := Lib.hid ((hb2.block _ (heap_lt X2.out)).trans X2.out)
             have HB := Lib.hid (HB.out.trans (hb2.mono HB.out.size))
             have H := Lib.hid (H.out.bel hb2)
             have Hb := Lib.hid (Hb.out.bel hb2)
             have hsz := Nat.le_trans hsz hb2.size
             clear e0 e2 e5
             obtain ⟨e0, e2, e5⟩ := ms6 X1.out
             clear hb2)
          | (go_at_call 91
             (with_reducible refine (r_SetExtent H.out (by omega) x hx A n cb b Hb.out HA.out).mono ?_)
             rw [S1.out]
             rintro e w3 ⟨rfl, h3, f3⟩
             have X1 := Lib.hid (heap_fr X1.out f3 (by omega))
             have X2 := Lib.hid (heap_fr X2.out f3 (by omega))
             have HF := Lib.hid ((Fr.of_bel (S := fun k => k = q ∨ k = r) HB.out).trans f3 (fun _ _ e => e))
             have H := Lib.hid h3
             have hsz := Nat.le_trans hsz f3.size
             clear e0 e2 e5 h3 f3
             obtain ⟨e0, e2, e5⟩ := ms6 X1.out)
          | (go_at_call 92
             (with_reducible refine (r_Flush H.out (by omega)).mono ?_)
             rw [S2.out]
             rintro e w4 ⟨rfl, h3, f3⟩
             have X1 := Lib.hid (heap_fr X1.out f3 (by omega))
             have X2 := Lib.hid (heap_fr X2.out f3 (by omega))
             have HF := Lib.hid (HF.out.trans f3 (fun _ _ e => e))
             have H := Lib.hid h3
             have hsz := Nat.le_trans hsz f3.size
             clear e0 e2 e5 h3 f3
             obtain ⟨e0, e2, e5⟩ := ms6 X1.out)
          | (go_at_call 26
             (with_reducible refine (Hcl.out _ H.out).mono ?_)
             rintro e w5 ⟨rfl, h3, f3⟩
             have X1 := Lib.hid (heap_fr X1.out f3 (by omega))
             have X2 := Lib.hid (heap_fr X2.out f3 (by omega))
             have HF := Lib.hid (HF.out.trans f3 (fun _ _ e => e))
             have H := Lib.hid h3
             have hsz := Nat.le_trans hsz f3.size
             clear e0 e2 e5 h3 f3
             obtain ⟨e0, e2, e5⟩ := ms6 X1.out)
          | (refine wpL_store_all rfl rfl 25 (.tmp 4) (.tmp 37) rfl _ rfl _ rfl _ _ X2.out (by kernel_rfl) rfl (by simp [Value.oneCell']) ?_
             intro w8 x8 g8
             have HX8 := Lib.hid x8
             have f8 := Fr.grown (S := fun k => k = w.heap.size + 1) g8 (by rintro k ⟨⟩; rfl)
             have H8 := Lib.hid (H.out.fr f8 (by omega) (by omega))
             have HF8 := Lib.hid (HF.out.trans f8 (fun z hz e => by omega))
             clear x8 g8 f8 e0 e2 e5)
          )
        refine bodyPost_ret (results_cell2 rfl _ _ (w.heap.size + 1) _ _ (0, 0) _ rfl HX8.out Tryz.underlying25 rfl (by kernel_rfl) _ rfl) rfl ?_
        exact ⟨rfl, H8.out, HF8.out⟩
    · rw [show cputM d k i x m wb n b = (d, 2) from if_neg (fun e => hg e.2)]
      have ht : told x 2 = m0 := if_neg (by omega)
      have Hg := Lib.hid (decide_eq_false hg)
      have hk2 : (k != 6) = false := by simp [hk]
      clear hg hk
      simp only
      rw [ht]
      go_enter Tryz.func44, Tryz.ntmps44
      go_upto_region 1 with (fail)
      rw [← HW.out]
      go_wp2_with (first
        | (refine wpL_load_rdG rfl 25 (.tmp 3) rfl ⟨w.heap.size, 0, none⟩ rfl (msV k i x m wb A n cb) _ ((rd_of_heap (n := 6) X1.out rfl (by simp [maxLen])).cell _ rfl) Tryz.underlying25 rfl (by kernel_rfl) ?_)
        | (go_at_call 90
           (with_reducible refine (rgood_ms k i x m wb A n cb _).mono ?_)
           rintro e w2 ⟨rfl, hb2⟩
           rw [Hg.out]
           have X1 := Lib.hid ((hb2.block _ (heap_lt X1.out)).trans X1.out)
           have X2 := Lib.hid ((hb2.block _ (heap_lt X2.out)).trans X2.out)
           have HB := Lib.hid (HB.out.trans (hb2.mono HB.out.size))
           have H := Lib.hid (H.out.bel hb2)
           have Hb := Lib.hid (Hb.out.bel hb2)
           have hsz := Nat.le_trans hsz hb2.size
           clear e0 e2 e5
           obtain ⟨e0, e2, e5⟩ := ms6 X1.out
           clear hb2)
          | (refine wpL_store_all rfl rfl 25 (.tmp 4) (.tmp 15) rfl _ rfl _ rfl _ _ X2.out (by kernel_rfl) rfl (by simp [Value.oneCell']) ?_
             intro w8 x8 g8
             have HX8 := Lib.hid x8
             have f8 := Fr.grown (S := fun k => k = w.heap.size + 1) g8 (by rintro k ⟨⟩; rfl)
             have H8 := Lib.hid (H.out.fr f8 (by omega) (by omega))
             have HF8 := Lib.hid ((Fr.of_bel (S := fun k => k = q ∨ k = r) HB.out).trans f8 (fun z hz e => by omega))
             clear x8 g8 f8 e0 e2 e5))
      refine bodyPost_ret (results_cell2 rfl _ _ (w.heap.size + 1) _ _ (0, 0) _ rfl HX8.out Tryz.underlying25 rfl (by kernel_rfl) _ rfl) rfl ?_
      exact ⟨rfl, H8.out, HF8.out⟩
  · rw [show cputM d k i x m wb n b = (d, 2) from if_neg (fun e => hk e.1)]
    have ht : told x 2 = m0 := if_neg (by omega)
    have hk2 : (k != 6) = true := by simp [hk]
    have Hg : Hid (True = True) := Lib.hid rfl
    clear hk
    simp only
    rw [ht]
    go_enter Tryz.func44, Tryz.ntmps44
    go_upto_region 1 with (fail)
    rw [← HW.out]
    go_wp2_with (first
      | (refine wpL_load_rdG rfl 25 (.tmp 3) rfl ⟨w.heap.size, 0, none⟩ rfl (msV k i x m wb A n cb) _ ((rd_of_heap (n := 6) X1.out rfl (by simp [maxLen])).cell _ rfl) Tryz.underlying25 rfl (by kernel_rfl) ?_)
      | (go_at_call 90
         (with_reducible refine (rgood_ms k i x m wb A n cb _).mono ?_)
         rintro e w2 ⟨rfl, hb2⟩
         rw [Hg.out]
         have X1 := Lib.hid ((hb2.block _ (heap_lt X1.out)).trans X1.out)
         have X2 := Lib.hid ((hb2.block _ (heap_lt X2.out)).trans X2.out)
         have HB := Lib.hid (HB.out.trans (hb2.mono HB.out.size))
         have H := Lib.hid (H.out.bel hb2)
         have Hb := Lib.hid (Hb.out.bel hb2)
         have hsz := Nat.le_trans hsz hb2.size
         clear e0 e2 e5
         obtain ⟨e0, e2, e5⟩ := ms6 X1.out
         clear hb2)
        | (refine wpL_store_all rfl rfl 25 (.tmp 4) (.tmp 15) rfl _ rfl _ rfl _ _ X2.out (by kernel_rfl) rfl (by simp [Value.oneCell']) ?_
           intro w8 x8 g8
           have HX8 := Lib.hid x8
           have f8 := Fr.grown (S := fun k => k = w.heap.size + 1) g8 (by rintro k ⟨⟩; rfl)
           have H8 := Lib.hid (H.out.fr f8 (by omega) (by omega))
           have HF8 := Lib.hid ((Fr.of_bel (S := fun k => k = q ∨ k = r) HB.out).trans f8 (fun z hz e => by omega))
           clear x8 g8 f8 e0 e2 e5))
    refine bodyPost_ret (results_cell2 rfl _ _ (w.heap.size + 1) _ _ (0, 0) _ rfl HX8.out Tryz.underlying25 rfl (by kernel_rfl) _ rfl) rfl ?_
    exact ⟨rfl, H8.out, HF8.out⟩
end
theorem r_SameEq (k i o : Int) (m : Nat) (wb : Bool) (A A' : Option Addr) (n c n' c' : Nat) (b : List UInt8) (w : World) (hn : n = b.length) (hn' : n' = b.length) (h1 : Byt w A n c b) (h2 : Byt w A' n' c' b) :
    Calls Tryz.prog 42 #[.agg (msV k i o m wb A n c).toArray, .agg (msV k i o m wb A' n' c').toArray] w fun e w' => e = .returned (.bool true) ∧ Below w.heap.size w w' := by
  have hB := (((Below.refl w.heap.size w).alloc (Nat.le_refl _) (.cells (msV k i o m wb A n c).toArray 25)).alloc (by simp) (.cells (msV k i o m wb A' n' c').toArray 25))
  have HB := Lib.hid hB
  have s1 := run_str (P := Tryz.prog) _ 23 9 5 A n c b Tryz.underlying23 Tryz.underlying5 Tryz.underlying9 (h1.bel hB)
  have s2 := run_str (P := Tryz.prog) _ 23 9 5 A' n' c' b Tryz.underlying23 Tryz.underlying5 Tryz.underlying9 (h2.bel hB)
  clear h1 h2 hB hn hn'
  generalize (ByteArray.mk b.toArray) = sb at *
  unfold msV at *
  go_enter Tryz.func42, Tryz.ntmps42
  go_wp2_with fail
  go_ret
  exact ⟨by simp, HB.out⟩
/-- what an answer tells: a message, and an error -/
def Tells (B : Nat) (e : Ending) (w' : World) (K O : Int) (t : List UInt8) (E : Nat) : Prop := ∃ A3 c3, e = .returned (.tuple #[.agg (msV K 0 O 0 false A3 t.length c3).toArray, .int .i64 (E : Int)]) ∧ Byt w' A3 t.length c3 t ∧ ∀ ad, A3 = some ad → B ≤ ad.block
def tK (E : Nat) : Int := if E = 0 then 7 else 0
theorem told_ms (x : Int) (E : Nat) : told x E = (msV (tK E) 0 (gO E x) 0 false none 0 0).toArray := by
  unfold told tK gO
  by_cases h : E = 0
  · simp only [if_pos h]
  · simp only [if_neg h]
    rfl
theorem cputM_ops {d : Dsk} {k i x : Int} {m : Nat} {wb : Bool} {n : Nat} {b : List UInt8} (hw1 : (dWrite d (whole x).1 (whole x).2 b).1.ops ≤ d.ops + 1024) (hw2 : (dWrite d (whole x).1 (whole x).2 b).1.flush.1.ops ≤ d.ops + 1025) : (cputM d k i x m wb n b).1.ops ≤ d.ops + 1030 := by
  have h3 := Act3.dclear_ops (dWrite d (whole x).1 (whole x).2 b).1.flush.1 x
  unfold cputM cput
  (repeat' split) <;> first | omega | (simp only; omega) | exact Nat.le_add_right _ _
section
variable {w : World} {p g mb c q r : Nat} {d : Dsk}
theorem c_GiveT (h : Dk w p g mb c d) (x : Int) (hx : -9223372036854775808 ≤ x ∧ x ≤ 9223372036854775807) : Calls Tryz.prog 40 #[.pointer (some ⟨p, 0, none⟩), .int .i64 x] w fun e w' => Tells w.heap.size e w' (gK (gE d x)) (gO (gE d x) x) (gB d x) (gE d x) ∧ Dk w' p g mb c d ∧ Fr (fun k => k = p ∨ k = g ∨ k = mb) w w' :=
  (c_GiveE h x hx).mono fun e w' ⟨A3, c3, h1, h2, h3⟩ => ⟨⟨A3, c3, h1, h2⟩, h.bel h3, Fr.of_bel h3⟩
theorem r_GiveT (h : Rk w q r c d) (x : Int) (hx : -9223372036854775808 ≤ x ∧ x ≤ 9223372036854775807) : Calls Tryz.prog 41 #[.pointer (some ⟨q, 0, none⟩), .int .i64 x] w fun e w' => Tells w.heap.size e w' (gK (gE d x)) (gO (gE d x) x) (gB d x) (gE d x) ∧ Rk w' q r c d ∧ Fr (fun k => k = q ∨ k = r) w w' :=
  (r_Give h x hx).mono fun e w' ⟨A3, c3, h1, h2, h3⟩ => ⟨⟨A3, c3, h1, h2⟩, h.bel h3, Fr.of_bel h3⟩
theorem c_PutT (h : Dk w p g mb c d) (ho : d.ops + 1030 < 1000000000) (k i x : Int) (m : Nat) (wb : Bool) (A : Option Addr) (n cb : Nat) (b : List UInt8) (hx : -9223372036854775808 ≤ x ∧ x ≤ 9223372036854775807) (hb : Byt w A n cb b) (hA : ∀ ad, A = some ad → 0 < n → ad.block ≠ p ∧ ad.block ≠ mb) (hw1 : (dWrite d (whole x).1 (whole x).2 b).1.ops ≤ d.ops + 1024) (hw2 : (dWrite d (whole x).1 (whole x).2 b).1.flush.1.ops ≤ d.ops + 1025) :
    Calls Tryz.prog 43 #[.pointer (some ⟨p, 0, none⟩), .agg (msV k i x m wb A n cb).toArray] w fun e w' => Tells w.heap.size e w' (tK (cputM d k i x m wb n b).2) (gO (cputM d k i x m wb n b).2 x) [] (cputM d k i x m wb n b).2 ∧ Dk w' p g mb c (cputM d k i x m wb n b).1 ∧ Fr (fun k => k = p ∨ k = g ∨ k = mb) w w' :=
  (c_PutX h ho k i x m wb A n cb b hx hb hA hw1 hw2).mono fun e w' ⟨h1, h2, h3⟩ => ⟨⟨none, 0, by rw [h1, told_ms]; rfl, Rd.nil_, fun ad e => by cases e⟩, h2, h3⟩
theorem r_PutT (h : Rk w q r c d) (ho : d.ops + 1030 < 1000000000) (k i x : Int) (m : Nat) (wb : Bool) (A : Option Addr) (n cb : Nat) (b : List UInt8) (hx : -9223372036854775808 ≤ x ∧ x ≤ 9223372036854775807) (hb : Byt w A n cb b) (hA : ∀ ad, A = some ad → 0 < n → ad.block ≠ q ∧ ad.block ≠ r) (hw1 : (dWrite d (whole x).1 (whole x).2 b).1.ops ≤ d.ops + 1024) (hw2 : (dWrite d (whole x).1 (whole x).2 b).1.flush.1.ops ≤ d.ops + 1025) :
    Calls Tryz.prog 44 #[.pointer (some ⟨q, 0, none⟩), .agg (msV k i x m wb A n cb).toArray] w fun e w' => Tells w.heap.size e w' (tK (cputM d k i x m wb n b).2) (gO (cputM d k i x m wb n b).2 x) [] (cputM d k i x m wb n b).2 ∧ Rk w' q r c (cputM d k i x m wb n b).1 ∧ Fr (fun k => k = q ∨ k = r) w w' :=
  (r_Put h ho k i x m wb A n cb b hx hb hA hw1 hw2).mono fun e w' ⟨h1, h2, h3⟩ => ⟨⟨none, 0, by rw [h1, told_ms]; rfl, Rd.nil_, fun ad e => by cases e⟩, h2, h3⟩
end
end Go.Proofs.YtaldlapnhhhclaaGreat.Copying
