/- Exact contracts of the package copying on a disk: Put, Give, Told. Conditions: at most 10^9 operations. -/
import Derived.Test.YtaldlapnhhhclaaGreatCopying
import Derived.Test.YtaldlapnhhhclaaGreatB11
import Derived.Test.YtaldlapnhhhclaaGreatSafe4
set_option linter.unusedVariables false
set_option linter.unusedSimpArgs false
namespace Go.Proofs.YtaldlapnhhhclaaGreat.Copying
open Go.RowKit Tw Disk Slots Go.Proofs.YtaldlapnhhhclaaGreat.Data
set_option maxHeartbeats 8000000
set_option maxRecDepth 100000
section
variable {w : World} {p g mb c : Nat} {d d1 d2 d3 : Dsk}
theorem c_stepsX {Bf g1 g2 : Nat} {t1 t2 t3 : TypeId} (h : Dk w p g mb c d) (ho : d.ops + 1024 < 1000000000) (k i x : Int) (m : Nat) (wb : Bool) (A : Option Addr) (n cb : Nat) (b : List UInt8) (hx : -9223372036854775808 ≤ x ∧ x ≤ 9223372036854775807) (hb : Byt w A n cb b) (hA : ∀ ad, A = some ad → 0 < n → ad.block ≠ p ∧ ad.block ≠ mb) (E1 E2 E3 r : Nat)
    (hs1 : dWrite d (whole x).1 (whole x).2 b = (d1, E1)) (ho1 : d1.ops < 1000000000) (hs2 : d1.flush = (d2, E2)) (ho2 : d2.ops + 1 < 1000000000) (hs3 : dclear d2 x = (d3, r, E3))
    (h1 : w.heap[g1]? = some (.cells #[.pointer (some ⟨p, 0, none⟩)] t1 (0, 0))) (h2 : w.heap[g2]? = some (.cells (msV k i x m wb A n cb).toArray t2 (0, 0))) (h3 : w.heap[Bf]? = some (.cells #[F1 g1 g2, F2 (.pointer (some ⟨p, 0, none⟩)), F3 g1 g2] t3 (0, 0)))
    (hg : ∀ z, z = g1 ∨ z = g2 ∨ z = Bf → z ≠ p ∧ z ≠ g ∧ z ≠ mb) :
    Calls Tryz.prog 89 #[.slice (some ⟨Bf, 0, none⟩) 3 3] w fun e w' => e = .returned (.int .i64 ((if E1 = 0 then if E2 = 0 then E3 else E2 else E1 : Nat) : Int)) ∧ Dk w' p g mb c (if E1 = 0 then if E2 = 0 then d3 else d2 else d1) ∧ Fr (fun k => k = p ∨ k = g ∨ k = mb) w w' := by
  have hcl : ∀ W, Dk W p g mb c d2 → Calls Tryz.prog 25 #[.pointer (some ⟨p, 0, none⟩), .int .i64 x] W fun e' w' => e' = .returned (.tuple #[.int .u64 (r : Int), .int .i64 (E3 : Int)]) ∧ Dk w' p g mb c d3 ∧ Fr (fun k => k = p ∨ k = g ∨ k = mb) W w' := fun W hW => by
    have := Dirty.c_ClearE hW ho2 x
    rw [hs3] at this
    exact this
  have X1 := Lib.hid h1
  have X2 := Lib.hid h2
  have X3 := Lib.hid h3
  have G1 := Lib.hid (hg g1 (.inl rfl))
  have G2 := Lib.hid (hg g2 (.inr (.inl rfl)))
  have G3 := Lib.hid (hg Bf (.inr (.inr rfl)))
  have H := Lib.hid h
  have Hb := Lib.hid hb
  have HA := Lib.hid hA
  have S1 := Lib.hid hs1
  have S2 := Lib.hid hs2
  have HC := Lib.hid hcl
  have Ho1 := Lib.hid ho1
  clear h1 h2 h3 hg h hb hA hs1 hs2 hcl ho1 hs3 ho2
  go_enter Tryz.func89, Tryz.ntmps89
  go_wp2_with fail
  go_loopw [2, 7] (fun u v wr => ∃ (j : Nat) (D : Dsk), j ≤ 3 ∧ u = .int .i64 0 ∧ v = .int .i64 (j : Int) ∧ Hid ((j = 0 ∧ D = d ∧ wr = w) ∨ (j = 1 ∧ D = d1 ∧ E1 = 0) ∨ (j = 2 ∧ D = d2 ∧ E1 = 0 ∧ E2 = 0) ∨ (j = 3 ∧ D = d3 ∧ E1 = 0 ∧ E2 = 0 ∧ E3 = 0)) ∧ Hid (Dk wr p g mb c D) ∧ Hid (Fr (fun k => k = p ∨ k = g ∨ k = mb) w wr)) (fun _ v _ => 3 - (intOf v).toNat)
  case atStart => exact ⟨0, d, by omega, rfl, rfl, Lib.hid (.inl ⟨rfl, rfl, rfl⟩), H, Lib.hid (Fr.refl _ _)⟩
  case round =>
    obtain ⟨j, D, hj, rfl, rfl, HJ, HD, HF⟩ := hrel
    have x1 := heap_fr X1.out HF.out (by have := G1.out; omega)
    have x2 := heap_fr X2.out HF.out (by have := G2.out; omega)
    obtain ⟨c0, c1, c2⟩ := fcells (heap_fr X3.out HF.out (by have := G3.out; omega))
    have Y1 := Lib.hid x1
    have Y2 := Lib.hid x2
    simp only [F1, F2, F3] at c0 c1 c2
    clear x1 x2
    rcases HJ.out with ⟨rfl, rfl, rfl⟩ | ⟨rfl, rfl, hz1⟩ | ⟨rfl, rfl, hz1, hz2⟩ | ⟨rfl, rfl, hz1, hz2, hz3⟩
    · clear HJ
      by_cases hz : E1 = 0
      · subst hz
        go_wp2_with (first
        | (go_at_call 86
           (with_reducible refine (c_put1 HD.out ho k i x m wb A n cb b hx Hb.out HA.out Y1.out Y2.out).mono ?_)
           rw [S1.out]
           rintro e w2 ⟨rfl, h2, f2⟩
           have H2 := Lib.hid h2
           have FF2 := Lib.hid (HF.out.trans (f2.mono (S1 := fun k => k = p ∨ k = g ∨ k = mb) (fun k _ e => e.elim .inl (fun e => .inr (.inr e)))) (fun _ _ e => e))
           clear h2 f2 c0 c1 c2)
        | (go_at_call 71
           (with_reducible refine (c_Flush HD.out Ho1.out).mono ?_)
           rw [S2.out]
           rintro e w2 ⟨rfl, h2, f2⟩
           have H2 := Lib.hid h2
           have FF2 := Lib.hid (HF.out.trans f2 (fun _ _ e => e))
           clear h2 f2 c0 c1 c2)
        | (go_at_call 88
           (with_reducible refine (c_put2 HD.out k i x m wb A n cb r _ HC.out Y1.out Y2.out).mono ?_)
           rintro e w2 ⟨rfl, h2, f2⟩
           have H2 := Lib.hid h2
           have FF2 := Lib.hid (HF.out.trans f2 (fun _ _ e => e))
           clear h2 f2 c0 c1 c2)
        )
        go_roundw
        case rel => exact ⟨1, d1, by omega, rfl, by go_num, Lib.hid (.inr (.inl ⟨by trivial, by trivial, by trivial⟩)), H2, FF2⟩
        case measure => simp [intOf] <;> omega
      · have hne : ((E1 : Int) != 0) = true := by simp; omega
        go_wp2_with (first
        | (go_at_call 86
           (with_reducible refine (c_put1 HD.out ho k i x m wb A n cb b hx Hb.out HA.out Y1.out Y2.out).mono ?_)
           rw [S1.out]
           rintro e w2 ⟨rfl, h2, f2⟩
           have H2 := Lib.hid h2
           have FF2 := Lib.hid (HF.out.trans (f2.mono (S1 := fun k => k = p ∨ k = g ∨ k = mb) (fun k _ e => e.elim .inl (fun e => .inr (.inr e)))) (fun _ _ e => e))
           clear h2 f2 c0 c1 c2)
        | (go_at_call 71
           (with_reducible refine (c_Flush HD.out Ho1.out).mono ?_)
           rw [S2.out]
           rintro e w2 ⟨rfl, h2, f2⟩
           have H2 := Lib.hid h2
           have FF2 := Lib.hid (HF.out.trans f2 (fun _ _ e => e))
           clear h2 f2 c0 c1 c2)
        | (go_at_call 88
           (with_reducible refine (c_put2 HD.out k i x m wb A n cb r _ HC.out Y1.out Y2.out).mono ?_)
           rintro e w2 ⟨rfl, h2, f2⟩
           have H2 := Lib.hid h2
           have FF2 := Lib.hid (HF.out.trans f2 (fun _ _ e => e))
           clear h2 f2 c0 c1 c2)
        )
        go_ret
        simp only [if_neg hz, if_true, if_pos]
        exact ⟨rfl, H2.out, FF2.out⟩
    · clear HJ
      subst hz1
      by_cases hz : E2 = 0
      · subst hz
        go_wp2_with (first
        | (go_at_call 86
           (with_reducible refine (c_put1 HD.out ho k i x m wb A n cb b hx Hb.out HA.out Y1.out Y2.out).mono ?_)
           rw [S1.out]
           rintro e w2 ⟨rfl, h2, f2⟩
           have H2 := Lib.hid h2
           have FF2 := Lib.hid (HF.out.trans (f2.mono (S1 := fun k => k = p ∨ k = g ∨ k = mb) (fun k _ e => e.elim .inl (fun e => .inr (.inr e)))) (fun _ _ e => e))
           clear h2 f2 c0 c1 c2)
        | (go_at_call 71
           (with_reducible refine (c_Flush HD.out Ho1.out).mono ?_)
           rw [S2.out]
           rintro e w2 ⟨rfl, h2, f2⟩
           have H2 := Lib.hid h2
           have FF2 := Lib.hid (HF.out.trans f2 (fun _ _ e => e))
           clear h2 f2 c0 c1 c2)
        | (go_at_call 88
           (with_reducible refine (c_put2 HD.out k i x m wb A n cb r _ HC.out Y1.out Y2.out).mono ?_)
           rintro e w2 ⟨rfl, h2, f2⟩
           have H2 := Lib.hid h2
           have FF2 := Lib.hid (HF.out.trans f2 (fun _ _ e => e))
           clear h2 f2 c0 c1 c2)
        )
        go_roundw
        case rel => exact ⟨2, d2, by omega, rfl, by go_num, Lib.hid (.inr (.inr (.inl ⟨by trivial, by trivial, by trivial, by trivial⟩))), H2, FF2⟩
        case measure => simp [intOf] <;> omega
      · have hne : ((E2 : Int) != 0) = true := by simp; omega
        go_wp2_with (first
        | (go_at_call 86
           (with_reducible refine (c_put1 HD.out ho k i x m wb A n cb b hx Hb.out HA.out Y1.out Y2.out).mono ?_)
           rw [S1.out]
           rintro e w2 ⟨rfl, h2, f2⟩
           have H2 := Lib.hid h2
           have FF2 := Lib.hid (HF.out.trans (f2.mono (S1 := fun k => k = p ∨ k = g ∨ k = mb) (fun k _ e => e.elim .inl (fun e => .inr (.inr e)))) (fun _ _ e => e))
           clear h2 f2 c0 c1 c2)
        | (go_at_call 71
           (with_reducible refine (c_Flush HD.out Ho1.out).mono ?_)
           rw [S2.out]
           rintro e w2 ⟨rfl, h2, f2⟩
           have H2 := Lib.hid h2
           have FF2 := Lib.hid (HF.out.trans f2 (fun _ _ e => e))
           clear h2 f2 c0 c1 c2)
        | (go_at_call 88
           (with_reducible refine (c_put2 HD.out k i x m wb A n cb r _ HC.out Y1.out Y2.out).mono ?_)
           rintro e w2 ⟨rfl, h2, f2⟩
           have H2 := Lib.hid h2
           have FF2 := Lib.hid (HF.out.trans f2 (fun _ _ e => e))
           clear h2 f2 c0 c1 c2)
        )
        go_ret
        simp only [if_neg hz, if_true, if_pos]
        exact ⟨rfl, H2.out, FF2.out⟩
    · clear HJ
      subst hz1 hz2
      by_cases hz : E3 = 0
      · subst hz
        go_wp2_with (first
        | (go_at_call 86
           (with_reducible refine (c_put1 HD.out ho k i x m wb A n cb b hx Hb.out HA.out Y1.out Y2.out).mono ?_)
           rw [S1.out]
           rintro e w2 ⟨rfl, h2, f2⟩
           have H2 := Lib.hid h2
           have FF2 := Lib.hid (HF.out.trans (f2.mono (S1 := fun k => k = p ∨ k = g ∨ k = mb) (fun k _ e => e.elim .inl (fun e => .inr (.inr e)))) (fun _ _ e => e))
           clear h2 f2 c0 c1 c2)
        | (go_at_call 71
           (with_reducible refine (c_Flush HD.out Ho1.out).mono ?_)
           rw [S2.out]
           rintro e w2 ⟨rfl, h2, f2⟩
           have H2 := Lib.hid h2
           have FF2 := Lib.hid (HF.out.trans f2 (fun _ _ e => e))
           clear h2 f2 c0 c1 c2)
        | (go_at_call 88
           (with_reducible refine (c_put2 HD.out k i x m wb A n cb r _ HC.out Y1.out Y2.out).mono ?_)
           rintro e w2 ⟨rfl, h2, f2⟩
           have H2 := Lib.hid h2
           have FF2 := Lib.hid (HF.out.trans f2 (fun _ _ e => e))
           clear h2 f2 c0 c1 c2)
        )
        go_roundw
        case rel => exact ⟨3, d3, by omega, rfl, by go_num, Lib.hid (.inr (.inr (.inr ⟨by trivial, by trivial, by trivial, by trivial, by trivial⟩))), H2, FF2⟩
        case measure => simp [intOf] <;> omega
      · have hne : ((E3 : Int) != 0) = true := by simp; omega
        go_wp2_with (first
        | (go_at_call 86
           (with_reducible refine (c_put1 HD.out ho k i x m wb A n cb b hx Hb.out HA.out Y1.out Y2.out).mono ?_)
           rw [S1.out]
           rintro e w2 ⟨rfl, h2, f2⟩
           have H2 := Lib.hid h2
           have FF2 := Lib.hid (HF.out.trans (f2.mono (S1 := fun k => k = p ∨ k = g ∨ k = mb) (fun k _ e => e.elim .inl (fun e => .inr (.inr e)))) (fun _ _ e => e))
           clear h2 f2 c0 c1 c2)
        | (go_at_call 71
           (with_reducible refine (c_Flush HD.out Ho1.out).mono ?_)
           rw [S2.out]
           rintro e w2 ⟨rfl, h2, f2⟩
           have H2 := Lib.hid h2
           have FF2 := Lib.hid (HF.out.trans f2 (fun _ _ e => e))
           clear h2 f2 c0 c1 c2)
        | (go_at_call 88
           (with_reducible refine (c_put2 HD.out k i x m wb A n cb r _ HC.out Y1.out Y2.out).mono ?_)
           rintro e w2 ⟨rfl, h2, f2⟩
           have H2 := Lib.hid h2
           have FF2 := Lib.hid (HF.out.trans f2 (fun _ _ e => e))
           clear h2 f2 c0 c1 c2)
        )
        go_ret
        simp only [if_true, if_pos]
        exact ⟨rfl, H2.out, FF2.out⟩
    · clear HJ
      subst hz1 hz2 hz3
      go_wp2_with fail
      go_ret
      simp only [if_true, if_pos]
      exact ⟨rfl, HD.out, HF.out⟩
end

/-- a message that came, put: the disk, the error -/
def cputM (d : Dsk) (k i x : Int) (m : Nat) (wb : Bool) (n : Nat) (b : List UInt8) : Dsk × Nat := if k = 6 ∧ Pack.Good k i x m wb n then cput d x b else (d, 2)
def told (x : Int) (E : Nat) : Array Value := if E = 0 then (msV 7 0 x 0 false none 0 0).toArray else m0
section
variable {w : World} {p g mb c : Nat} {d d1 d2 d3 : Dsk}
theorem c_PutX (h : Dk w p g mb c d) (ho : d.ops + 1030 < 1000000000) (k i x : Int) (m : Nat) (wb : Bool) (A : Option Addr) (n cb : Nat) (b : List UInt8) (hx : -9223372036854775808 ≤ x ∧ x ≤ 9223372036854775807) (hb : Byt w A n cb b) (hA : ∀ ad, A = some ad → 0 < n → ad.block ≠ p ∧ ad.block ≠ mb) (hw1 : (dWrite d (whole x).1 (whole x).2 b).1.ops ≤ d.ops + 1024) (hw2 : (dWrite d (whole x).1 (whole x).2 b).1.flush.1.ops ≤ d.ops + 1025) :
    Calls Tryz.prog 43 #[.pointer (some ⟨p, 0, none⟩), .agg (msV k i x m wb A n cb).toArray] w fun e w' => e = .returned (.tuple #[.agg (told x (cputM d k i x m wb n b).2), .int .i64 ((cputM d k i x m wb n b).2 : Int)]) ∧ Dk w' p g mb c (cputM d k i x m wb n b).1 ∧ Fr (fun k => k = p ∨ k = g ∨ k = mb) w w' := by
  have hlt := h.lts
  by_cases hk : k = 6
  · by_cases hg : Pack.Good k i x m wb n
    · rw [show cputM d k i x m wb n b = cput d x b from if_pos ⟨hk, hg⟩]
      obtain ⟨⟨d1, E1⟩, hs1⟩ : ∃ r, dWrite d (whole x).1 (whole x).2 b = r := ⟨_, rfl⟩
      rw [hs1] at hw1 hw2
      simp only at hw1 hw2
      obtain ⟨⟨d2, E2⟩, hs2⟩ : ∃ r, d1.flush = r := ⟨_, rfl⟩
      rw [hs2] at hw2
      simp only at hw2
      obtain ⟨⟨d3, r, E3⟩, hs3⟩ : ∃ r, dclear d2 x = r := ⟨_, rfl⟩
      have hcp : cput d x b = (if E1 = 0 then if E2 = 0 then d3 else d2 else d1, if E1 = 0 then if E2 = 0 then E3 else E2 else E1) := by
        unfold cput
        rw [hs1]
        simp only
        rw [hs2]
        simp only
        rw [hs3]
        by_cases q1 : E1 = 0
        · by_cases q2 : E2 = 0
          · simp [q1, q2]
          · simp [q1, q2]
        · simp [q1]
      rw [hcp]
      have hst := fun W (hd : Dk W p g mb c d) (hbb : Byt W A n cb b) (Bf g1 g2 : Nat) (t1 t2 t3 : TypeId) => c_stepsX (Bf := Bf) (g1 := g1) (g2 := g2) (t1 := t1) (t2 := t2) (t3 := t3) hd (by omega) k i x m wb A n cb b hx hbb hA E1 E2 E3 r hs1 (by omega) hs2 (by omega) hs3
      simp only
      generalize (if E1 = 0 then if E2 = 0 then E3 else E2 else E1) = E at *
      generalize (if E1 = 0 then if E2 = 0 then d3 else d2 else d1) = dE at *
      obtain ⟨W3, hW3, x0, x1, x2, hB, hsz⟩ := Slots.three w (.cells #[.pointer (some ⟨p, 0, none⟩)] 29) (.cells (msV k i x m wb A n cb).toArray 25) (.cells m0 25)
      simp only [m0] at hW3 x2
      obtain ⟨e0, e2, e5⟩ := ms6 x1
      have d0 := Actlog.cell1 x0
      have X0 := Lib.hid x0
      have X1 := Lib.hid x1
      have X2 := Lib.hid x2
      have HB := Lib.hid hB
      have HW := Lib.hid hW3
      clear x0 x1 x2 hB hW3
      have Hg := Lib.hid (decide_eq_true hg)
      have hk2 : (k != 6) = false := by simp [hk]
      have H := Lib.hid (h.bel (HB.out.mono (by omega)))
      have Hb := Lib.hid (hb.bel (HB.out.mono (by omega)))
      have HS := Lib.hid hst
      clear hg hk h hb hst hs1 hs2 hs3 hcp hA
      by_cases hE : E = 0
      · subst hE
        go_enter Tryz.func43, Tryz.ntmps43
        go_upto_region 1 with (fail)
        rw [← HW.out]
        go_wp2_with (first
    | (refine wpL_load_rdG rfl 25 (.tmp 3) rfl ⟨w.heap.size + 1, 0, none⟩ rfl (msV k i x m wb A n cb) _ ((rd_of_heap (n := 6) X1.out rfl (by simp [maxLen])).cell _ rfl) Tryz.underlying25 rfl (by kernel_rfl) ?_)
    | (go_at_call 85
       (with_reducible refine (good_ms k i x m wb A n cb _).mono ?_)
       rintro e w2 ⟨rfl, hb2⟩
       rw [Hg.out]
       have X0 := Lib.hid ((hb2.block _ (heap_lt X0.out)).trans X0.out)
       have X1 := Lib.hid ((hb2.block _ (heap_lt X1.out)).trans X1.out)
       have X2 := Lib.hid ((hb2.block _ (heap_lt X2.out)).trans X2.out)
       have HB := Lib.hid (HB.out.trans (hb2.mono HB.out.size))
       clear d0 e0 e2 e5
       obtain ⟨e0, e2, e5⟩ := ms6 X1.out
       have d0 := Actlog.cell1 X0.out
       have hsz := Nat.le_trans (Nat.le_of_eq hsz.symm) hb2.size
       have H := Lib.hid (H.out.bel hb2); have Hb := Lib.hid (Hb.out.bel hb2)
       clear hb2)
    | (go_at_call 89
       refine (HS.out _ (H.out.bel ((Below.refl _ _).alloc (Nat.le_refl _) _)) (Hb.out.bel ((Below.refl _ _).alloc (Nat.le_refl _) _)) _ w.heap.size (w.heap.size + 1) _ _ _ ((Below.heap_alloc _ _ _ (heap_lt X0.out)).trans X0.out) ((Below.heap_alloc _ _ _ (heap_lt X1.out)).trans X1.out) (heap_alloc_new _ _) (by intro z hz; omega)).mono ?_
       rintro e w3 ⟨rfl, h3, f3⟩
       have fbs := (Fr.of_bel (S := fun k => k = p ∨ k = g ∨ k = mb) ((Below.refl _ _).alloc (Nat.le_refl _) _)).trans f3 (fun _ _ e => e)
       have hx1 := heap_fr X1.out fbs (by omega)
       have X2 := Lib.hid (heap_fr X2.out fbs (by omega))
       have HF3 := Lib.hid ((Fr.of_bel (S := fun k => k = p ∨ k = g ∨ k = mb) HB.out).trans fbs (fun _ _ e => e))
       have H3 := Lib.hid h3
       clear d0 e0 e2 e5
       obtain ⟨e0, e2, e5⟩ := ms6 hx1
       clear h3 f3 fbs hx1)
    | (refine wpL_store_all rfl rfl 25 (.tmp 4) (.tmp 32) rfl _ rfl _ rfl _ _ X2.out (by kernel_rfl) rfl (by simp [Value.oneCell']) ?_
       intro w8 x8 g8
       have HX8 := Lib.hid x8
       have f8 := Fr.grown (S := fun k => k = w.heap.size + 1 + 1) g8 (by rintro k ⟨⟩; rfl)
       have H8 := Lib.hid (H3.out.fr f8 (by omega) (by omega) (by omega))
       have HF8 := Lib.hid (HF3.out.trans f8 (fun z hz e => by omega))
       clear x8 g8 f8 e0 e2 e5)
        )
        refine bodyPost_ret (results_cell2 rfl _ _ (w.heap.size + 1 + 1) _ _ (0, 0) _ rfl HX8.out Tryz.underlying25 rfl (by kernel_rfl) _ rfl) rfl ?_
        exact ⟨rfl, H8.out, HF8.out⟩
      · have hne : ((E : Int) != 0) = true := by simp; omega
        have ht : told x E = m0 := if_neg hE
        rw [ht]
        go_enter Tryz.func43, Tryz.ntmps43
        go_upto_region 1 with (fail)
        rw [← HW.out]
        go_wp2_with (first
    | (refine wpL_load_rdG rfl 25 (.tmp 3) rfl ⟨w.heap.size + 1, 0, none⟩ rfl (msV k i x m wb A n cb) _ ((rd_of_heap (n := 6) X1.out rfl (by simp [maxLen])).cell _ rfl) Tryz.underlying25 rfl (by kernel_rfl) ?_)
    | (go_at_call 85
       (with_reducible refine (good_ms k i x m wb A n cb _).mono ?_)
       rintro e w2 ⟨rfl, hb2⟩
       rw [Hg.out]
       have X0 := Lib.hid ((hb2.block _ (heap_lt X0.out)).trans X0.out)
       have X1 := Lib.hid ((hb2.block _ (heap_lt X1.out)).trans X1.out)
       have X2 := Lib.hid ((hb2.block _ (heap_lt X2.out)).trans X2.out)
       have HB := Lib.hid (HB.out.trans (hb2.mono HB.out.size))
       clear d0 e0 e2 e5
       obtain ⟨e0, e2, e5⟩ := ms6 X1.out
       have d0 := Actlog.cell1 X0.out
       have hsz := Nat.le_trans (Nat.le_of_eq hsz.symm) hb2.size
       have H := Lib.hid (H.out.bel hb2); have Hb := Lib.hid (Hb.out.bel hb2)
       clear hb2)
    | (go_at_call 89
       refine (HS.out _ (H.out.bel ((Below.refl _ _).alloc (Nat.le_refl _) _)) (Hb.out.bel ((Below.refl _ _).alloc (Nat.le_refl _) _)) _ w.heap.size (w.heap.size + 1) _ _ _ ((Below.heap_alloc _ _ _ (heap_lt X0.out)).trans X0.out) ((Below.heap_alloc _ _ _ (heap_lt X1.out)).trans X1.out) (heap_alloc_new _ _) (by intro z hz; omega)).mono ?_
       rintro e w3 ⟨rfl, h3, f3⟩
       have fbs := (Fr.of_bel (S := fun k => k = p ∨ k = g ∨ k = mb) ((Below.refl _ _).alloc (Nat.le_refl _) _)).trans f3 (fun _ _ e => e)
       have hx1 := heap_fr X1.out fbs (by omega)
       have X2 := Lib.hid (heap_fr X2.out fbs (by omega))
       have HF3 := Lib.hid ((Fr.of_bel (S := fun k => k = p ∨ k = g ∨ k = mb) HB.out).trans fbs (fun _ _ e => e))
       have H3 := Lib.hid h3
       clear d0 e0 e2 e5
       obtain ⟨e0, e2, e5⟩ := ms6 hx1
       clear h3 f3 fbs hx1)
    | (refine wpL_store_all rfl rfl 25 (.tmp 4) (.tmp 28) rfl _ rfl _ rfl _ _ X2.out (by kernel_rfl) rfl (by simp [Value.oneCell']) ?_
       intro w8 x8 g8
       have HX8 := Lib.hid x8
       have f8 := Fr.grown (S := fun k => k = w.heap.size + 1 + 1) g8 (by rintro k ⟨⟩; rfl)
       have H8 := Lib.hid (H3.out.fr f8 (by omega) (by omega) (by omega))
       have HF8 := Lib.hid (HF3.out.trans f8 (fun z hz e => by omega))
       clear x8 g8 f8 e0 e2 e5)
        )
        refine bodyPost_ret (results_cell2 rfl _ _ (w.heap.size + 1 + 1) _ _ (0, 0) _ rfl HX8.out Tryz.underlying25 rfl (by kernel_rfl) _ rfl) rfl ?_
        exact ⟨rfl, H8.out, HF8.out⟩
    · rw [show cputM d k i x m wb n b = (d, 2) from if_neg (fun e => hg e.2)]
      have ht : told x 2 = m0 := if_neg (by omega)
      simp only
      rw [ht]
      obtain ⟨W3, hW3, x0, x1, x2, hB, hsz⟩ := Slots.three w (.cells #[.pointer (some ⟨p, 0, none⟩)] 29) (.cells (msV k i x m wb A n cb).toArray 25) (.cells m0 25)
      simp only [m0] at hW3 x2
      obtain ⟨e0, e2, e5⟩ := ms6 x1
      have d0 := Actlog.cell1 x0
      have X0 := Lib.hid x0
      have X1 := Lib.hid x1
      have X2 := Lib.hid x2
      have HB := Lib.hid hB
      have HW := Lib.hid hW3
      clear x0 x1 x2 hB hW3
      have Hg := Lib.hid (decide_eq_false hg)
      have hk2 : (k != 6) = false := by simp [hk]
      have H3 := Lib.hid (h.bel (HB.out.mono (by omega)))
      have HF3 := Lib.hid (Fr.of_bel (S := fun k => k = p ∨ k = g ∨ k = mb) HB.out)
      clear hg hk h hb
      go_enter Tryz.func43, Tryz.ntmps43
      go_upto_region 1 with (fail)
      rw [← HW.out]
      go_wp2_with (first
    | (refine wpL_load_rdG rfl 25 (.tmp 3) rfl ⟨w.heap.size + 1, 0, none⟩ rfl (msV k i x m wb A n cb) _ ((rd_of_heap (n := 6) X1.out rfl (by simp [maxLen])).cell _ rfl) Tryz.underlying25 rfl (by kernel_rfl) ?_)
    | (go_at_call 85
       (with_reducible refine (good_ms k i x m wb A n cb _).mono ?_)
       rintro e w2 ⟨rfl, hb2⟩
       rw [Hg.out]
       have X0 := Lib.hid ((hb2.block _ (heap_lt X0.out)).trans X0.out)
       have X1 := Lib.hid ((hb2.block _ (heap_lt X1.out)).trans X1.out)
       have X2 := Lib.hid ((hb2.block _ (heap_lt X2.out)).trans X2.out)
       have HB := Lib.hid (HB.out.trans (hb2.mono HB.out.size))
       clear d0 e0 e2 e5
       obtain ⟨e0, e2, e5⟩ := ms6 X1.out
       have d0 := Actlog.cell1 X0.out
       have hsz := Nat.le_trans (Nat.le_of_eq hsz.symm) hb2.size
       have H3 := Lib.hid (H3.out.bel hb2); have HF3 := Lib.hid (Fr.of_bel (S := fun k => k = p ∨ k = g ∨ k = mb) HB.out)
       clear hb2)
    | (refine wpL_store_all rfl rfl 25 (.tmp 4) (.tmp 17) rfl _ rfl _ rfl _ _ X2.out (by kernel_rfl) rfl (by simp [Value.oneCell']) ?_
       intro w8 x8 g8
       have HX8 := Lib.hid x8
       have f8 := Fr.grown (S := fun k => k = w.heap.size + 1 + 1) g8 (by rintro k ⟨⟩; rfl)
       have H8 := Lib.hid (H3.out.fr f8 (by omega) (by omega) (by omega))
       have HF8 := Lib.hid (HF3.out.trans f8 (fun z hz e => by omega))
       clear x8 g8 f8 e0 e2 e5)
      )
      refine bodyPost_ret (results_cell2 rfl _ _ (w.heap.size + 1 + 1) _ _ (0, 0) _ rfl HX8.out Tryz.underlying25 rfl (by kernel_rfl) _ rfl) rfl ?_
      exact ⟨rfl, H8.out, HF8.out⟩
  · rw [show cputM d k i x m wb n b = (d, 2) from if_neg (fun e => hk e.1)]
    have ht : told x 2 = m0 := if_neg (by omega)
    simp only
    rw [ht]
    obtain ⟨W3, hW3, x0, x1, x2, hB, hsz⟩ := Slots.three w (.cells #[.pointer (some ⟨p, 0, none⟩)] 29) (.cells (msV k i x m wb A n cb).toArray 25) (.cells m0 25)
    simp only [m0] at hW3 x2
    obtain ⟨e0, e2, e5⟩ := ms6 x1
    have d0 := Actlog.cell1 x0
    have X0 := Lib.hid x0
    have X1 := Lib.hid x1
    have X2 := Lib.hid x2
    have HB := Lib.hid hB
    have HW := Lib.hid hW3
    clear x0 x1 x2 hB hW3
    have hk2 : (k != 6) = true := by simp [hk]
    have H3 := Lib.hid (h.bel (HB.out.mono (by omega)))
    have HF3 := Lib.hid (Fr.of_bel (S := fun k => k = p ∨ k = g ∨ k = mb) HB.out)
    clear hk h hb
    go_enter Tryz.func43, Tryz.ntmps43
    go_upto_region 1 with (fail)
    rw [← HW.out]
    go_wp2_with (first
    | (refine wpL_store_all rfl rfl 25 (.tmp 4) (.tmp 17) rfl _ rfl _ rfl _ _ X2.out (by kernel_rfl) rfl (by simp [Value.oneCell']) ?_
       intro w8 x8 g8
       have HX8 := Lib.hid x8
       have f8 := Fr.grown (S := fun k => k = w.heap.size + 1 + 1) g8 (by rintro k ⟨⟩; rfl)
       have H8 := Lib.hid (H3.out.fr f8 (by omega) (by omega) (by omega))
       have HF8 := Lib.hid (HF3.out.trans f8 (fun z hz e => by omega))
       clear x8 g8 f8 e0 e2 e5)
    )
    refine bodyPost_ret (results_cell2 rfl _ _ (w.heap.size + 1 + 1) _ _ (0, 0) _ rfl HX8.out Tryz.underlying25 rfl (by kernel_rfl) _ rfl) rfl ?_
    exact ⟨rfl, H8.out, HF8.out⟩
end
end Go.Proofs.YtaldlapnhhhclaaGreat.Copying
