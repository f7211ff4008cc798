/- Contracts of the package slots: Put; the law SlotsPlaces. Conditions: at most 10^9 operations. -/
import Derived.Test.YtpbcmghfhflkbaaSlots3
set_option linter.unusedVariables false
set_option linter.unusedSimpArgs false
namespace Go.Proofs.Ytpbcmghfhflkbaa.Slots
open Go.RowKit Tw Disk
set_option maxHeartbeats 4000000
set_option maxRecDepth 100000
theorem c_Put_nil (b s : Int) (x : Nat) (w : World) : Calls Try.prog 18 #[.pointer none, .int .i64 b, .int .i64 s, .int .u64 (x : Int)] w fun e w' => e = .returned (.int .i64 1) ∧ Below w.heap.size w w' := by
  have HB := Lib.hid ((Below.refl _ _).alloc (Nat.le_refl w.heap.size) (.cells #[.int .i64 b, .int .i64 s] 182))
  go_enter Try.func18, Try.ntmps18
  go_wp2_with (first
    | (go_at_call 90
       (with_reducible refine (c_Made_nil _).mono ?_)
       rintro e w' ⟨rfl, rfl⟩))
  go_ret
  exact ⟨rfl, by have h := HB.out; simpa using h⟩
section
variable {w : World} {p g mb c : Nat} {d : Dsk}
theorem write_ops (d : Dsk) (x : Int) (s : Sec) : (d.write x s).1.ops ≤ d.ops + 1 := by
  unfold Dsk.write Dsk.put Dsk.spend Dsk.burn
  (repeat' split) <;> simp_all
theorem write_n (d : Dsk) (x : Int) (s : Sec) : (d.write x s).1.cells.length = d.cells.length := by
  unfold Dsk.write Dsk.put Dsk.spend Dsk.burn
  (repeat' split) <;> simp_all
theorem write_err (d : Dsk) (x : Int) (s : Sec) : (d.write x s).2 ≤ 13 := by
  unfold Dsk.write
  (repeat' split)
  · simp
  · rcases spend_err d with h | h <;> omega
  · simp
theorem c_Put (h : Dk w p g mb c d) (ho : d.ops + 1 < 1000000000) (b s : Int) (x : Nat) (hx : x < 18446744073709551616) :
    Calls Try.prog 18 #[.pointer (some ⟨p, 0, none⟩), .int .i64 b, .int .i64 s, .int .u64 (x : Int)] w fun e w' => e = .returned (.int .i64 ((sput d b s x).2 : Int)) ∧ Dk w' p g mb c (sput d b s x).1 ∧ Fr (fun k => k = p ∨ k = g ∨ k = mb) w w' := by
  have hlt := h.lts
  have HB := Lib.hid ((Below.refl _ _).alloc (Nat.le_refl w.heap.size) (.cells #[.int .i64 b, .int .i64 s] 182))
  have HX := Lib.hid (heap_alloc_new w (.cells #[.int .i64 b, .int .i64 s] 182))
  have HK := Lib.hid (h.bel HB.out)
  have hN := h.ok.n
  obtain ⟨⟨d2, e2⟩, hsp⟩ : ∃ r, sput d b s x = r := ⟨_, rfl⟩
  rw [hsp]
  unfold sput at hsp
  obtain ⟨d1, d2'⟩ := cells2 HX.out
  clear h
  go_enter Try.func18, Try.ntmps18
  go_upto_block 0 with (fail)
  generalize (w.alloc (.cells #[.int .i64 b, .int .i64 s] 182)) = W1 at *
  have hDV : DV W1 (.pointer (some ⟨p, 0, none⟩)) d.cells.length := .inl ⟨p, g, mb, c, d, rfl, HK.out, rfl⟩
  have HV := Lib.hid hDV
  have HF := Lib.hid (Fr.of_bel (S := fun k => k = p ∨ k = g ∨ k = mb) HB.out)
  clear hDV
  by_cases hon : On b s d.cells.length
  · rw [if_pos hon] at hsp
    have hd := Lib.hid (decide_eq_true hon)
    by_cases hbk : d.broken = true
    · rw [if_pos hbk] at hsp
      obtain ⟨rfl, rfl⟩ := Prod.mk.inj hsp
      have hbr := Lib.hid hbk
      clear hsp hbk hon
      go_wp2_with (first
    | (go_at_call 90
       (with_reducible refine (c_Made HK.out).mono ?_)
       rintro e w' ⟨rfl, rfl⟩)
    | (go_at_call 91
       (with_reducible refine (c_on _ _ _ _ _ HV.out).mono ?_)
       rintro e w2 ⟨rfl, hb2⟩
       rw [hd.out]
       have HF := Lib.hid (HF.out.trans (Fr.of_bel (S := fun _ => False) hb2) (fun _ _ e => e.elim))
       have HK := Lib.hid (HK.out.bel hb2)
       have HX := Lib.hid ((hb2.block _ (heap_lt HX.out)).trans HX.out)
       clear d1 d2'
       obtain ⟨d1, d2'⟩ := cells2 HX.out
       clear hb2)
    | (go_at_call 92
       (with_reducible refine (c_Broken HK.out).mono ?_)
       rintro e w' ⟨rfl, rfl⟩
       rw [hbr.out])
      | fail)
      go_ret
      exact ⟨rfl, HK.out, HF.out⟩
    · rw [if_neg hbk] at hsp
      have hbr : Hid (d.broken = false) := Lib.hid (by simpa using hbk)
      have hll := latest_lt d b s
      obtain ⟨⟨l1, l2⟩, hl⟩ : ∃ r, latest d b s = r := ⟨_, rfl⟩
      have hL := fun w (h : Dk w p g mb c d) => c_latest h b s
      rw [hl] at hsp hll
      simp only at hsp hll
      have Hl := Lib.hid hl
      have Hon := Lib.hid hon
      clear hl hon hbk
      by_cases hmx : l1 = 4294967295
      · rw [if_pos hmx] at hsp
        obtain ⟨rfl, rfl⟩ := Prod.mk.inj hsp
        subst hmx
        clear hsp
        go_wp2_with (first
      | (go_at_call 90
         (with_reducible refine (c_Made HK.out).mono ?_)
         rintro e w' ⟨rfl, rfl⟩)
      | (go_at_call 91
         (with_reducible refine (c_on _ _ _ _ _ HV.out).mono ?_)
         rintro e w2 ⟨rfl, hb2⟩
         rw [hd.out]
         have HF := Lib.hid (HF.out.trans (Fr.of_bel (S := fun _ => False) hb2) (fun _ _ e => e.elim))
         have HK := Lib.hid (HK.out.bel hb2)
         have HX := Lib.hid ((hb2.block _ (heap_lt HX.out)).trans HX.out)
         clear d1 d2'
         obtain ⟨d1, d2'⟩ := cells2 HX.out
         clear hb2)
      | (go_at_call 92
         (with_reducible refine (c_Broken HK.out).mono ?_)
         rintro e w' ⟨rfl, rfl⟩
         rw [hbr.out])
      | (go_at_call 93
         (with_reducible refine (hL _ HK.out).mono ?_)
         rintro e w3 ⟨rfl, hb3⟩
         rw [Hl.out]
         have HF := Lib.hid (HF.out.trans (Fr.of_bel (S := fun _ => False) hb3) (fun _ _ e => e.elim))
         have HK := Lib.hid (HK.out.bel hb3)
         have HX := Lib.hid ((hb3.block _ (heap_lt HX.out)).trans HX.out)
         have HX7 := Lib.hid (heap_alloc_new w3 (.cells #[.int .u32 0, .int .u64 0] 185))
         clear d1 d2' hb3 hL)
      | (refine wpL_store_all rfl rfl 185 (.tmp 10) (.tmp 30) rfl _ rfl _ rfl _ _ HX7.out (by kernel_rfl) rfl (by simp [Value.oneCell']) ?_
         intro w5 x5 g5
         have F5 := ((Fr.alloc (S := fun k => k = w3.heap.size) (w := w3) (.cells #[.int .u32 0, .int .u64 0] 185)).trans (Fr.grown (S := fun k => k = w3.heap.size) g5 (by simp)) (fun b hb e => e))
         have hp3 := HK.out.lts
         have hx3 := heap_lt HX.out
         have HK5 := Lib.hid (HK.out.fr F5 (by omega) (by omega) (by omega))
         have HX5 := Lib.hid (heap_fr HX.out F5 (by omega))
         have HF5 := Lib.hid (HF.out.trans F5 (fun b hb e => by have := HF.out.size; omega))
         obtain ⟨d1, d2'⟩ := cells2 HX5.out
         have X5 := Lib.hid x5
         obtain ⟨e1, e2⟩ := cells2 x5
         clear x5 g5 F5 hp3 hx3)
        | fail)
        go_ret
        exact ⟨rfl, HK5.out, HF5.out⟩
      · rw [if_neg hmx] at hsp
        have hpl : ∀ w, Calls Try.prog 94 #[.agg #[.int .i64 b, .int .i64 s], .int .u32 ((l1 : Int) + 1)] w fun e w' => e = .returned (.int .i64 (place b s (l1 + 1))) ∧ Below w.heap.size w w' := fun w => c_place b s (l1 + 1) w Hon.out.1 (by omega)
        have hpr := place_on Hon.out (l1 + 1)
        have hrec : ∀ w, Calls Try.prog 95 #[.int .u32 ((l1 : Int) + 1), .int .u64 (x : Int)] w fun e w' => e = .returned (.agg (bytesV (Seal.rec (l1 + 1) x)).toArray) ∧ Below w.heap.size w w' := fun w => Seal.c_Record (l1 + 1) x w (by omega) hx
        have hrl := rec_len (l1 + 1) x
        have hwr := fun w (h : Dk w p g mb c d) => c_dWrite h (by omega) (place b s (l1 + 1)) (by omega) (Seal.rec (l1 + 1) x) hrl
        have hwo := write_ops d (place b s (l1 + 1)) (Seal.rec (l1 + 1) x)
        have hwe := write_err d (place b s (l1 + 1)) (Seal.rec (l1 + 1) x)
        generalize place b s (l1 + 1) = at1 at *
        generalize Seal.rec (l1 + 1) x = sc at *
        obtain ⟨⟨dw, ew⟩, hw⟩ : ∃ r, d.write at1 sc = r := ⟨_, rfl⟩
        rw [hw] at hsp hwo hwe
        simp only [hw, secV] at hsp hwo hwe hwr
        have Hw := Lib.hid hw
        clear hw hrl
        have hflush := fun w (h : Dk w p g mb c dw) => c_Flush h (by omega)
        by_cases hew : ew = 0
        · rw [if_pos hew] at hsp
          subst hew
          have Hsp := Lib.hid hsp
          clear hsp
          go_wp2_with (first
        | (go_at_call 90
           (with_reducible refine (c_Made HK.out).mono ?_)
           rintro e w' ⟨rfl, rfl⟩)
        | (go_at_call 91
           (with_reducible refine (c_on _ _ _ _ _ HV.out).mono ?_)
           rintro e w2 ⟨rfl, hb2⟩
           rw [hd.out]
           have HF := Lib.hid (HF.out.trans (Fr.of_bel (S := fun _ => False) hb2) (fun _ _ e => e.elim))
           have HK := Lib.hid (HK.out.bel hb2)
           have HX := Lib.hid ((hb2.block _ (heap_lt HX.out)).trans HX.out)
           clear d1 d2'
           obtain ⟨d1, d2'⟩ := cells2 HX.out
           clear hb2)
        | (go_at_call 92
           (with_reducible refine (c_Broken HK.out).mono ?_)
           rintro e w' ⟨rfl, rfl⟩
           rw [hbr.out])
        | (go_at_call 93
           (with_reducible refine (hL _ HK.out).mono ?_)
           rintro e w3 ⟨rfl, hb3⟩
           rw [Hl.out]
           have HF := Lib.hid (HF.out.trans (Fr.of_bel (S := fun _ => False) hb3) (fun _ _ e => e.elim))
           have HK := Lib.hid (HK.out.bel hb3)
           have HX := Lib.hid ((hb3.block _ (heap_lt HX.out)).trans HX.out)
           have HX7 := Lib.hid (heap_alloc_new w3 (.cells #[.int .u32 0, .int .u64 0] 185))
           clear d1 d2' hb3 hL)
        | (refine wpL_store_all rfl rfl 185 (.tmp 10) (.tmp 30) rfl _ rfl _ rfl _ _ HX7.out (by kernel_rfl) rfl (by simp [Value.oneCell']) ?_
           intro w5 x5 g5
           have F5 := ((Fr.alloc (S := fun k => k = w3.heap.size) (w := w3) (.cells #[.int .u32 0, .int .u64 0] 185)).trans (Fr.grown (S := fun k => k = w3.heap.size) g5 (by simp)) (fun b hb e => e))
           have hp3 := HK.out.lts
           have hx3 := heap_lt HX.out
           have HK5 := Lib.hid (HK.out.fr F5 (by omega) (by omega) (by omega))
           have HX5 := Lib.hid (heap_fr HX.out F5 (by omega))
           have HF5 := Lib.hid (HF.out.trans F5 (fun b hb e => by have := HF.out.size; omega))
           obtain ⟨d1, d2'⟩ := cells2 HX5.out
           have X5 := Lib.hid x5
           obtain ⟨e1, e2⟩ := cells2 x5
           clear x5 g5 F5 hp3 hx3)
        | (go_at_call 94
           (with_reducible refine (hpl _).mono ?_)
           rintro e w6 ⟨rfl, hb6⟩
           have HF6 := Lib.hid (HF5.out.trans (Fr.of_bel (S := fun _ => False) hb6) (fun _ _ e => e.elim))
           have HK6 := Lib.hid (HK5.out.bel hb6)
           clear hb6 d1 d2' e1 e2 hpl)
        | (go_at_call 95
           (with_reducible refine (hrec _).mono ?_)
           rintro e w7 ⟨rfl, hb7⟩
           have HF7 := Lib.hid (HF6.out.trans (Fr.of_bel (S := fun _ => False) hb7) (fun _ _ e => e.elim))
           have HK7 := Lib.hid (HK6.out.bel hb7)
           clear hb7 hrec)
        | (go_at_call 24
           (with_reducible refine (hwr _ HK7.out).mono ?_)
           rintro e w8 ⟨rfl, hk8, f8⟩
           have HF8 := Lib.hid (HF7.out.trans f8 (fun _ _ e => by rcases e with e | e; exact .inl e; exact .inr (.inr e)))
           have HK8 := Lib.hid hk8
           clear hk8 f8 hwr)
          | (go_at_call 55
             (with_reducible refine (hflush _ HK8.out).mono ?_)
             rintro e w9 ⟨rfl, hk9, f9⟩
             rw [Hsp.out] at hk9 ⊢
             have HF9 := Lib.hid (HF8.out.trans f9 (fun _ _ e => e))
             have HK9 := Lib.hid hk9
             clear hk9 f9 hflush))
          go_ret
          exact ⟨rfl, HK9.out, HF9.out⟩
        · rw [if_neg hew] at hsp
          obtain ⟨rfl, rfl⟩ := Prod.mk.inj hsp
          have hne : ((ew : Int) != 0) = true := by simp; omega
          clear hsp hew
          go_wp2_with (first
        | (go_at_call 90
           (with_reducible refine (c_Made HK.out).mono ?_)
           rintro e w' ⟨rfl, rfl⟩)
        | (go_at_call 91
           (with_reducible refine (c_on _ _ _ _ _ HV.out).mono ?_)
           rintro e w2 ⟨rfl, hb2⟩
           rw [hd.out]
           have HF := Lib.hid (HF.out.trans (Fr.of_bel (S := fun _ => False) hb2) (fun _ _ e => e.elim))
           have HK := Lib.hid (HK.out.bel hb2)
           have HX := Lib.hid ((hb2.block _ (heap_lt HX.out)).trans HX.out)
           clear d1 d2'
           obtain ⟨d1, d2'⟩ := cells2 HX.out
           clear hb2)
        | (go_at_call 92
           (with_reducible refine (c_Broken HK.out).mono ?_)
           rintro e w' ⟨rfl, rfl⟩
           rw [hbr.out])
        | (go_at_call 93
           (with_reducible refine (hL _ HK.out).mono ?_)
           rintro e w3 ⟨rfl, hb3⟩
           rw [Hl.out]
           have HF := Lib.hid (HF.out.trans (Fr.of_bel (S := fun _ => False) hb3) (fun _ _ e => e.elim))
           have HK := Lib.hid (HK.out.bel hb3)
           have HX := Lib.hid ((hb3.block _ (heap_lt HX.out)).trans HX.out)
           have HX7 := Lib.hid (heap_alloc_new w3 (.cells #[.int .u32 0, .int .u64 0] 185))
           clear d1 d2' hb3 hL)
        | (refine wpL_store_all rfl rfl 185 (.tmp 10) (.tmp 30) rfl _ rfl _ rfl _ _ HX7.out (by kernel_rfl) rfl (by simp [Value.oneCell']) ?_
           intro w5 x5 g5
           have F5 := ((Fr.alloc (S := fun k => k = w3.heap.size) (w := w3) (.cells #[.int .u32 0, .int .u64 0] 185)).trans (Fr.grown (S := fun k => k = w3.heap.size) g5 (by simp)) (fun b hb e => e))
           have hp3 := HK.out.lts
           have hx3 := heap_lt HX.out
           have HK5 := Lib.hid (HK.out.fr F5 (by omega) (by omega) (by omega))
           have HX5 := Lib.hid (heap_fr HX.out F5 (by omega))
           have HF5 := Lib.hid (HF.out.trans F5 (fun b hb e => by have := HF.out.size; omega))
           obtain ⟨d1, d2'⟩ := cells2 HX5.out
           have X5 := Lib.hid x5
           obtain ⟨e1, e2⟩ := cells2 x5
           clear x5 g5 F5 hp3 hx3)
        | (go_at_call 94
           (with_reducible refine (hpl _).mono ?_)
           rintro e w6 ⟨rfl, hb6⟩
           have HF6 := Lib.hid (HF5.out.trans (Fr.of_bel (S := fun _ => False) hb6) (fun _ _ e => e.elim))
           have HK6 := Lib.hid (HK5.out.bel hb6)
           clear hb6 d1 d2' e1 e2 hpl)
        | (go_at_call 95
           (with_reducible refine (hrec _).mono ?_)
           rintro e w7 ⟨rfl, hb7⟩
           have HF7 := Lib.hid (HF6.out.trans (Fr.of_bel (S := fun _ => False) hb7) (fun _ _ e => e.elim))
           have HK7 := Lib.hid (HK6.out.bel hb7)
           clear hb7 hrec)
        | (go_at_call 24
           (with_reducible refine (hwr _ HK7.out).mono ?_)
           rintro e w8 ⟨rfl, hk8, f8⟩
           have HF8 := Lib.hid (HF7.out.trans f8 (fun _ _ e => by rcases e with e | e; exact .inl e; exact .inr (.inr e)))
           have HK8 := Lib.hid hk8
           clear hk8 f8 hwr)
          | fail)
          go_ret
          exact ⟨rfl, HK8.out, HF8.out⟩
  · rw [if_neg hon] at hsp
    obtain ⟨rfl, rfl⟩ := Prod.mk.inj hsp
    have hd := Lib.hid (decide_eq_false hon)
    clear hsp hon
    go_wp2_with (first
  | (go_at_call 90
     (with_reducible refine (c_Made HK.out).mono ?_)
     rintro e w' ⟨rfl, rfl⟩)
  | (go_at_call 91
     (with_reducible refine (c_on _ _ _ _ _ HV.out).mono ?_)
     rintro e w2 ⟨rfl, hb2⟩
     rw [hd.out]
     have HF := Lib.hid (HF.out.trans (Fr.of_bel (S := fun _ => False) hb2) (fun _ _ e => e.elim))
     have HK := Lib.hid (HK.out.bel hb2)
     have HX := Lib.hid ((hb2.block _ (heap_lt HX.out)).trans HX.out)
     clear d1 d2'
     obtain ⟨d1, d2'⟩ := cells2 HX.out
     clear hb2)
    | fail)
    go_ret
    exact ⟨rfl, HK.out, HF.out⟩
end
end Go.Proofs.Ytpbcmghfhflkbaa.Slots
