/- The law DiskActs: the other acts at both disks. Conditions: at most 10^9 operations. -/
import Derived.Test.YtplemdgihlabgaaDiskDo
set_option linter.unusedVariables false
set_option linter.unusedSimpArgs false
namespace Go.Proofs.Ytplemdgihlabgaa.Disk
open Go.RowKit Tw
set_option maxHeartbeats 8000000
set_option maxRecDepth 100000
section
variable {w w' : World} {p g mb c q r c' : Nat} {D : Dsk}
theorem c_CrashP (h : Dk w p g mb c D) (m : Nat) (hm : m < 18446744073709551616) : Calls Try.prog 16 #[.pointer (some ⟨p, 0, none⟩), .int .u64 (m : Int)] w fun e w' => e = .returned (.tuple #[]) ∧ Dk w' p g mb c (D.crash m) ∧ Fr (fun k => k = p ∨ k = g ∨ k = mb) w w' := c_Crash h m hm
theorem c_doFlush (h : Pr w p g mb c q r c' D) (ho : D.ops < 1000000000) (y : Int) (s : Sec) (m : Nat) (hs : s.length = 16) :
    Calls Try.prog 29 #[.pointer (some ⟨p, 0, none⟩), .pointer (some ⟨q, 0, none⟩), .agg (dactV 1 y s m).toArray] w fun e w' => e = .returned (.bool true) ∧ Did w w' p g mb c q r c' D := by
  have HBa := Lib.hid ((Below.refl w.heap.size w).alloc (Nat.le_refl _) (.cells (dactV 1 y s m).toArray 26))
  have HX := Lib.hid (heap_alloc_new w (.cells (dactV 1 y s m).toArray 26))
  have H := Lib.hid (h.bel HBa.out)
  have HF := Lib.hid (Fr.of_bel (S := PS p g mb q r) HBa.out)
  have Hs := Lib.hid hs
  have hdl := h.dk.lts
  have hrl := h.rk.lts
  have hne := h.ne
  clear h hs
  obtain ⟨e0, e1, e18, es⟩ := dact_cells HX.out Hs.out
  clear es
  go_enter Try.func29, Try.ntmps29
  go_wp2_with (first
    | (go_at_call 18
       (with_reducible refine (c_Flush H.out.dk ho).mono ?_)
       rintro e w2 ⟨rfl, hk2, f2⟩
       have HK := Lib.hid hk2
       have HR := Lib.hid (rkfr hne H.out.rk f2)
       have HF := Lib.hid (HF.out.trans (fr_l (q := q) (r := r) f2) (fun _ _ e => e))
       have hx2 := heap_fr HX.out f2 (by omega)
       have HX := Lib.hid hx2
       clear e0 e1 e18 hk2 f2 hx2
       obtain ⟨e0, e1, e18, _⟩ := dact_cells HX.out Hs.out
       )
    | (go_at_call 76
       (with_reducible refine (r_Flush HR.out ho).mono ?_)
       rintro e w3 ⟨rfl, hk3, f3⟩
       have HRR := Lib.hid hk3
       have HKK := Lib.hid (dkfr hne HK.out f3)
       have HF := Lib.hid (HF.out.trans (fr_r (p := p) (g := g) (mb := mb) f3) (fun _ _ e => e))
       clear hk3 f3 e0 e1 e18
       ))
  go_ret
  have hf := flush_facts D
  exact ⟨by simp, _, ⟨HKK.out, HRR.out, hne⟩, hf.1, hf.2, HF.out⟩
theorem c_doFuse (h : Pr w p g mb c q r c' D) (y : Int) (s : Sec) (m : Nat) (hy : -9223372036854775808 ≤ y ∧ y ≤ 9223372036854775807) (hs : s.length = 16) :
    Calls Try.prog 29 #[.pointer (some ⟨p, 0, none⟩), .pointer (some ⟨q, 0, none⟩), .agg (dactV 3 y s m).toArray] w fun e w' => e = .returned (.bool true) ∧ Did w w' p g mb c q r c' D := by
  have HBa := Lib.hid ((Below.refl w.heap.size w).alloc (Nat.le_refl _) (.cells (dactV 3 y s m).toArray 26))
  have HX := Lib.hid (heap_alloc_new w (.cells (dactV 3 y s m).toArray 26))
  have H := Lib.hid (h.bel HBa.out)
  have HF := Lib.hid (Fr.of_bel (S := PS p g mb q r) HBa.out)
  have Hs := Lib.hid hs
  have hdl := h.dk.lts
  have hrl := h.rk.lts
  have hne := h.ne
  clear h hs
  obtain ⟨e0, e1, e18, es⟩ := dact_cells HX.out Hs.out
  clear es
  go_enter Try.func29, Try.ntmps29
  go_wp2_with (first
    | (go_at_call 15
       (with_reducible refine (c_FuseD H.out.dk y hy).mono ?_)
       rintro e w2 ⟨rfl, hk2, f2a⟩
       have f2 := f2a.mono (S1 := fun k => k = p ∨ k = g ∨ k = mb) (fun k _ e => .inl e)
       have HK := Lib.hid hk2
       have HR := Lib.hid (rkfr hne H.out.rk f2)
       have HF := Lib.hid (HF.out.trans (fr_l (q := q) (r := r) f2) (fun _ _ e => e))
       have hx2 := heap_fr HX.out f2 (by omega)
       have HX := Lib.hid hx2
       clear e0 e1 e18 hk2 f2 hx2
       obtain ⟨e0, e1, e18, _⟩ := dact_cells HX.out Hs.out
       )
    | (go_at_call 78
       (with_reducible refine (r_SetFuse HR.out y hy).mono ?_)
       rintro e w3 ⟨rfl, hk3, f3a⟩
       have f3 := f3a.mono (S1 := fun k => k = q ∨ k = r) (fun k _ e => .inl e)
       have HRR := Lib.hid hk3
       have HKK := Lib.hid (dkfr hne HK.out f3)
       have HF := Lib.hid (HF.out.trans (fr_r (p := p) (g := g) (mb := mb) f3) (fun _ _ e => e))
       clear hk3 f3 e0 e1 e18
       ))
  go_ret
  exact ⟨rfl, _, ⟨HKK.out, HRR.out, hne⟩, Nat.le_succ _, rfl, HF.out⟩
theorem c_doCrash (h : Pr w p g mb c q r c' D) (y : Int) (s : Sec) (m : Nat) (hs : s.length = 16) (hm : m < 18446744073709551616) :
    Calls Try.prog 29 #[.pointer (some ⟨p, 0, none⟩), .pointer (some ⟨q, 0, none⟩), .agg (dactV 4 y s m).toArray] w fun e w' => e = .returned (.bool true) ∧ Did w w' p g mb c q r c' D := by
  have HBa := Lib.hid ((Below.refl w.heap.size w).alloc (Nat.le_refl _) (.cells (dactV 4 y s m).toArray 26))
  have HX := Lib.hid (heap_alloc_new w (.cells (dactV 4 y s m).toArray 26))
  have H := Lib.hid (h.bel HBa.out)
  have HF := Lib.hid (Fr.of_bel (S := PS p g mb q r) HBa.out)
  have Hs := Lib.hid hs
  have hdl := h.dk.lts
  have hrl := h.rk.lts
  have hne := h.ne
  clear h hs
  obtain ⟨e0, e1, e18, es⟩ := dact_cells HX.out Hs.out
  clear es
  go_enter Try.func29, Try.ntmps29
  go_wp2_with (first
    | (go_at_call 16
       (with_reducible refine (c_Crash H.out.dk m hm).mono ?_)
       rintro e w2 ⟨rfl, hk2, f2⟩
       have HK := Lib.hid hk2
       have HR := Lib.hid (rkfr hne H.out.rk f2)
       have HF := Lib.hid (HF.out.trans (fr_l (q := q) (r := r) f2) (fun _ _ e => e))
       have hx2 := heap_fr HX.out f2 (by omega)
       have HX := Lib.hid hx2
       clear e0 e1 e18 hk2 f2 hx2
       obtain ⟨e0, e1, e18, _⟩ := dact_cells HX.out Hs.out
       )
    | (go_at_call 77
       (with_reducible refine (r_Crash HR.out m hm).mono ?_)
       rintro e w3 ⟨rfl, hk3, f3⟩
       have HRR := Lib.hid hk3
       have HKK := Lib.hid (dkfr hne HK.out f3)
       have HF := Lib.hid (HF.out.trans (fr_r (p := p) (g := g) (mb := mb) f3) (fun _ _ e => e))
       clear hk3 f3 e0 e1 e18
       ))
  go_ret
  exact ⟨rfl, _, ⟨HKK.out, HRR.out, hne⟩, Nat.le_succ _, by simp only [Dsk.crash, keep_len], HF.out⟩
theorem c_doNone (h : Pr w p g mb c q r c' D) (k y : Int) (s : Sec) (m : Nat) (hs : s.length = 16) (hk : k ≠ 0 ∧ k ≠ 1 ∧ k ≠ 2 ∧ k ≠ 3 ∧ k ≠ 4) :
    Calls Try.prog 29 #[.pointer (some ⟨p, 0, none⟩), .pointer (some ⟨q, 0, none⟩), .agg (dactV k y s m).toArray] w fun e w' => e = .returned (.bool true) ∧ Did w w' p g mb c q r c' D := by
  have HBa := Lib.hid ((Below.refl w.heap.size w).alloc (Nat.le_refl _) (.cells (dactV k y s m).toArray 26))
  have HX := Lib.hid (heap_alloc_new w (.cells (dactV k y s m).toArray 26))
  have H := Lib.hid (h.bel HBa.out)
  have HF := Lib.hid (Fr.of_bel (S := PS p g mb q r) HBa.out)
  have Hs := Lib.hid hs
  have hdl := h.dk.lts
  have hrl := h.rk.lts
  have hne := h.ne
  clear h hs
  obtain ⟨e0, e1, e18, es⟩ := dact_cells HX.out Hs.out
  clear es
  obtain ⟨h0, h1, h2, h3, h4⟩ := hk
  have q0 : (k == 0) = false := by simpa using h0
  have q1 : (k == 1) = false := by simpa using h1
  have q2 : (k == 2) = false := by simpa using h2
  have q3 : (k == 3) = false := by simpa using h3
  have q4 : (k == 4) = false := by simpa using h4
  go_enter Try.func29, Try.ntmps29
  go_wp2_with fail
  go_ret
  exact ⟨rfl, D, H.out, Nat.le_succ _, rfl, HF.out⟩
theorem c_doRead (h : Pr w p g mb c q r c' D) (y : Int) (s : Sec) (m : Nat) (hy : -9223372036854775808 ≤ y ∧ y ≤ 9223372036854775807) (hs : s.length = 16) :
    Calls Try.prog 29 #[.pointer (some ⟨p, 0, none⟩), .pointer (some ⟨q, 0, none⟩), .agg (dactV 2 y s m).toArray] w fun e w' => e = .returned (.bool true) ∧ Did w w' p g mb c q r c' D := by
  have HBa := Lib.hid ((Below.refl w.heap.size w).alloc (Nat.le_refl _) (.cells (dactV 2 y s m).toArray 26))
  have HX := Lib.hid (heap_alloc_new w (.cells (dactV 2 y s m).toArray 26))
  have H := Lib.hid (h.bel HBa.out)
  have HF := Lib.hid (Fr.of_bel (S := PS p g mb q r) HBa.out)
  have Hs := Lib.hid hs
  have hdl := h.dk.lts
  have hrl := h.rk.lts
  have hne := h.ne
  clear h hs
  obtain ⟨e0, e1, e18, es⟩ := dact_cells HX.out Hs.out
  clear es
  have hrl2 := read_len H.out.dk.ok y
  obtain ⟨t, ht⟩ : ∃ t, (D.read y).1 = t := ⟨_, rfl⟩
  rw [ht] at hrl2
  have Ht := Lib.hid ht
  have Hrl := Lib.hid hrl2
  have Hsz : Hid ((bytesV t).toArray.size = 16) := Lib.hid (by simp [bytesV, hrl2])
  have hq : ∀ W, (binOp .eql 23 (.agg (bytesV t).toArray) (.agg (bytesV t).toArray)).run Try.prog W = .ok (.bool true) W := fun W => by
    rw [run_eq_barr W t t hrl2 hrl2 Try.underlying23 Try.underlying5 (by kernel_rfl), decide_eq_true rfl]
  clear ht hrl2
  go_enter Try.func29, Try.ntmps29
  go_wp2_with (first
    | (go_at_call 14
       (with_reducible refine (c_dRead H.out.dk y hy).mono ?_)
       rintro e w2 ⟨rfl, hb2⟩
       rw [Ht.out]
       unfold secV
       have HBa := Lib.hid ((Below.refl w2.heap.size w2).alloc (Nat.le_refl _) (.cells Z16 23))
       have HZ := Lib.hid (heap_alloc_new w2 (.cells Z16 23))
       unfold Z16 at HBa HZ
       have H := Lib.hid (H.out.bel hb2)
       have HF := Lib.hid (HF.out.trans (Fr.of_bel (S := PS p g mb q r) hb2) (fun _ _ e => e))
       have HX := Lib.hid ((hb2.block _ (heap_lt HX.out)).trans HX.out)
       clear hb2 e0 e1 e18)
    | (refine wpL_store_all rfl rfl 23 (.tmp 7) (.tmp 42) rfl _ rfl _ rfl _ _ HZ.out (by rw [Hsz.out]; kernel_rfl) Hsz.out (fun v hv => bytesV_one v (by simpa using hv)) ?_
       intro w4 x4 g4
       have hb4 := HBa.out.grown g4 HBa.out.size (by rintro k ⟨⟩; exact Nat.le_refl _)
       have H := Lib.hid (H.out.bel hb4)
       have HF := Lib.hid (HF.out.trans (Fr.of_bel (S := PS p g mb q r) hb4) (fun _ _ e => e))
       have hx4 := (hb4.block _ (heap_lt HX.out)).trans HX.out
       have HX := Lib.hid hx4
       obtain ⟨e0, e1, e18, _⟩ := dact_cells hx4 Hs.out
       have Y7 := Lib.hid x4
       clear x4 g4 HBa HZ hb4 hx4)
    | (go_at_call 90
       (with_reducible refine (r_Read H.out.rk y).mono ?_)
       rintro e w5 ⟨rfl, hb5⟩
       rw [Ht.out]
       unfold secV
       have HBa := Lib.hid ((Below.refl w5.heap.size w5).alloc (Nat.le_refl _) (.cells Z16 23))
       have HZ := Lib.hid (heap_alloc_new w5 (.cells Z16 23))
       unfold Z16 at HBa HZ
       have H := Lib.hid (H.out.bel hb5)
       have HF := Lib.hid (HF.out.trans (Fr.of_bel (S := PS p g mb q r) hb5) (fun _ _ e => e))
       have Y7 := Lib.hid ((hb5.block _ (heap_lt Y7.out)).trans Y7.out)
       clear hb5 e0 e1 e18 HX)
    | (refine wpL_store_all rfl rfl 23 (.tmp 9) (.tmp 49) rfl _ rfl _ rfl _ _ HZ.out (by rw [Hsz.out]; kernel_rfl) Hsz.out (fun v hv => bytesV_one v (by simpa using hv)) ?_
       intro w6 x6 g6
       have hb6 := HBa.out.grown g6 HBa.out.size (by rintro k ⟨⟩; exact Nat.le_refl _)
       have H := Lib.hid (H.out.bel hb6)
       have HF := Lib.hid (HF.out.trans (Fr.of_bel (S := PS p g mb q r) hb6) (fun _ _ e => e))
       have S7 := Lib.hid ((rd_of_heap (n := 16) ((hb6.block _ (heap_lt Y7.out)).trans Y7.out) (by rw [bytesV_length, Hrl.out]) (by simp [maxLen])).cell _ rfl)
       have S9 := Lib.hid ((rd_of_heap (n := 16) x6 (by rw [bytesV_length, Hrl.out]) (by simp [maxLen])).cell _ rfl)
       clear x6 g6 HBa HZ hb6 Y7)
    | (refine wpL_load_rd rfl 23 (.tmp 7) rfl _ rfl (bytesV t) _ S7.out Try.underlying23 rfl (by rw [bytesV_length, Hrl.out]; kernel_rfl) ?_)
    | (refine wpL_load_rd rfl 23 (.tmp 9) rfl _ rfl (bytesV t) _ S9.out Try.underlying23 rfl (by rw [bytesV_length, Hrl.out]; kernel_rfl) ?_))
  go_ret
  exact ⟨by simp, D, H.out, Nat.le_succ _, rfl, HF.out⟩
theorem c_do (h : Pr w p g mb c q r c' D) (ho : D.ops < 1000000000) (k y : Int) (s : Sec) (m : Nat) (hy : -9223372036854775808 ≤ y ∧ y ≤ 9223372036854775807) (hs : s.length = 16) (hm : m < 18446744073709551616) :
    Calls Try.prog 29 #[.pointer (some ⟨p, 0, none⟩), .pointer (some ⟨q, 0, none⟩), .agg (dactV k y s m).toArray] w fun e w' => e = .returned (.bool true) ∧ Did w w' p g mb c q r c' D := by
  by_cases h0 : k = 0
  · subst h0; exact c_doWrite h ho y s m hy hs
  by_cases h1 : k = 1
  · subst h1; exact c_doFlush h ho y s m hs
  by_cases h2 : k = 2
  · subst h2; exact c_doRead h y s m hy hs
  by_cases h3 : k = 3
  · subst h3; exact c_doFuse h y s m hy hs
  by_cases h4 : k = 4
  · subst h4; exact c_doCrash h y s m hs hm
  exact c_doNone h k y s m hs ⟨h0, h1, h2, h3, h4⟩
end
end Go.Proofs.Ytplemdgihlabgaa.Disk
