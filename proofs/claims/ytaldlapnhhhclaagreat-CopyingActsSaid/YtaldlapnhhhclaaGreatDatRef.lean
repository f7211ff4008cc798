/- The reference's data area (twainref12, twainref04), and the data area's Extent, SetExtent, Image. Conditions: at most 10^9 operations. -/
import Derived.Test.YtaldlapnhhhclaaGreatB6
import Derived.Test.YtaldlapnhhhclaaGreatDataEx
import Derived.Test.YtaldlapnhhhclaaGreatB2
set_option linter.unusedVariables false
set_option linter.unusedSimpArgs false
namespace Go.Proofs.YtaldlapnhhhclaaGreat.Data
open Go.RowKit Tw Disk
set_option maxHeartbeats 4000000
set_option maxRecDepth 100000
theorem r_Whole (x : Int) (w : World) (hx : -9223372036854775808 ≤ x ∧ x ≤ 9223372036854775807) : Calls Tryz.prog 139 #[.int .i64 x] w fun e w' => e = .returned (spanV (whole x)) ∧ Below w.heap.size w w' := by
  by_cases h1 : x < 0
  · have hw : Hid (whole x = (0, 0)) := Lib.hid (by unfold whole; rw [if_neg (by omega)])
    go_enter Tryz.func139, Tryz.ntmps139
    go_wp2_with fail
    refine bodyPost_ret (results_cell_row rfl _ _ w.heap.size _ _ (0, 0) _ rfl (heap_alloc_new w _) Tryz.underlying144 rfl (by kernel_rfl)) rfl ?_
    rw [hw.out]
    exact ⟨rfl, (Below.refl _ _).alloc (Nat.le_refl _) _⟩
  · by_cases h2 : 63 < x
    · have hw : Hid (whole x = (0, 0)) := Lib.hid (by unfold whole; rw [if_neg (by omega)])
      have h3 : 64 ≤ x := by omega
      go_enter Tryz.func139, Tryz.ntmps139
      go_wp2_with fail
      refine bodyPost_ret (results_cell_row rfl _ _ w.heap.size _ _ (0, 0) _ rfl (heap_alloc_new w _) Tryz.underlying144 rfl (by kernel_rfl)) rfl ?_
      rw [hw.out]
      exact ⟨rfl, (Below.refl _ _).alloc (Nat.le_refl _) _⟩
    · have hw : Hid (whole x = (4 * x, 4)) := Lib.hid (by unfold whole; rw [if_pos (by omega)])
      have h3 : ¬ 64 ≤ x := by omega
      go_enter Tryz.func139, Tryz.ntmps139
      go_wp2_with fail
      refine bodyPost_ret (results_cell_row rfl _ _ w.heap.size _ _ (0, 0) _ rfl (heap_alloc_new w _) Tryz.underlying144 rfl (by kernel_rfl)) rfl ?_
      rw [hw.out]
      refine ⟨?_, (Below.refl _ _).alloc (Nat.le_refl _) _⟩
      first | rfl | (unfold spanV; rw [Int.mul_comm])
theorem r_Plain (x y : Int) (w : World) :
    Calls Tryz.prog 173 #[.agg #[.int .i64 x, .int .i64 y]] w fun e w' => e = .returned (.bool (decide (Span.Plain x y))) ∧ Below w.heap.size w w' := by
  have HB := Lib.hid ((Below.refl _ _).alloc (Nat.le_refl w.heap.size) (.cells #[.int .i64 x, .int .i64 y] 144))
  go_enter Tryz.func173, Tryz.ntmps173
  go_wp2_with fail
  all_goals
    go_ret
    refine ⟨Span.ret_bool rfl ?_, HB.out⟩
    rw [Bool.eq_iff_iff]
    simp only [decide_eq_true_eq, Bool.false_eq_true, Bool.true_eq_false, Bool.and_eq_true, true_iff, false_iff]
    simp only [Span.Plain]
    omega
theorem r_Good (x y s : Int) (w : World) :
    Calls Tryz.prog 149 #[.agg #[.int .i64 x, .int .i64 y], .int .i64 s] w fun e w' => e = .returned (.bool (decide (Span.Good x y s))) ∧ Below w.heap.size w w' := by
  have HB := Lib.hid ((Below.refl _ _).alloc (Nat.le_refl w.heap.size) (.cells #[.int .i64 x, .int .i64 y] 144))
  have HX := Lib.hid (heap_alloc_new w (.cells #[.int .i64 x, .int .i64 y] 144))
  by_cases hp : Span.Plain x y
  · have hd := Lib.hid (decide_eq_true hp)
    unfold Span.Plain at hp
    go_enter Tryz.func149, Tryz.ntmps149
    go_wp2_with (first
      | (go_at_call 173
         (with_reducible refine (r_Plain x y _).mono ?_)
         rintro e w1 ⟨rfl, hb1⟩
         rw [hd.out]
         have B1 := Lib.hid (HB.out.trans (hb1.mono HB.out.size))
         have d0 := (hb1.block _ (heap_lt HX.out)).trans HX.out
         have d1 : w1.cell? ⟨w.heap.size, 0, none⟩ = some (.int .i64 x) := by simp [World.cell?, d0]
         have d2 : w1.cell? ⟨w.heap.size, 1, none⟩ = some (.int .i64 y) := by simp [World.cell?, d0]
         clear d0 hb1 HX))
    all_goals
      go_ret
      refine ⟨Span.ret_bool rfl ?_, B1.out⟩
      rw [Bool.eq_iff_iff]
      simp only [decide_eq_true_eq, Bool.false_eq_true, Bool.true_eq_false, Bool.and_eq_true, true_iff, false_iff]
      simp only [Span.Good]
      omega
  · have hd := Lib.hid (decide_eq_false hp)
    unfold Span.Plain at hp
    go_enter Tryz.func149, Tryz.ntmps149
    go_wp2_with (first
      | (go_at_call 173
         (with_reducible refine (r_Plain x y _).mono ?_)
         rintro e w1 ⟨rfl, hb1⟩
         rw [hd.out]
         have B1 := Lib.hid (HB.out.trans (hb1.mono HB.out.size))
         clear hb1 HX))
    all_goals
      go_ret
      refine ⟨Span.ret_bool rfl ?_, B1.out⟩
      rw [Bool.eq_iff_iff]
      simp only [decide_eq_true_eq, Bool.false_eq_true, Bool.true_eq_false, Bool.and_eq_true, true_iff, false_iff]
      simp only [Span.Good]
      omega
section
variable {w : World} {q r c : Nat} {d : Dsk}
theorem r_Sectors (h : Rk w q r c d) : Calls Tryz.prog 94 #[.pointer (some ⟨q, 0, none⟩)] w fun e w' => e = .returned (.int .i64 (secs d)) ∧ w = w' := by
  have hn := h.ok.n
  obtain ⟨k0, k1, k2, k3⟩ := h.cells
  clear h
  go_enter Tryz.func94, Tryz.ntmps94
  go_wp2_with fail
  all_goals
    go_ret
    refine ⟨ret_int ?_, rfl⟩
    unfold secs
    omega
end
/-- all reads up to here work -/
def okTo (o : Nat) (d : Dsk) (k : Nat) : Prop := ∀ i : Nat, i < k → (d.read (8 + (o : Int) + (i : Int))).2 = 0
def readAt (o : Nat) (d : Dsk) (i : Nat) : Sec := (d.read (8 + (o : Int) + (i : Int))).1
theorem readAt_len {o : Nat} {d : Dsk} (hd : d.Ok) (i : Nat) : (readAt o d i).length = 16 := read_len hd _
theorem rseq_cat {o L : Nat} {d : Dsk} (hd : d.Ok) : ∀ k, k ≤ L → okTo o d k →
    rseq o d (List.replicate (L * 16) 0) (List.range k) = (cat (readAt o d) k ++ List.replicate ((L - k) * 16) 0, 0) := by
  intro k
  induction k with
  | zero => intro _ _; simp [cat, rseq]
  | succ k ih =>
    intro hk h
    have h1 := ih (by omega) fun i hi => h i (by omega)
    rw [List.range_succ, rseq_snoc k (by rw [h1]), h1, if_pos (h k (by omega))]
    refine Prod.ext ?_ rfl
    simp only
    have hcl : (cat (readAt o d) k).length = k * 16 := cat_len fun i _ => readAt_len hd i
    rw [layAt, cat_succ, List.take_left' hcl, List.append_assoc]
    congr 2
    rw [List.drop_append, hcl, List.drop_eq_nil_of_le (by omega), List.nil_append, List.drop_replicate]
    congr 1
    omega
theorem rseq_all {o L : Nat} {d : Dsk} (hd : d.Ok) (h : okTo o d L) : rseq o d (List.replicate (L * 16) 0) (List.range L) = (cat (readAt o d) L, 0) := by
  rw [rseq_cat hd L (Nat.le_refl _) h]
  simp
theorem rseq_bad {o L k : Nat} {d : Dsk} (hd : d.Ok) (hk : k < L) (h : okTo o d k) (he : (d.read (8 + (o : Int) + (k : Int))).2 ≠ 0) : rseq o d (List.replicate (L * 16) 0) (List.range L) = ([], (d.read (8 + (o : Int) + (k : Int))).2) := by
  have h1 := rseq_cat (L := L) hd k (by omega) h
  have h2 : rseq o d (List.replicate (L * 16) 0) (List.range (k + 1)) = ([], (d.read (8 + (o : Int) + (k : Int))).2) := by
    rw [List.range_succ, rseq_snoc k (by rw [h1]), if_neg he]
  obtain ⟨m, rfl⟩ : ∃ m, L = k + 1 + m := ⟨L - (k + 1), by omega⟩
  rw [List.range_add, rseq_fail (by rw [h2]; exact he), h2]
theorem okTo_succ {o : Nat} {d : Dsk} {i : Nat} (h : okTo o d i) (he : (d.read (8 + (o : Int) + (i : Int))).2 = 0) : okTo o d (i + 1) := fun k hk => by
  by_cases e : k = i
  · subst e; exact he
  · exact h k (by omega)
section
variable {w : World} {q r c : Nat} {d : Dsk}
theorem r_dRead (h : Rk w q r c d) (x y : Int) :
    Calls Tryz.prog 93 #[.pointer (some ⟨q, 0, none⟩), .agg #[.int .i64 x, .int .i64 y]] w fun e w' => ∃ A2 c2, e = .returned (.tuple #[.slice A2 (dRead d x y).1.length c2, .int .i64 ((dRead d x y).2 : Int)]) ∧ Tw.Own w' w.heap.size 5 1 A2 (dRead d x y).1.length c2 (bytesV (dRead d x y).1) ∧ Below w.heap.size w w' := by
  have HB := Lib.hid ((Below.refl _ _).alloc (Nat.le_refl w.heap.size) (.cells #[.int .i64 x, .int .i64 y] 144))
  have HX := Lib.hid (heap_alloc_new w (.cells #[.int .i64 x, .int .i64 y] 144))
  have H := Lib.hid (h.bel HB.out)
  have Hok := Lib.hid h.ok
  clear h
  obtain ⟨b, hb⟩ : ∃ b, decide (Span.Good x y (secs d)) = b := ⟨_, rfl⟩
  have Hb := Lib.hid hb
  clear hb
  go_enter Tryz.func93, Tryz.ntmps93
  go_upto_region 1 with (fail)
  generalize (w.alloc (.cells #[.int .i64 x, .int .i64 y] 144)) = W1 at *
  refine wp_region_phi (by kernel_rfl) 5 none (fun _ => false) (fun i_ v wz => match i_ with
    | 0 => v = .agg #[.int .i64 x, .int .i64 y]
    | 1 => v = .pointer (some ⟨q, 0, none⟩)
    | 2 => v = .int .i64 (secs d)
    | 3 => v = .bool b
    | 4 => v = .bool (!b)
    | _ => True) (by kernel_rfl) ?_ ?_ ?_
  · (repeat' (first | exact allLt_zero | refine allLt_succ ?_ ?_))
    · exact fun _ _ _ h _ => h
    · exact fun _ _ _ h _ => h
    · exact fun _ _ _ h _ => h
    · exact fun _ _ _ h _ => h
    · exact fun _ _ _ h _ => h
  · (repeat' (first | exact allLt_zero | refine allLt_succ ?_ ?_))
    · intro a w' hf he
      have k3 : a.tmps.getD 3 undef = .pointer (some ⟨w.heap.size, 0, none⟩) := hf.var (by kernel_rfl) rfl
      rw [show kindRow _ _ = none from by kernel_rfl] at hf
      refine wpOp_step rfl (fun K hK => ?_)
      refine wp_load_rd 144 (.tmp 3) rfl ⟨w.heap.size, 0, none⟩ k3 [.int .i64 x, .int .i64 y] _ ((rd_of_heap (n := 2) ((hf.bel.block _ (heap_lt HX.out)).trans HX.out) rfl (by simp [maxLen])).cell _ rfl) Tryz.underlying144 rfl (by kernel_rfl) ?_
      exact hK _ _ ⟨_, rfl, rfl, World.grownBy.refl _ _⟩
    · intro a w' hf he
      have k0 : a.tmps.getD 0 undef = .pointer (some ⟨q, 0, none⟩) := hf.var (by kernel_rfl) rfl
      refine wpOp_step rfl (fun K hK => ?_)
      go_simp
      exact hK _ _ ⟨_, rfl, rfl, World.grownBy.refl _ _⟩
    · intro a w' hf he
      have f1 : a.tmps.getD 11 undef = .pointer (some ⟨q, 0, none⟩) := he 1 (by kernel_rfl)
      rw [show kindRow _ _ = none from by kernel_rfl] at hf
      refine wpOp_step rfl (fun K hK => ?_)
      go_simp
      refine (r_Sectors (H.out.bel hf.bel)).mono ?_
      rintro e w2 ⟨rfl, rfl⟩
      exact hK _ _ ⟨_, rfl, rfl, World.grownBy.refl _ _⟩
    · intro a w' hf he
      have f0 : a.tmps.getD 10 undef = .agg #[.int .i64 x, .int .i64 y] := he 0 (by kernel_rfl)
      have f2 : a.tmps.getD 12 undef = .int .i64 (secs d) := he 2 (by kernel_rfl)
      rw [show kindRow _ _ = none from by kernel_rfl] at hf
      refine wpOp_step rfl (fun K hK => ?_)
      go_simp
      refine (r_Good x y (secs d) _).mono ?_
      rintro e w2 ⟨rfl, hb2⟩
      rw [Hb.out]
      exact hK _ _ ⟨_, rfl, rfl, grown_bel hb2⟩
    · intro a w' hf he
      have f3 : a.tmps.getD 13 undef = .bool b := he 3 (by kernel_rfl)
      refine wpOp_step rfl (fun K hK => ?_)
      go_simp
      exact hK _ _ ⟨_, rfl, rfl, World.grownBy.refl _ _⟩
  · intro a w' hf he
    obtain ⟨u10, f0⟩ : ∃ u, a.tmps.getD 10 undef = u := ⟨_, rfl⟩
    obtain ⟨u11, f1⟩ : ∃ u, a.tmps.getD 11 undef = u := ⟨_, rfl⟩
    obtain ⟨u12, f2⟩ : ∃ u, a.tmps.getD 12 undef = u := ⟨_, rfl⟩
    obtain ⟨u13, f3⟩ : ∃ u, a.tmps.getD 13 undef = u := ⟨_, rfl⟩
    have f4 : a.tmps.getD 14 undef = .bool (!b) := he 4 (by decide)
    have hlit := hf.lit ((10, u10) :: (11, u11) :: (12, u12) :: (13, u13) :: (14, .bool (!b)) :: []) (by kernel_rfl) ⟨f0, f1, f2, f3, f4, trivial⟩
    have hB := hf.bel
    clear he hf f0 f1 f2 f3 f4 
    subst hlit
    simp only [putAll_nil, putAll_cons, Act.put, List.setIfInBounds_toArray, List.set_cons_zero, List.set_cons_succ]
    simp only [List.drop_succ_cons, List.drop_zero]
    have HX1 := Lib.hid ((hB.block _ (heap_lt HX.out)).trans HX.out)
    have H1 := Lib.hid (H.out.bel hB)
    have HB1 := Lib.hid (HB.out.trans (hB.mono HB.out.size))
    clear hB HB HX H
    cases b with
    | false =>
      have hw : Hid (dRead d x y = ([], 13)) := Lib.hid (by unfold dRead; rw [if_neg (of_decide_eq_false Hb.out)])
      clear Hb
      go_wp2_with fail
      go_ret2
      rw [hw.out]
      exact ⟨none, 0, rfl, World.ownsRow_nil _ _ _ _, HB1.out⟩
    | true =>
      have hg := of_decide_eq_true Hb.out
      clear Hb
      obtain ⟨o, rfl⟩ : ∃ o : Nat, x = (o : Int) := ⟨x.toNat, by unfold Span.Good at hg; omega⟩
      obtain ⟨L, rfl⟩ : ∃ L : Nat, y = (L : Int) := ⟨y.toNat, by unfold Span.Good at hg; omega⟩
      have hw : Hid (dRead d (o : Int) (L : Int) = rseq o d (List.replicate (L * 16) 0) (List.range L)) := Lib.hid (by unfold dRead; rw [if_pos hg]; rfl)
      have hn := Hok.out.n
      have hoL : o + L ≤ 1024 := by unfold Span.Good secs at hg; omega
      clear hg hn
      simp only [Bool.not_true]
      go_wp2_with fail
      go_loopw [6, 7] (fun v6 v wr => ∃ (i : Nat) (A : Option Addr) (c2 : Nat), i ≤ L ∧ v = .int .i64 (i : Int) ∧ v6 = .slice A (i * 16) c2 ∧ Hid (okTo o d i) ∧ Hid (Tw.Own wr w'.heap.size 5 1 A (i * 16) c2 (bytesV (cat (readAt o d) i))) ∧ Hid (Below w'.heap.size w' wr)) (fun _ v _ => L - (intOf v).toNat)
      case atStart => exact ⟨0, none, 0, Nat.zero_le _, rfl, rfl, Lib.hid (fun i hi => absurd hi (by omega)), Lib.hid (World.ownsRow_nil _ _ _ _), Lib.hid (Below.refl _ _)⟩
      case round =>
        have HB0 := HB1
        clear HB1
        obtain ⟨i, A, c2, hi, rfl, rfl, HK, HO, HB1⟩ := hrel
        have hx := (HB1.out.block _ (heap_lt HX1.out)).trans HX1.out
        have k0 : wr.cell? ⟨w.heap.size, 0, none⟩ = some (.int .i64 (o : Int)) := by simp [World.cell?, hx]
        have k1 : wr.cell? ⟨w.heap.size, 1, none⟩ = some (.int .i64 (L : Int)) := by simp [World.cell?, hx]
        have H := Lib.hid (H1.out.bel HB1.out)
        clear hx
        by_cases hin : i < L
        · have Hca := Lib.hid (cat_succ (readAt o d) i)
          have Hrl := Lib.hid (readAt_len (o := o) Hok.out i)
          have Hra : Hid ((d.read (8 + (o : Int) + (i : Int))).1 = readAt o d i) := Lib.hid rfl
          obtain ⟨E, hE⟩ : ∃ E, (d.read (8 + (o : Int) + (i : Int))).2 = E := ⟨_, rfl⟩
          have HE := Lib.hid hE
          clear hE
          generalize readAt o d i = s at *
          generalize cat (readAt o d) i = t at *
          have Hsz : Hid ((bytesV s).toArray.size = 16) := Lib.hid (by rw [List.size_toArray, bytesV_length, Hrl.out])
          by_cases hE0 : E = 0
          · subst hE0
            go_wp2_with (first
            | (go_at_call 123
               (with_reducible refine (r_Read H.out _).mono ?_)
               rintro e w5 ⟨rfl, hb5⟩
               rw [HE.out, Hra.out]
               unfold secV
               have HBa := Lib.hid ((Below.refl w5.heap.size w5).alloc (Nat.le_refl _) (.cells Z16 127))
               have HZ := Lib.hid (heap_alloc_new w5 (.cells Z16 127))
               unfold Z16 at HBa HZ
               have HO := Lib.hid (Tw.Own.bel HO.out hb5)
               have HB1 := Lib.hid (HB1.out.trans (hb5.mono HB1.out.size))
               clear hb5 k0 k1)
            | (refine wpL_store_all rfl rfl 127 (.tmp 8) (.tmp 29) rfl _ rfl _ rfl _ _ HZ.out (by rw [Hsz.out]; kernel_rfl) Hsz.out (fun v hv => bytesV_one v (by simpa using hv)) ?_
               intro w6 x6 g6
               have hb6 := HBa.out.grown g6 HBa.out.size (by rintro k ⟨⟩; exact Nat.le_refl _)
               have HO := Lib.hid (Tw.Own.bel HO.out hb6)
               have HB1 := Lib.hid (HB1.out.trans (hb6.mono HB1.out.size))
               have HZ := Lib.hid x6
               clear x6 g6 HBa hb6)
            | (at_builtin
               refine wpL_append _ rfl (.tmp 34) (.tmp 35) _ rfl w' w'.heap.size HB1.out HB1.out.size 5 _ 1 1 Tryz.underlying23 Num.info_u8 rfl (by omega) _ _ _ (bytesV t) rfl HO.out _ 16 16 (bytesV s) rfl (rd_of_heap (n := 16) HZ.out (by rw [bytesV_length, Hrl.out]) (by simp [maxLen])) bytesV_one ((i + 1) * 16) (bytesV (t ++ s)) (by omega) (by simp [bytesV]) (by unfold maxLen; omega) (by omega) ?_
               intro A9 c9 w9 hown9 hb9 hg9 ho9
               have HO := Lib.hid hown9
               have HB1 := Lib.hid hb9
               clear hown9 hb9 hg9 ho9))
            go_roundw
            case rel => exact ⟨i + 1, A9, c9, by omega, by go_num, rfl, Lib.hid (okTo_succ HK.out HE.out), by rw [Hca.out]; exact HO, HB1⟩
            case measure => simp [intOf] <;> omega
          · have hne : ((E : Int) != 0) = true := by simp; omega
            have hbad := rseq_bad Hok.out hin HK.out (by rw [HE.out]; exact hE0)
            rw [HE.out] at hbad
            have Hbad := Lib.hid hbad
            clear hbad
            go_wp2_with (first
            | (go_at_call 123
               (with_reducible refine (r_Read H.out _).mono ?_)
               rintro e w5 ⟨rfl, hb5⟩
               rw [HE.out, Hra.out]
               unfold secV
               have HBa := Lib.hid ((Below.refl w5.heap.size w5).alloc (Nat.le_refl _) (.cells Z16 127))
               have HZ := Lib.hid (heap_alloc_new w5 (.cells Z16 127))
               unfold Z16 at HBa HZ
               have HO := Lib.hid (Tw.Own.bel HO.out hb5)
               have HB1 := Lib.hid (HB1.out.trans (hb5.mono HB1.out.size))
               clear hb5 k0 k1)
            | (refine wpL_store_all rfl rfl 127 (.tmp 8) (.tmp 29) rfl _ rfl _ rfl _ _ HZ.out (by rw [Hsz.out]; kernel_rfl) Hsz.out (fun v hv => bytesV_one v (by simpa using hv)) ?_
               intro w6 x6 g6
               have hb6 := HBa.out.grown g6 HBa.out.size (by rintro k ⟨⟩; exact Nat.le_refl _)
               have HO := Lib.hid (Tw.Own.bel HO.out hb6)
               have HB1 := Lib.hid (HB1.out.trans (hb6.mono HB1.out.size))
               have HZ := Lib.hid x6
               clear x6 g6 HBa hb6)
            )
            go_ret2
            rw [hw.out, Hbad.out]
            exact ⟨none, 0, rfl, World.ownsRow_nil _ _ _ _, HB0.out.trans (HB1.out.mono HB0.out.size)⟩
        · obtain rfl : i = L := by omega
          have hall := rseq_all Hok.out HK.out
          have hln := cat_len (f := readAt o d) (m := i) fun j _ => readAt_len Hok.out j
          have Hall := Lib.hid hall
          have Hln := Lib.hid hln
          clear hall hln
          go_wp2_with fail
          go_ret2
          rw [hw.out, Hall.out]
          simp only
          rw [Hln.out]
          exact ⟨A, c2, rfl, Tw.Own.mono HO.out HB0.out.size, HB0.out.trans (HB1.out.mono HB0.out.size)⟩
end
def fillTo (s : List UInt8) (k : Nat) : List UInt8 := s.take k ++ List.replicate (16 - k) 0
theorem fill_len {s : List UInt8} {k : Nat} (hs : s.length = 16) (hk : k ≤ 16) : (fillTo s k).length = 16 := by
  unfold fillTo
  rw [List.length_append, List.length_take, List.length_replicate]
  omega
theorem fill_all {s : List UInt8} (hs : s.length = 16) : fillTo s 16 = s := by
  unfold fillTo
  rw [← hs, List.take_length]
  simp
theorem fill_set {s : List UInt8} {k : Nat} {x : UInt8} (hs : s.length = 16) (hk : k < 16) (hx : s[k]? = some x) : (bytesV (fillTo s k)).toArray.setIfInBounds k (.int .u8 (x.toNat : Int)) = (bytesV (fillTo s (k + 1))).toArray := by
  have h1 : (fillTo s k).set k x = fillTo s (k + 1) := by
    unfold fillTo
    have hl : (s.take k).length = k := by rw [List.length_take]; omega
    have hx2 := (List.getElem?_eq_some_iff.1 hx).2
    rw [List.set_append, if_neg (by omega), hl, Nat.sub_self, show 16 - k = (16 - (k + 1)) + 1 by omega, List.replicate_succ, List.set_cons_zero, List.take_succ_eq_append_getElem (by omega), hx2, List.append_assoc]
    rfl
  rw [← h1]
  simp [bytesV, List.map_set]
theorem secAt_get {b : List UInt8} {i k : Nat} (hk : k < 16) : (secAt b i)[k]? = b[16 * i + k]? := by
  unfold secAt
  rw [List.getElem?_take, if_pos hk, List.getElem?_drop, Nat.mul_comm]
theorem wseq_bad {o L k : Nat} {b : List UInt8} {d D : Dsk} (hk : k < L) (h : wseq o b d (List.range k) = (D, 0)) (he : (D.write (8 + (o : Int) + (k : Int)) (secAt b k)).2 ≠ 0) : wseq o b d (List.range L) = D.write (8 + (o : Int) + (k : Int)) (secAt b k) := by
  have h2 : wseq o b d (List.range (k + 1)) = D.write (8 + (o : Int) + (k : Int)) (secAt b k) := by
    rw [List.range_succ, wseq_snoc k (by rw [h]), h]
  obtain ⟨m, rfl⟩ : ∃ m, L = k + 1 + m := ⟨L - (k + 1), by omega⟩
  rw [List.range_add, wseq_fail (by rw [h2]; exact he), h2]
theorem wseq_good {o k : Nat} {b : List UInt8} {d D D' : Dsk} (h : wseq o b d (List.range k) = (D, 0)) (he : D.write (8 + (o : Int) + (k : Int)) (secAt b k) = (D', 0)) : wseq o b d (List.range (k + 1)) = (D', 0) := by
  rw [List.range_succ, wseq_snoc k (by rw [h]), h, he]
theorem wseq_ops' {o k : Nat} {b : List UInt8} {d D : Dsk} {e : Nat} (h : wseq o b d (List.range k) = (D, e)) : D.ops ≤ d.ops + k := by
  have := wseq_ops (o := o) (b := b) (List.range k) d
  rw [h, List.length_range] at this
  exact this
section
variable {w : World} {q r c : Nat} {d : Dsk}
theorem r_dWrite (h : Rk w q r c d) (ho : d.ops + 1024 < 1000000000) (x y : Int) (A : Option Addr) (n cb : Nat) (b : List UInt8) (hb : Byt w A n cb b) (hA : ∀ ad, A = some ad → 0 < n → ad.block ≠ q ∧ ad.block ≠ r) :
    Calls Tryz.prog 147 #[.pointer (some ⟨q, 0, none⟩), .agg #[.int .i64 x, .int .i64 y], .slice A n cb] w fun e w' => e = .returned (.int .i64 ((dWrite d x y b).2 : Int)) ∧ Rk w' q r c (dWrite d x y b).1 ∧ Fr (fun k => k = q ∨ k = r) w w' := by
  have HB := Lib.hid ((Below.refl _ _).alloc (Nat.le_refl w.heap.size) (.cells #[.int .i64 x, .int .i64 y] 144))
  have HX := Lib.hid (heap_alloc_new w (.cells #[.int .i64 x, .int .i64 y] 144))
  have H := Lib.hid (h.bel HB.out)
  have Hok := Lib.hid h.ok
  have hlt := h.lts
  have hbl := hb.blen
  have hble := hb.le
  have Hy := Lib.hid hb
  have Ho := Lib.hid ho
  have HAA := Lib.hid hA
  clear h hb ho hA
  obtain ⟨g, hg0⟩ : ∃ g, decide (Span.Good x y (secs d)) = g := ⟨_, rfl⟩
  have Hb := Lib.hid hg0
  clear hg0
  go_enter Tryz.func147, Tryz.ntmps147
  go_upto_region 1 with (fail)
  generalize (w.alloc (.cells #[.int .i64 x, .int .i64 y] 144)) = W1 at *
  refine wp_region_phi (by kernel_rfl) 5 none (fun _ => false) (fun i_ v wz => match i_ with
    | 0 => v = .agg #[.int .i64 x, .int .i64 y]
    | 1 => v = .pointer (some ⟨q, 0, none⟩)
    | 2 => v = .int .i64 (secs d)
    | 3 => v = .bool g
    | 4 => v = .bool (!g)
    | _ => True) (by kernel_rfl) ?_ ?_ ?_
  · (repeat' (first | exact allLt_zero | refine allLt_succ ?_ ?_))
    · exact fun _ _ _ h _ => h
    · exact fun _ _ _ h _ => h
    · exact fun _ _ _ h _ => h
    · exact fun _ _ _ h _ => h
    · exact fun _ _ _ h _ => h
  · (repeat' (first | exact allLt_zero | refine allLt_succ ?_ ?_))
    · intro a w' hf he
      have k4 : a.tmps.getD 4 undef = .pointer (some ⟨w.heap.size, 0, none⟩) := hf.var (by kernel_rfl) rfl
      rw [show kindRow _ _ = none from by kernel_rfl] at hf
      refine wpOp_step rfl (fun K hK => ?_)
      refine wp_load_rd 144 (.tmp 4) rfl ⟨w.heap.size, 0, none⟩ k4 [.int .i64 x, .int .i64 y] _ ((rd_of_heap (n := 2) ((hf.bel.block _ (heap_lt HX.out)).trans HX.out) rfl (by simp [maxLen])).cell _ rfl) Tryz.underlying144 rfl (by kernel_rfl) ?_
      exact hK _ _ ⟨_, rfl, rfl, World.grownBy.refl _ _⟩
    · intro a w' hf he
      have k0 : a.tmps.getD 0 undef = .pointer (some ⟨q, 0, none⟩) := hf.var (by kernel_rfl) rfl
      refine wpOp_step rfl (fun K hK => ?_)
      go_simp
      exact hK _ _ ⟨_, rfl, rfl, World.grownBy.refl _ _⟩
    · intro a w' hf he
      have f1 : a.tmps.getD 12 undef = .pointer (some ⟨q, 0, none⟩) := he 1 (by kernel_rfl)
      rw [show kindRow _ _ = none from by kernel_rfl] at hf
      refine wpOp_step rfl (fun K hK => ?_)
      go_simp
      refine (r_Sectors (H.out.bel hf.bel)).mono ?_
      rintro e w2 ⟨rfl, rfl⟩
      exact hK _ _ ⟨_, rfl, rfl, World.grownBy.refl _ _⟩
    · intro a w' hf he
      have f0 : a.tmps.getD 11 undef = .agg #[.int .i64 x, .int .i64 y] := he 0 (by kernel_rfl)
      have f2 : a.tmps.getD 13 undef = .int .i64 (secs d) := he 2 (by kernel_rfl)
      rw [show kindRow _ _ = none from by kernel_rfl] at hf
      refine wpOp_step rfl (fun K hK => ?_)
      go_simp
      refine (r_Good x y (secs d) _).mono ?_
      rintro e w2 ⟨rfl, hb2⟩
      rw [Hb.out]
      exact hK _ _ ⟨_, rfl, rfl, grown_bel hb2⟩
    · intro a w' hf he
      have f3 : a.tmps.getD 14 undef = .bool g := he 3 (by kernel_rfl)
      refine wpOp_step rfl (fun K hK => ?_)
      go_simp
      exact hK _ _ ⟨_, rfl, rfl, World.grownBy.refl _ _⟩
  · intro a w' hf he
    obtain ⟨u11, f0⟩ : ∃ u, a.tmps.getD 11 undef = u := ⟨_, rfl⟩
    obtain ⟨u12, f1⟩ : ∃ u, a.tmps.getD 12 undef = u := ⟨_, rfl⟩
    obtain ⟨u13, f2⟩ : ∃ u, a.tmps.getD 13 undef = u := ⟨_, rfl⟩
    obtain ⟨u14, f3⟩ : ∃ u, a.tmps.getD 14 undef = u := ⟨_, rfl⟩
    have f4 : a.tmps.getD 15 undef = .bool (!g) := he 4 (by decide)
    have hlit := hf.lit ((11, u11) :: (12, u12) :: (13, u13) :: (14, u14) :: (15, .bool (!g)) :: []) (by kernel_rfl) ⟨f0, f1, f2, f3, f4, trivial⟩
    have hB := hf.bel
    clear he hf f0 f1 f2 f3 f4 
    subst hlit
    simp only [putAll_nil, putAll_cons, Act.put, List.setIfInBounds_toArray, List.set_cons_zero, List.set_cons_succ]
    simp only [List.drop_succ_cons, List.drop_zero]
    have HX1 := Lib.hid ((hB.block _ (heap_lt HX.out)).trans HX.out)
    have H1 := Lib.hid (H.out.bel hB)
    have HB1 := Lib.hid (HB.out.trans (hB.mono HB.out.size))
    have HF1 := Lib.hid (Fr.of_bel (S := fun k => k = q ∨ k = r) HB1.out)
    clear hB HB HX H
    cases g with
    | false =>
      have hw : Hid (dWrite d x y b = (d, 13)) := Lib.hid (by unfold dWrite; rw [if_neg (of_decide_eq_false Hb.out)])
      clear Hb
      go_wp2_with fail
      go_ret
      rw [hw.out]
      exact ⟨rfl, H1.out, HF1.out⟩
    | true =>
      have hg := of_decide_eq_true Hb.out
      clear Hb
      obtain ⟨o, rfl⟩ : ∃ o : Nat, x = (o : Int) := ⟨x.toNat, by unfold Span.Good at hg; omega⟩
      obtain ⟨L, rfl⟩ : ∃ L : Nat, y = (L : Int) := ⟨y.toNat, by unfold Span.Good at hg; omega⟩
      have hn := Hok.out.n
      have hoL : o + L ≤ 1024 := by unfold Span.Good secs at hg; omega
      have hxl := heap_lt HX1.out
      have k1 : w'.cell? ⟨w.heap.size, 1, none⟩ = some (.int .i64 (L : Int)) := by have hx := HX1.out; simp [World.cell?, hx]
      simp only [Bool.not_true]
      by_cases hl : n = 16 * L
      · have hw : Hid (dWrite d (o : Int) (L : Int) b = wseq o b d (List.range L)) := Lib.hid (by unfold dWrite; rw [if_pos hg, if_pos (by omega)]; rfl)
        subst hl
        have Hbl := Lib.hid hbl
        clear hg hn hbl
        go_wp2_with fail
        go_loopw [7] (fun v wr => ∃ (i : Nat) (D : Dsk), i ≤ L ∧ v = .int .i64 (i : Int) ∧ Hid (wseq o b d (List.range i) = (D, 0)) ∧ Hid (Rk wr q r c D) ∧ Hid (Fr (fun k => k = q ∨ k = r) w' wr)) (fun v _ => L - (intOf v).toNat)
        case atStart => exact ⟨0, d, Nat.zero_le _, rfl, Lib.hid rfl, H1, Lib.hid (Fr.refl _ _)⟩
        case round =>
          clear k1
          obtain ⟨i, D, hi, rfl, HW, HR, HF⟩ := hrel
          have hx := heap_fr HX1.out HF.out (by omega)
          have k0 : wr.cell? ⟨w.heap.size, 0, none⟩ = some (.int .i64 (o : Int)) := by simp [World.cell?, hx]
          have k1 : wr.cell? ⟨w.heap.size, 1, none⟩ = some (.int .i64 (L : Int)) := by simp [World.cell?, hx]
          clear hx
          by_cases hin : i < L
          · have HY := Lib.hid ((Hy.out.bel HB1.out).fr HF.out (fun ad e => by have := HAA.out ad e (by omega); omega))
            have hsl := secAt_len (L := L) (b := b) (i := i) (by have := Hbl.out; omega) hin
            have Hsl := Lib.hid hsl
            have HG := Lib.hid (fun k (hk : k < 16) => secAt_get (b := b) (i := i) hk)
            have HE0 : Hid (∃ D' E, D.write (8 + (o : Int) + (i : Int)) (secAt b i) = (D', E)) := Lib.hid ⟨_, _, rfl⟩
            obtain ⟨D', E, hE⟩ := HE0.out
            have HE := Lib.hid hE
            have hbad : E ≠ 0 → wseq o b d (List.range L) = (D', E) := fun h0 => by rw [wseq_bad hin HW.out (by rw [HE.out]; exact h0), HE.out]
            have Hbad := Lib.hid hbad
            have hgood : E = 0 → wseq o b d (List.range (i + 1)) = (D', 0) := fun h0 => wseq_good HW.out (by rw [HE.out, h0])
            have Hgood := Lib.hid hgood
            have Hops : Hid (D.ops < 1000000000) := Lib.hid (by have := wseq_ops' HW.out; have := Ho.out; omega)
            have HZ := Lib.hid (heap_alloc_new wr (.cells Z16 127))
            have HZB := Lib.hid ((Below.refl wr.heap.size wr).alloc (Nat.le_refl _) (.cells Z16 127))
            unfold Z16 at HZ HZB
            clear hE HE0 hbad hgood hsl
            generalize secAt b i = s at *
            have hlw := HR.out.lts
            have hF2 := HF.out.size
            go_upto_block 2 with (fail)
            have hf0 : (bytesV (fillTo s 0)).toArray = #[.int .u8 0, .int .u8 0, .int .u8 0, .int .u8 0, .int .u8 0, .int .u8 0, .int .u8 0, .int .u8 0, .int .u8 0, .int .u8 0, .int .u8 0, .int .u8 0, .int .u8 0, .int .u8 0, .int .u8 0, .int .u8 0] := rfl
            have hsz2 : wr.heap.size < (wr.alloc (.cells #[.int .u8 0, .int .u8 0, .int .u8 0, .int .u8 0, .int .u8 0, .int .u8 0, .int .u8 0, .int .u8 0, .int .u8 0, .int .u8 0, .int .u8 0, .int .u8 0, .int .u8 0, .int .u8 0, .int .u8 0, .int .u8 0] 127)).heap.size := by simp
            generalize (wr.alloc (.cells #[.int .u8 0, .int .u8 0, .int .u8 0, .int .u8 0, .int .u8 0, .int .u8 0, .int .u8 0, .int .u8 0, .int .u8 0, .int .u8 0, .int .u8 0, .int .u8 0, .int .u8 0, .int .u8 0, .int .u8 0, .int .u8 0] 127)) = W2 at *
            rw [← hf0] at HZ
            clear hf0 k0 k1
            obtain ⟨V, hV⟩ : ∃ V, V = wr := ⟨_, rfl⟩
            subst hV
            go_wp2_with fail
            go_loopw [28] (fun v wr => ∃ k : Nat, k ≤ 16 ∧ v = .int .i64 (k : Int) ∧ Hid (wr.heap[V.heap.size]? = some (.cells (bytesV (fillTo s k)).toArray 127 (0, 0))) ∧ Hid (Below V.heap.size V wr)) (fun v _ => 16 - (intOf v).toNat)
            case atStart => exact ⟨0, Nat.zero_le _, rfl, HZ, HZB⟩
            case round =>
              clear HZ HZB
              obtain ⟨k, hk, rfl, HZ, HZB⟩ := hrel
              by_cases hk16 : k < 16
              · obtain ⟨ad, x, rfl, hx, hcell, hx256⟩ := (HY.out.bel HZB.out).atB (k := 16 * i + k) (by omega)
                have hset := fill_set (x := x) Hsl.out hk16 (by rw [HG.out k hk16]; exact hx.out)
                have Hset := Lib.hid hset
                have Hfl : Hid (k < (bytesV (fillTo s k)).toArray.size) := Lib.hid (by rw [List.size_toArray, bytesV_length, fill_len Hsl.out hk]; exact hk16)
                clear hset hx
                go_wp2_with (first
                  | (refine wpL_store_i0 rfl rfl 5 (.tmp 39) (.tmp 38) rfl V.heap.size k rfl .u8 _ rfl (by kernel_rfl) 127 _ HZ.out Hfl.out ?_
                     intro w6 x6 g6
                     rw [Hset.out] at x6
                     have HZ6 := Lib.hid x6
                     have HZB6 := Lib.hid (HZB.out.grown g6 HZB.out.size (by rintro k ⟨⟩; exact Nat.le_refl _))
                     clear x6 g6 hcell))
                go_roundw
                case rel => exact ⟨k + 1, by omega, by go_num, HZ6, HZB6⟩
                case measure => simp [intOf] <;> omega
              · obtain rfl : k = 16 := by omega
                have hfa := fill_all Hsl.out
                rw [hfa] at HZ
                have hx := (HZB.out.block _ (by omega)).trans (heap_fr HX1.out HF.out (by omega))
                have k0 : wr.cell? ⟨w.heap.size, 0, none⟩ = some (.int .i64 (o : Int)) := by simp [World.cell?, hx]
                have HR2 := Lib.hid (HR.out.bel HZB.out)
                have HF2 := Lib.hid (HF.out.trans (Fr.of_bel (S := fun k => k = q ∨ k = r) HZB.out) (fun _ _ e => e))
                clear hfa hx
                by_cases hE0 : E = 0
                · have Hg2 := Lib.hid (Hgood.out hE0)
                  subst hE0
                  go_wp2_with (first
                  | (refine wpL_load_rd rfl 127 (.tmp 8) rfl ⟨V.heap.size, 0, none⟩ rfl (bytesV s) _ ((rd_of_heap (n := 16) HZ.out (by rw [bytesV_length, Hsl.out]) (by simp [maxLen])).cell _ rfl) Tryz.underlying127 rfl (by rw [bytesV_length, Hsl.out]; kernel_rfl) ?_)
                  | (go_at_call 115
                     (with_reducible refine (r_Write HR2.out Hops.out _ s Hsl.out).mono ?_)
                     rintro e w7 ⟨rfl, h7, f7⟩
                     rw [HE.out] at h7 ⊢
                     have HR7 := Lib.hid h7
                     have HF7 := Lib.hid (HF2.out.trans f7 (fun _ _ e => e))
                     clear h7 f7 k0)
                  )
                  go_roundw
                  case rel => exact ⟨i + 1, D', by omega, by go_num, Hg2, HR7, HF7⟩
                  case measure => simp [intOf] <;> omega
                · have hne : ((E : Int) != 0) = true := by simp; omega
                  have Hb2 := Lib.hid (Hbad.out hE0)
                  go_wp2_with (first
                  | (refine wpL_load_rd rfl 127 (.tmp 8) rfl ⟨V.heap.size, 0, none⟩ rfl (bytesV s) _ ((rd_of_heap (n := 16) HZ.out (by rw [bytesV_length, Hsl.out]) (by simp [maxLen])).cell _ rfl) Tryz.underlying127 rfl (by rw [bytesV_length, Hsl.out]; kernel_rfl) ?_)
                  | (go_at_call 115
                     (with_reducible refine (r_Write HR2.out Hops.out _ s Hsl.out).mono ?_)
                     rintro e w7 ⟨rfl, h7, f7⟩
                     rw [HE.out] at h7 ⊢
                     have HR7 := Lib.hid h7
                     have HF7 := Lib.hid (HF2.out.trans f7 (fun _ _ e => e))
                     clear h7 f7 k0)
                  )
                  go_ret
                  rw [hw.out, Hb2.out]
                  exact ⟨rfl, HR7.out, HF1.out.trans HF7.out (fun _ _ e => e)⟩
          · obtain rfl : i = L := by omega
            go_wp2_with fail
            go_ret
            rw [hw.out, HW.out]
            exact ⟨rfl, HR.out, HF1.out.trans HF.out (fun _ _ e => e)⟩
      · have hw : Hid (dWrite d (o : Int) (L : Int) b = (d, 2)) := Lib.hid (by unfold dWrite; rw [if_pos hg, if_neg (by omega)])
        have hne : ((n : Int) != 16 * (L : Int)) = true := by simp; omega
        clear hg
        go_wp2_with fail
        go_ret
        rw [hw.out]
        exact ⟨rfl, H1.out, HF1.out⟩
end
section
variable {w : World} {p g mb q r c : Nat} {d : Dsk}
theorem r_Extent (h : Rk w q r c d) (x : Int) (hx : -9223372036854775808 ≤ x ∧ x ≤ 9223372036854775807) : Calls Tryz.prog 84 #[.pointer (some ⟨q, 0, none⟩), .int .i64 x] w fun e w' => ∃ A2 c2, e = .returned (.tuple #[.slice A2 (dRead d (whole x).1 (whole x).2).1.length c2, .int .i64 ((dRead d (whole x).1 (whole x).2).2 : Int)]) ∧ Tw.Own w' w.heap.size 5 1 A2 (dRead d (whole x).1 (whole x).2).1.length c2 (bytesV (dRead d (whole x).1 (whole x).2).1) ∧ Below w.heap.size w w' := by
  have H := Lib.hid h
  clear h
  go_enter Tryz.func84, Tryz.ntmps84
  go_wp2_with (first
    | (go_at_call 139
       (with_reducible refine (r_Whole x _ hx).mono ?_)
       rintro e w1 ⟨rfl, hb1⟩
       have H := Lib.hid (H.out.bel hb1)
       have HB := Lib.hid hb1
       unfold spanV
       clear hb1)
    | (go_at_call 93
       (with_reducible refine (r_dRead H.out _ _).mono ?_)
       rintro e w2 ⟨A2, c2, rfl, ho2, hb2⟩
       have HO := Lib.hid (Tw.Own.mono ho2 HB.out.size)
       have HB := Lib.hid (HB.out.trans (hb2.mono HB.out.size))
       clear ho2 hb2))
  go_ret2
  exact ⟨A2, c2, rfl, HO.out, HB.out⟩
theorem r_SetExtent (h : Rk w q r c d) (ho : d.ops + 1024 < 1000000000) (x : Int) (hx : -9223372036854775808 ≤ x ∧ x ≤ 9223372036854775807) (A : Option Addr) (n cb : Nat) (b : List UInt8) (hb : Byt w A n cb b) (hA : ∀ ad, A = some ad → 0 < n → ad.block ≠ q ∧ ad.block ≠ r) : Calls Tryz.prog 91 #[.pointer (some ⟨q, 0, none⟩), .int .i64 x, .slice A n cb] w fun e w' => e = .returned (.int .i64 ((dWrite d (whole x).1 (whole x).2 b).2 : Int)) ∧ Rk w' q r c (dWrite d (whole x).1 (whole x).2 b).1 ∧ Fr (fun k => k = q ∨ k = r) w w' := by
  have H := Lib.hid h
  have Hb := Lib.hid hb
  have HA := Lib.hid hA
  clear h hb hA
  go_enter Tryz.func91, Tryz.ntmps91
  go_wp2_with (first
    | (go_at_call 139
       (with_reducible refine (r_Whole x _ hx).mono ?_)
       rintro e w1 ⟨rfl, hb1⟩
       have H := Lib.hid (H.out.bel hb1)
       have Hb := Lib.hid (Hb.out.bel hb1)
       have HB := Lib.hid hb1
       unfold spanV
       clear hb1)
    | (go_at_call 147
       (with_reducible refine (r_dWrite H.out ho _ _ A n cb b Hb.out HA.out).mono ?_)
       rintro e w2 ⟨rfl, h2, f2⟩
       have H2 := Lib.hid h2
       have F2 := Lib.hid ((Fr.of_bel HB.out).trans f2 (fun _ _ e => e))
       clear h2 f2))
  go_ret
  exact ⟨rfl, H2.out, F2.out⟩
theorem r_Image (h : Rk w q r c d) : Calls Tryz.prog 47 #[.pointer (some ⟨q, 0, none⟩)] w fun e w' => ∃ A2 c2, e = .returned (.slice A2 (img d).length c2) ∧ Tw.Own w' w.heap.size 5 1 A2 (img d).length c2 (bytesV (img d)) ∧ Below w.heap.size w w' := by
  have H := Lib.hid h
  clear h
  by_cases he : (dRead d 0 (secs d)).2 = 0
  · have He := Lib.hid he
    clear he
    go_enter Tryz.func47, Tryz.ntmps47
    go_wp2_with (first
      | (go_at_call 94
         (with_reducible refine (r_Sectors H.out).mono ?_)
         rintro e w' ⟨rfl, rfl⟩)
      | (go_at_call 93
         refine (r_dRead H.out 0 (secs d)).mono ?_
         rintro e w1 ⟨A2, c2, rfl, ho, hb⟩
         rw [He.out]))
    go_ret
    exact ⟨A2, c2, rfl, ho, hb⟩
  · have hne : (((dRead d 0 (secs d)).2 : Int) != 0) = true := by simp; omega
    have hi : Hid (img d = []) := Lib.hid (dRead_err he)
    clear he
    go_enter Tryz.func47, Tryz.ntmps47
    go_wp2_with (first
      | (go_at_call 94
         (with_reducible refine (r_Sectors H.out).mono ?_)
         rintro e w' ⟨rfl, rfl⟩)
      | (go_at_call 93
         refine (r_dRead H.out 0 (secs d)).mono ?_
         rintro e w1 ⟨A2, c2, rfl, ho, hb⟩))
    go_ret
    rw [hi.out]
    exact ⟨none, 0, rfl, World.ownsRow_nil _ _ _ _, hb⟩
end
end Go.Proofs.YtaldlapnhhhclaaGreat.Data
