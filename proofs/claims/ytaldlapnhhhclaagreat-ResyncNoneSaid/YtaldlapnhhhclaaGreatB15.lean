/- Texts joined: what the disks, the rings and their reference do. Conditions: none. -/
import Derived.Test.YtaldlapnhhhclaaGreatB6
import Derived.Test.YtaldlapnhhhclaaGreatB14
import Derived.Test.YtaldlapnhhhclaaGreatB2
import Derived.Test.YtaldlapnhhhclaaGreatB10
import Derived.Test.YtaldlapnhhhclaaGreatB11
import Derived.Test.YtaldlapnhhhclaaGreatB13
/- The reference's data area (twainref12, twainref04), and the data area's Extent, SetExtent, Image. Conditions: at most 10^9 operations. -/
set_option linter.unusedVariables false
set_option linter.unusedSimpArgs false
namespace Go.Proofs.YtaldlapnhhhclaaGreat.Data
open Go.RowKit Tw Disk
set_option maxHeartbeats 4000000
set_option maxRecDepth 100000
theorem r_Whole (x : Int) (w : World) (hx : -9223372036854775808 ≤ x ∧ x ≤ 9223372036854775807) : Calls Tryz.prog 139 #[.int .i64 x] w fun e w' => e = .returned (spanV (whole x)) ∧ Below w.heap.size w w' := by
  by_cases h1 : x < 0
  · have hw : Hid (whole x = (0, 0)) := Lib.hid (by unfold whole; rw [if_neg (by omega)])
    go_enter Tryz.func139, Tryz.ntmps139
    go_wp2_with fail
    refine bodyPost_ret (results_cell_row rfl _ _ w.heap.size _ _ (0, 0) _ rfl (heap_alloc_new w _) Tryz.underlying144 rfl (by kernel_rfl)) rfl ?_
    rw [hw.out]
    exact ⟨rfl, (Below.refl _ _).alloc (Nat.le_refl _) _⟩
  · by_cases h2 : 63 < x
    · have hw : Hid (whole x = (0, 0)) := Lib.hid (by unfold whole; rw [if_neg (by omega)])
      have h3 : 64 ≤ x := by omega
      go_enter Tryz.func139, Tryz.ntmps139
      go_wp2_with fail
      refine bodyPost_ret (results_cell_row rfl _ _ w.heap.size _ _ (0, 0) _ rfl (heap_alloc_new w _) Tryz.underlying144 rfl (by kernel_rfl)) rfl ?_
      rw [hw.out]
      exact ⟨rfl, (Below.refl _ _).alloc (Nat.le_refl _) _⟩
    · have hw : Hid (whole x = (4 * x, 4)) := Lib.hid (by unfold whole; rw [if_pos (by omega)])
      have h3 : ¬ 64 ≤ x := by omega
      go_enter Tryz.func139, Tryz.ntmps139
      go_wp2_with fail
      refine bodyPost_ret (results_cell_row rfl _ _ w.heap.size _ _ (0, 0) _ rfl (heap_alloc_new w _) Tryz.underlying144 rfl (by kernel_rfl)) rfl ?_
      rw [hw.out]
      refine ⟨?_, (Below.refl _ _).alloc (Nat.le_refl _) _⟩
      first | rfl | (unfold spanV; rw [Int.mul_comm])
theorem r_Plain (x y : Int) (w : World) :
    Calls Tryz.prog 173 #[.agg #[.int .i64 x, .int .i64 y]] w fun e w' => e = .returned (.bool (decide (Span.Plain x y))) ∧ Below w.heap.size w w' := by
  have HB := Lib.hid ((Below.refl _ _).alloc (Nat.le_refl w.heap.size) (.cells #[.int .i64 x, .int .i64 y] 144))
  go_enter Tryz.func173, Tryz.ntmps173
  go_wp2_with fail
  all_goals
    go_ret
    refine ⟨Span.ret_bool rfl ?_, HB.out⟩
    rw [Bool.eq_iff_iff]
    simp only [decide_eq_true_eq, Bool.false_eq_true, Bool.true_eq_false, Bool.and_eq_true, true_iff, false_iff]
    simp only [Span.Plain]
    omega
theorem r_Good (x y s : Int) (w : World) :
    Calls Tryz.prog 149 #[.agg #[.int .i64 x, .int .i64 y], .int .i64 s] w fun e w' => e = .returned (.bool (decide (Span.Good x y s))) ∧ Below w.heap.size w w' := by
  have HB := Lib.hid ((Below.refl _ _).alloc (Nat.le_refl w.heap.size) (.cells #[.int .i64 x, .int .i64 y] 144))
  have HX := Lib.hid (heap_alloc_new w (.cells #[.int .i64 x, .int .i64 y] 144))
  by_cases hp : Span.Plain x y
  · have hd := Lib.hid (decide_eq_true hp)
    unfold Span.Plain at hp
    go_enter Tryz.func149, Tryz.ntmps149
    go_wp2_with (first
      | (go_at_call 173
         (with_reducible refine (r_Plain x y _).mono ?_)
         rintro e w1 ⟨rfl, hb1⟩
         rw [hd.out]
         have B1 := Lib.hid (HB.out.trans (hb1.mono HB.out.size))
         have d0 := (hb1.block _ (heap_lt HX.out)).trans HX.out
         have d1 : w1.cell? ⟨w.heap.size, 0, none⟩ = some (.int .i64 x) := by simp [World.cell?, d0]
         have d2 : w1.cell? ⟨w.heap.size, 1, none⟩ = some (.int .i64 y) := by simp [World.cell?, d0]
         clear d0 hb1 HX))
    all_goals
      go_ret
      refine ⟨Span.ret_bool rfl ?_, B1.out⟩
      rw [Bool.eq_iff_iff]
      simp only [decide_eq_true_eq, Bool.false_eq_true, Bool.true_eq_false, Bool.and_eq_true, true_iff, false_iff]
      simp only [Span.Good]
      omega
  · have hd := Lib.hid (decide_eq_false hp)
    unfold Span.Plain at hp
    go_enter Tryz.func149, Tryz.ntmps149
    go_wp2_with (first
      | (go_at_call 173
         (with_reducible refine (r_Plain x y _).mono ?_)
         rintro e w1 ⟨rfl, hb1⟩
         rw [hd.out]
         have B1 := Lib.hid (HB.out.trans (hb1.mono HB.out.size))
         clear hb1 HX))
    all_goals
      go_ret
      refine ⟨Span.ret_bool rfl ?_, B1.out⟩
      rw [Bool.eq_iff_iff]
      simp only [decide_eq_true_eq, Bool.false_eq_true, Bool.true_eq_false, Bool.and_eq_true, true_iff, false_iff]
      simp only [Span.Good]
      omega
section
variable {w : World} {q r c : Nat} {d : Dsk}
theorem r_Sectors (h : Rk w q r c d) : Calls Tryz.prog 94 #[.pointer (some ⟨q, 0, none⟩)] w fun e w' => e = .returned (.int .i64 (secs d)) ∧ w = w' := by
  have hn := h.ok.n
  obtain ⟨k0, k1, k2, k3⟩ := h.cells
  clear h
  go_enter Tryz.func94, Tryz.ntmps94
  go_wp2_with fail
  all_goals
    go_ret
    refine ⟨ret_int ?_, rfl⟩
    unfold secs
    omega
end
/-- all reads up to here work -/
def okTo (o : Nat) (d : Dsk) (k : Nat) : Prop := ∀ i : Nat, i < k → (d.read (8 + (o : Int) + (i : Int))).2 = 0
def readAt (o : Nat) (d : Dsk) (i : Nat) : Sec := (d.read (8 + (o : Int) + (i : Int))).1
theorem readAt_len {o : Nat} {d : Dsk} (hd : d.Ok) (i : Nat) : (readAt o d i).length = 16 := read_len hd _
theorem rseq_cat {o L : Nat} {d : Dsk} (hd : d.Ok) : ∀ k, k ≤ L → okTo o d k →
    rseq o d (List.replicate (L * 16) 0) (List.range k) = (cat (readAt o d) k ++ List.replicate ((L - k) * 16) 0, 0) := by
  intro k
  induction k with
  | zero => intro _ _; simp [cat, rseq]
  | succ k ih =>
    intro hk h
    have h1 := ih (by omega) fun i hi => h i (by omega)
    rw [List.range_succ, rseq_snoc k (by rw [h1]), h1, if_pos (h k (by omega))]
    refine Prod.ext ?_ rfl
    simp only
    have hcl : (cat (readAt o d) k).length = k * 16 := cat_len fun i _ => readAt_len hd i
    rw [layAt, cat_succ, List.take_left' hcl, List.append_assoc]
    congr 2
    rw [List.drop_append, hcl, List.drop_eq_nil_of_le (by omega), List.nil_append, List.drop_replicate]
    congr 1
    omega
theorem rseq_all {o L : Nat} {d : Dsk} (hd : d.Ok) (h : okTo o d L) : rseq o d (List.replicate (L * 16) 0) (List.range L) = (cat (readAt o d) L, 0) := by
  rw [rseq_cat hd L (Nat.le_refl _) h]
  simp
theorem rseq_bad {o L k : Nat} {d : Dsk} (hd : d.Ok) (hk : k < L) (h : okTo o d k) (he : (d.read (8 + (o : Int) + (k : Int))).2 ≠ 0) : rseq o d (List.replicate (L * 16) 0) (List.range L) = ([], (d.read (8 + (o : Int) + (k : Int))).2) := by
  have h1 := rseq_cat (L := L) hd k (by omega) h
  have h2 : rseq o d (List.replicate (L * 16) 0) (List.range (k + 1)) = ([], (d.read (8 + (o : Int) + (k : Int))).2) := by
    rw [List.range_succ, rseq_snoc k (by rw [h1]), if_neg he]
  obtain ⟨m, rfl⟩ : ∃ m, L = k + 1 + m := ⟨L - (k + 1), by omega⟩
  rw [List.range_add, rseq_fail (by rw [h2]; exact he), h2]
theorem okTo_succ {o : Nat} {d : Dsk} {i : Nat} (h : okTo o d i) (he : (d.read (8 + (o : Int) + (i : Int))).2 = 0) : okTo o d (i + 1) := fun k hk => by
  by_cases e : k = i
  · subst e; exact he
  · exact h k (by omega)
section
variable {w : World} {q r c : Nat} {d : Dsk}
theorem r_dRead (h : Rk w q r c d) (x y : Int) :
    Calls Tryz.prog 93 #[.pointer (some ⟨q, 0, none⟩), .agg #[.int .i64 x, .int .i64 y]] w fun e w' => ∃ A2 c2, e = .returned (.tuple #[.slice A2 (dRead d x y).1.length c2, .int .i64 ((dRead d x y).2 : Int)]) ∧ Tw.Own w' w.heap.size 5 1 A2 (dRead d x y).1.length c2 (bytesV (dRead d x y).1) ∧ Below w.heap.size w w' := by
  have HB := Lib.hid ((Below.refl _ _).alloc (Nat.le_refl w.heap.size) (.cells #[.int .i64 x, .int .i64 y] 144))
  have HX := Lib.hid (heap_alloc_new w (.cells #[.int .i64 x, .int .i64 y] 144))
  have H := Lib.hid (h.bel HB.out)
  have Hok := Lib.hid h.ok
  clear h
  obtain ⟨b, hb⟩ : ∃ b, decide (Span.Good x y (secs d)) = b := ⟨_, rfl⟩
  have Hb := Lib.hid hb
  clear hb
  go_enter Tryz.func93, Tryz.ntmps93
  go_upto_region 1 with (fail)
  generalize (w.alloc (.cells #[.int .i64 x, .int .i64 y] 144)) = W1 at *
  refine wp_region_phi (by kernel_rfl) 5 none (fun _ => false) (fun i_ v wz => match i_ with
    | 0 => v = .agg #[.int .i64 x, .int .i64 y]
    | 1 => v = .pointer (some ⟨q, 0, none⟩)
    | 2 => v = .int .i64 (secs d)
    | 3 => v = .bool b
    | 4 => v = .bool (!b)
    | _ => True) (by kernel_rfl) ?_ ?_ ?_
  · (repeat' (first | exact allLt_zero | refine allLt_succ ?_ ?_))
    · exact fun _ _ _ h _ => h
    · exact fun _ _ _ h _ => h
    · exact fun _ _ _ h _ => h
    · exact fun _ _ _ h _ => h
    · exact fun _ _ _ h _ => h
  · (repeat' (first | exact allLt_zero | refine allLt_succ ?_ ?_))
    · intro a w' hf he
      have k3 : a.tmps.getD 3 undef = .pointer (some ⟨w.heap.size, 0, none⟩) := hf.var (by kernel_rfl) rfl
      rw [show kindRow _ _ = none from by kernel_rfl] at hf
      refine wpOp_step rfl (fun K hK => ?_)
      refine wp_load_rd 144 (.tmp 3) rfl ⟨w.heap.size, 0, none⟩ k3 [.int .i64 x, .int .i64 y] _ ((rd_of_heap (n := 2) ((hf.bel.block _ (heap_lt HX.out)).trans HX.out) rfl (by simp [maxLen])).cell _ rfl) Tryz.underlying144 rfl (by kernel_rfl) ?_
      exact hK _ _ ⟨_, rfl, rfl, World.grownBy.refl _ _⟩
    · intro a w' hf he
      have k0 : a.tmps.getD 0 undef = .pointer (some ⟨q, 0, none⟩) := hf.var (by kernel_rfl) rfl
      refine wpOp_step rfl (fun K hK => ?_)
      go_simp
      exact hK _ _ ⟨_, rfl, rfl, World.grownBy.refl _ _⟩
    · intro a w' hf he
      have f1 : a.tmps.getD 11 undef = .pointer (some ⟨q, 0, none⟩) := he 1 (by kernel_rfl)
      rw [show kindRow _ _ = none from by kernel_rfl] at hf
      refine wpOp_step rfl (fun K hK => ?_)
      go_simp
      refine (r_Sectors (H.out.bel hf.bel)).mono ?_
      rintro e w2 ⟨rfl, rfl⟩
      exact hK _ _ ⟨_, rfl, rfl, World.grownBy.refl _ _⟩
    · intro a w' hf he
      have f0 : a.tmps.getD 10 undef = .agg #[.int .i64 x, .int .i64 y] := he 0 (by kernel_rfl)
      have f2 : a.tmps.getD 12 undef = .int .i64 (secs d) := he 2 (by kernel_rfl)
      rw [show kindRow _ _ = none from by kernel_rfl] at hf
      refine wpOp_step rfl (fun K hK => ?_)
      go_simp
      refine (r_Good x y (secs d) _).mono ?_
      rintro e w2 ⟨rfl, hb2⟩
      rw [Hb.out]
      exact hK _ _ ⟨_, rfl, rfl, grown_bel hb2⟩
    · intro a w' hf he
      have f3 : a.tmps.getD 13 undef = .bool b := he 3 (by kernel_rfl)
      refine wpOp_step rfl (fun K hK => ?_)
      go_simp
      exact hK _ _ ⟨_, rfl, rfl, World.grownBy.refl _ _⟩
  · intro a w' hf he
    obtain ⟨u10, f0⟩ : ∃ u, a.tmps.getD 10 undef = u := ⟨_, rfl⟩
    obtain ⟨u11, f1⟩ : ∃ u, a.tmps.getD 11 undef = u := ⟨_, rfl⟩
    obtain ⟨u12, f2⟩ : ∃ u, a.tmps.getD 12 undef = u := ⟨_, rfl⟩
    obtain ⟨u13, f3⟩ : ∃ u, a.tmps.getD 13 undef = u := ⟨_, rfl⟩
    have f4 : a.tmps.getD 14 undef = .bool (!b) := he 4 (by decide)
    have hlit := hf.lit ((10, u10) :: (11, u11) :: (12, u12) :: (13, u13) :: (14, .bool (!b)) :: []) (by kernel_rfl) ⟨f0, f1, f2, f3, f4, trivial⟩
    have hB := hf.bel
    clear he hf f0 f1 f2 f3 f4 
    subst hlit
    simp only [putAll_nil, putAll_cons, Act.put, List.setIfInBounds_toArray, List.set_cons_zero, List.set_cons_succ]
    simp only [List.drop_succ_cons, List.drop_zero]
    have HX1 := Lib.hid ((hB.block _ (heap_lt HX.out)).trans HX.out)
    have H1 := Lib.hid (H.out.bel hB)
    have HB1 := Lib.hid (HB.out.trans (hB.mono HB.out.size))
    clear hB HB HX H
    cases b with
    | false =>
      have hw : Hid (dRead d x y = ([], 13)) := Lib.hid (by unfold dRead; rw [if_neg (of_decide_eq_false Hb.out)])
      clear Hb
      go_wp2_with fail
      go_ret2
      rw [hw.out]
      exact ⟨none, 0, rfl, World.ownsRow_nil _ _ _ _, HB1.out⟩
    | true =>
      have hg := of_decide_eq_true Hb.out
      clear Hb
      obtain ⟨o, rfl⟩ : ∃ o : Nat, x = (o : Int) := ⟨x.toNat, by unfold Span.Good at hg; omega⟩
      obtain ⟨L, rfl⟩ : ∃ L : Nat, y = (L : Int) := ⟨y.toNat, by unfold Span.Good at hg; omega⟩
      have hw : Hid (dRead d (o : Int) (L : Int) = rseq o d (List.replicate (L * 16) 0) (List.range L)) := Lib.hid (by unfold dRead; rw [if_pos hg]; rfl)
      have hn := Hok.out.n
      have hoL : o + L ≤ 1024 := by unfold Span.Good secs at hg; omega
      clear hg hn
      simp only [Bool.not_true]
      go_wp2_with fail
      go_loopw [6, 7] (fun v6 v wr => ∃ (i : Nat) (A : Option Addr) (c2 : Nat), i ≤ L ∧ v = .int .i64 (i : Int) ∧ v6 = .slice A (i * 16) c2 ∧ Hid (okTo o d i) ∧ Hid (Tw.Own wr w'.heap.size 5 1 A (i * 16) c2 (bytesV (cat (readAt o d) i))) ∧ Hid (Below w'.heap.size w' wr)) (fun _ v _ => L - (intOf v).toNat)
      case atStart => exact ⟨0, none, 0, Nat.zero_le _, rfl, rfl, Lib.hid (fun i hi => absurd hi (by omega)), Lib.hid (World.ownsRow_nil _ _ _ _), Lib.hid (Below.refl _ _)⟩
      case round =>
        have HB0 := HB1
        clear HB1
        obtain ⟨i, A, c2, hi, rfl, rfl, HK, HO, HB1⟩ := hrel
        have hx := (HB1.out.block _ (heap_lt HX1.out)).trans HX1.out
        have k0 : wr.cell? ⟨w.heap.size, 0, none⟩ = some (.int .i64 (o : Int)) := by simp [World.cell?, hx]
        have k1 : wr.cell? ⟨w.heap.size, 1, none⟩ = some (.int .i64 (L : Int)) := by simp [World.cell?, hx]
        have H := Lib.hid (H1.out.bel HB1.out)
        clear hx
        by_cases hin : i < L
        · have Hca := Lib.hid (cat_succ (readAt o d) i)
          have Hrl := Lib.hid (readAt_len (o := o) Hok.out i)
          have Hra : Hid ((d.read (8 + (o : Int) + (i : Int))).1 = readAt o d i) := Lib.hid rfl
          obtain ⟨E, hE⟩ : ∃ E, (d.read (8 + (o : Int) + (i : Int))).2 = E := ⟨_, rfl⟩
          have HE := Lib.hid hE
          clear hE
          generalize readAt o d i = s at *
          generalize cat (readAt o d) i = t at *
          have Hsz : Hid ((bytesV s).toArray.size = 16) := Lib.hid (by rw [List.size_toArray, bytesV_length, Hrl.out])
          by_cases hE0 : E = 0
          · subst hE0
            go_wp2_with (first
            | (go_at_call 123
               (with_reducible refine (r_Read H.out _).mono ?_)
               rintro e w5 ⟨rfl, hb5⟩
               rw [HE.out, Hra.out]
               unfold secV
               have HBa := Lib.hid ((Below.refl w5.heap.size w5).alloc (Nat.le_refl _) (.cells Z16 127))
               have HZ := Lib.hid (heap_alloc_new w5 (.cells Z16 127))
               unfold Z16 at HBa HZ
               have HO := Lib.hid (Tw.Own.bel HO.out hb5)
               have HB1 := Lib.hid (HB1.out.trans (hb5.mono HB1.out.size))
               clear hb5 k0 k1)
            | (refine wpL_store_all rfl rfl 127 (.tmp 8) (.tmp 29) rfl _ rfl _ rfl _ _ HZ.out (by rw [Hsz.out]; kernel_rfl) Hsz.out (fun v hv => bytesV_one v (by simpa using hv)) ?_
               intro w6 x6 g6
               have hb6 := HBa.out.grown g6 HBa.out.size (by rintro k ⟨⟩; exact Nat.le_refl _)
               have HO := Lib.hid (Tw.Own.bel HO.out hb6)
               have HB1 := Lib.hid (HB1.out.trans (hb6.mono HB1.out.size))
               have HZ := Lib.hid x6
               clear x6 g6 HBa hb6)
            | (at_builtin
               refine wpL_append _ rfl (.tmp 34) (.tmp 35) _ rfl w' w'.heap.size HB1.out HB1.out.size 5 _ 1 1 Tryz.underlying23 Num.info_u8 rfl (by omega) _ _ _ (bytesV t) rfl HO.out _ 16 16 (bytesV s) rfl (rd_of_heap (n := 16) HZ.out (by rw [bytesV_length, Hrl.out]) (by simp [maxLen])) bytesV_one ((i + 1) * 16) (bytesV (t ++ s)) (by omega) (by simp [bytesV]) (by unfold maxLen; omega) (by omega) ?_
               intro A9 c9 w9 hown9 hb9 hg9 ho9
               have HO := Lib.hid hown9
               have HB1 := Lib.hid hb9
               clear hown9 hb9 hg9 ho9))
            go_roundw
            case rel => exact ⟨i + 1, A9, c9, by omega, by go_num, rfl, Lib.hid (okTo_succ HK.out HE.out), by rw [Hca.out]; exact HO, HB1⟩
            case measure => simp [intOf] <;> omega
          · have hne : ((E : Int) != 0) = true := by simp; omega
            have hbad := rseq_bad Hok.out hin HK.out (by rw [HE.out]; exact hE0)
            rw [HE.out] at hbad
            have Hbad := Lib.hid hbad
            clear hbad
            go_wp2_with (first
            | (go_at_call 123
               (with_reducible refine (r_Read H.out _).mono ?_)
               rintro e w5 ⟨rfl, hb5⟩
               rw [HE.out, Hra.out]
               unfold secV
               have HBa := Lib.hid ((Below.refl w5.heap.size w5).alloc (Nat.le_refl _) (.cells Z16 127))
               have HZ := Lib.hid (heap_alloc_new w5 (.cells Z16 127))
               unfold Z16 at HBa HZ
               have HO := Lib.hid (Tw.Own.bel HO.out hb5)
               have HB1 := Lib.hid (HB1.out.trans (hb5.mono HB1.out.size))
               clear hb5 k0 k1)
            | (refine wpL_store_all rfl rfl 127 (.tmp 8) (.tmp 29) rfl _ rfl _ rfl _ _ HZ.out (by rw [Hsz.out]; kernel_rfl) Hsz.out (fun v hv => bytesV_one v (by simpa using hv)) ?_
               intro w6 x6 g6
               have hb6 := HBa.out.grown g6 HBa.out.size (by rintro k ⟨⟩; exact Nat.le_refl _)
               have HO := Lib.hid (Tw.Own.bel HO.out hb6)
               have HB1 := Lib.hid (HB1.out.trans (hb6.mono HB1.out.size))
               have HZ := Lib.hid x6
               clear x6 g6 HBa hb6)
            )
            go_ret2
            rw [hw.out, Hbad.out]
            exact ⟨none, 0, rfl, World.ownsRow_nil _ _ _ _, HB0.out.trans (HB1.out.mono HB0.out.size)⟩
        · obtain rfl : i = L := by omega
          have hall := rseq_all Hok.out HK.out
          have hln := cat_len (f := readAt o d) (m := i) fun j _ => readAt_len Hok.out j
          have Hall := Lib.hid hall
          have Hln := Lib.hid hln
          clear hall hln
          go_wp2_with fail
          go_ret2
          rw [hw.out, Hall.out]
          simp only
          rw [Hln.out]
          exact ⟨A, c2, rfl, Tw.Own.mono HO.out HB0.out.size, HB0.out.trans (HB1.out.mono HB0.out.size)⟩
end
def fillTo (s : List UInt8) (k : Nat) : List UInt8 := s.take k ++ List.replicate (16 - k) 0
theorem fill_len {s : List UInt8} {k : Nat} (hs : s.length = 16) (hk : k ≤ 16) : (fillTo s k).length = 16 := by
  unfold fillTo
  rw [List.length_append, List.length_take, List.length_replicate]
  omega
theorem fill_all {s : List UInt8} (hs : s.length = 16) : fillTo s 16 = s := by
  unfold fillTo
  rw [← hs, List.take_length]
  simp
theorem fill_set {s : List UInt8} {k : Nat} {x : UInt8} (hs : s.length = 16) (hk : k < 16) (hx : s[k]? = some x) : (bytesV (fillTo s k)).toArray.setIfInBounds k (.int .u8 (x.toNat : Int)) = (bytesV (fillTo s (k + 1))).toArray := by
  have h1 : (fillTo s k).set k x = fillTo s (k + 1) := by
    unfold fillTo
    have hl : (s.take k).length = k := by rw [List.length_take]; omega
    have hx2 := (List.getElem?_eq_some_iff.1 hx).2
    rw [List.set_append, if_neg (by omega), hl, Nat.sub_self, show 16 - k = (16 - (k + 1)) + 1 by omega, List.replicate_succ, List.set_cons_zero, List.take_succ_eq_append_getElem (by omega), hx2, List.append_assoc]
    rfl
  rw [← h1]
  simp [bytesV, List.map_set]
theorem secAt_get {b : List UInt8} {i k : Nat} (hk : k < 16) : (secAt b i)[k]? = b[16 * i + k]? := by
  unfold secAt
  rw [List.getElem?_take, if_pos hk, List.getElem?_drop, Nat.mul_comm]
theorem wseq_bad {o L k : Nat} {b : List UInt8} {d D : Dsk} (hk : k < L) (h : wseq o b d (List.range k) = (D, 0)) (he : (D.write (8 + (o : Int) + (k : Int)) (secAt b k)).2 ≠ 0) : wseq o b d (List.range L) = D.write (8 + (o : Int) + (k : Int)) (secAt b k) := by
  have h2 : wseq o b d (List.range (k + 1)) = D.write (8 + (o : Int) + (k : Int)) (secAt b k) := by
    rw [List.range_succ, wseq_snoc k (by rw [h]), h]
  obtain ⟨m, rfl⟩ : ∃ m, L = k + 1 + m := ⟨L - (k + 1), by omega⟩
  rw [List.range_add, wseq_fail (by rw [h2]; exact he), h2]
theorem wseq_good {o k : Nat} {b : List UInt8} {d D D' : Dsk} (h : wseq o b d (List.range k) = (D, 0)) (he : D.write (8 + (o : Int) + (k : Int)) (secAt b k) = (D', 0)) : wseq o b d (List.range (k + 1)) = (D', 0) := by
  rw [List.range_succ, wseq_snoc k (by rw [h]), h, he]
theorem wseq_ops' {o k : Nat} {b : List UInt8} {d D : Dsk} {e : Nat} (h : wseq o b d (List.range k) = (D, e)) : D.ops ≤ d.ops + k := by
  have := wseq_ops (o := o) (b := b) (List.range k) d
  rw [h, List.length_range] at this
  exact this
section
variable {w : World} {q r c : Nat} {d : Dsk}
theorem r_dWrite (h : Rk w q r c d) (ho : d.ops + 1024 < 1000000000) (x y : Int) (A : Option Addr) (n cb : Nat) (b : List UInt8) (hb : Byt w A n cb b) (hA : ∀ ad, A = some ad → 0 < n → ad.block ≠ q ∧ ad.block ≠ r) :
    Calls Tryz.prog 147 #[.pointer (some ⟨q, 0, none⟩), .agg #[.int .i64 x, .int .i64 y], .slice A n cb] w fun e w' => e = .returned (.int .i64 ((dWrite d x y b).2 : Int)) ∧ Rk w' q r c (dWrite d x y b).1 ∧ Fr (fun k => k = q ∨ k = r) w w' := by
  have HB := Lib.hid ((Below.refl _ _).alloc (Nat.le_refl w.heap.size) (.cells #[.int .i64 x, .int .i64 y] 144))
  have HX := Lib.hid (heap_alloc_new w (.cells #[.int .i64 x, .int .i64 y] 144))
  have H := Lib.hid (h.bel HB.out)
  have Hok := Lib.hid h.ok
  have hlt := h.lts
  have hbl := hb.blen
  have hble := hb.le
  have Hy := Lib.hid hb
  have Ho := Lib.hid ho
  have HAA := Lib.hid hA
  clear h hb ho hA
  obtain ⟨g, hg0⟩ : ∃ g, decide (Span.Good x y (secs d)) = g := ⟨_, rfl⟩
  have Hb := Lib.hid hg0
  clear hg0
  go_enter Tryz.func147, Tryz.ntmps147
  go_upto_region 1 with (fail)
  generalize (w.alloc (.cells #[.int .i64 x, .int .i64 y] 144)) = W1 at *
  refine wp_region_phi (by kernel_rfl) 5 none (fun _ => false) (fun i_ v wz => match i_ with
    | 0 => v = .agg #[.int .i64 x, .int .i64 y]
    | 1 => v = .pointer (some ⟨q, 0, none⟩)
    | 2 => v = .int .i64 (secs d)
    | 3 => v = .bool g
    | 4 => v = .bool (!g)
    | _ => True) (by kernel_rfl) ?_ ?_ ?_
  · (repeat' (first | exact allLt_zero | refine allLt_succ ?_ ?_))
    · exact fun _ _ _ h _ => h
    · exact fun _ _ _ h _ => h
    · exact fun _ _ _ h _ => h
    · exact fun _ _ _ h _ => h
    · exact fun _ _ _ h _ => h
  · (repeat' (first | exact allLt_zero | refine allLt_succ ?_ ?_))
    · intro a w' hf he
      have k4 : a.tmps.getD 4 undef = .pointer (some ⟨w.heap.size, 0, none⟩) := hf.var (by kernel_rfl) rfl
      rw [show kindRow _ _ = none from by kernel_rfl] at hf
      refine wpOp_step rfl (fun K hK => ?_)
      refine wp_load_rd 144 (.tmp 4) rfl ⟨w.heap.size, 0, none⟩ k4 [.int .i64 x, .int .i64 y] _ ((rd_of_heap (n := 2) ((hf.bel.block _ (heap_lt HX.out)).trans HX.out) rfl (by simp [maxLen])).cell _ rfl) Tryz.underlying144 rfl (by kernel_rfl) ?_
      exact hK _ _ ⟨_, rfl, rfl, World.grownBy.refl _ _⟩
    · intro a w' hf he
      have k0 : a.tmps.getD 0 undef = .pointer (some ⟨q, 0, none⟩) := hf.var (by kernel_rfl) rfl
      refine wpOp_step rfl (fun K hK => ?_)
      go_simp
      exact hK _ _ ⟨_, rfl, rfl, World.grownBy.refl _ _⟩
    · intro a w' hf he
      have f1 : a.tmps.getD 12 undef = .pointer (some ⟨q, 0, none⟩) := he 1 (by kernel_rfl)
      rw [show kindRow _ _ = none from by kernel_rfl] at hf
      refine wpOp_step rfl (fun K hK => ?_)
      go_simp
      refine (r_Sectors (H.out.bel hf.bel)).mono ?_
      rintro e w2 ⟨rfl, rfl⟩
      exact hK _ _ ⟨_, rfl, rfl, World.grownBy.refl _ _⟩
    · intro a w' hf he
      have f0 : a.tmps.getD 11 undef = .agg #[.int .i64 x, .int .i64 y] := he 0 (by kernel_rfl)
      have f2 : a.tmps.getD 13 undef = .int .i64 (secs d) := he 2 (by kernel_rfl)
      rw [show kindRow _ _ = none from by kernel_rfl] at hf
      refine wpOp_step rfl (fun K hK => ?_)
      go_simp
      refine (r_Good x y (secs d) _).mono ?_
      rintro e w2 ⟨rfl, hb2⟩
      rw [Hb.out]
      exact hK _ _ ⟨_, rfl, rfl, grown_bel hb2⟩
    · intro a w' hf he
      have f3 : a.tmps.getD 14 undef = .bool g := he 3 (by kernel_rfl)
      refine wpOp_step rfl (fun K hK => ?_)
      go_simp
      exact hK _ _ ⟨_, rfl, rfl, World.grownBy.refl _ _⟩
  · intro a w' hf he
    obtain ⟨u11, f0⟩ : ∃ u, a.tmps.getD 11 undef = u := ⟨_, rfl⟩
    obtain ⟨u12, f1⟩ : ∃ u, a.tmps.getD 12 undef = u := ⟨_, rfl⟩
    obtain ⟨u13, f2⟩ : ∃ u, a.tmps.getD 13 undef = u := ⟨_, rfl⟩
    obtain ⟨u14, f3⟩ : ∃ u, a.tmps.getD 14 undef = u := ⟨_, rfl⟩
    have f4 : a.tmps.getD 15 undef = .bool (!g) := he 4 (by decide)
    have hlit := hf.lit ((11, u11) :: (12, u12) :: (13, u13) :: (14, u14) :: (15, .bool (!g)) :: []) (by kernel_rfl) ⟨f0, f1, f2, f3, f4, trivial⟩
    have hB := hf.bel
    clear he hf f0 f1 f2 f3 f4 
    subst hlit
    simp only [putAll_nil, putAll_cons, Act.put, List.setIfInBounds_toArray, List.set_cons_zero, List.set_cons_succ]
    simp only [List.drop_succ_cons, List.drop_zero]
    have HX1 := Lib.hid ((hB.block _ (heap_lt HX.out)).trans HX.out)
    have H1 := Lib.hid (H.out.bel hB)
    have HB1 := Lib.hid (HB.out.trans (hB.mono HB.out.size))
    have HF1 := Lib.hid (Fr.of_bel (S := fun k => k = q ∨ k = r) HB1.out)
    clear hB HB HX H
    cases g with
    | false =>
      have hw : Hid (dWrite d x y b = (d, 13)) := Lib.hid (by unfold dWrite; rw [if_neg (of_decide_eq_false Hb.out)])
      clear Hb
      go_wp2_with fail
      go_ret
      rw [hw.out]
      exact ⟨rfl, H1.out, HF1.out⟩
    | true =>
      have hg := of_decide_eq_true Hb.out
      clear Hb
      obtain ⟨o, rfl⟩ : ∃ o : Nat, x = (o : Int) := ⟨x.toNat, by unfold Span.Good at hg; omega⟩
      obtain ⟨L, rfl⟩ : ∃ L : Nat, y = (L : Int) := ⟨y.toNat, by unfold Span.Good at hg; omega⟩
      have hn := Hok.out.n
      have hoL : o + L ≤ 1024 := by unfold Span.Good secs at hg; omega
      have hxl := heap_lt HX1.out
      have k1 : w'.cell? ⟨w.heap.size, 1, none⟩ = some (.int .i64 (L : Int)) := by have hx := HX1.out; simp [World.cell?, hx]
      simp only [Bool.not_true]
      by_cases hl : n = 16 * L
      · have hw : Hid (dWrite d (o : Int) (L : Int) b = wseq o b d (List.range L)) := Lib.hid (by unfold dWrite; rw [if_pos hg, if_pos (by omega)]; rfl)
        subst hl
        have Hbl := Lib.hid hbl
        clear hg hn hbl
        go_wp2_with fail
        go_loopw [7] (fun v wr => ∃ (i : Nat) (D : Dsk), i ≤ L ∧ v = .int .i64 (i : Int) ∧ Hid (wseq o b d (List.range i) = (D, 0)) ∧ Hid (Rk wr q r c D) ∧ Hid (Fr (fun k => k = q ∨ k = r) w' wr)) (fun v _ => L - (intOf v).toNat)
        case atStart => exact ⟨0, d, Nat.zero_le _, rfl, Lib.hid rfl, H1, Lib.hid (Fr.refl _ _)⟩
        case round =>
          clear k1
          obtain ⟨i, D, hi, rfl, HW, HR, HF⟩ := hrel
          have hx := heap_fr HX1.out HF.out (by omega)
          have k0 : wr.cell? ⟨w.heap.size, 0, none⟩ = some (.int .i64 (o : Int)) := by simp [World.cell?, hx]
          have k1 : wr.cell? ⟨w.heap.size, 1, none⟩ = some (.int .i64 (L : Int)) := by simp [World.cell?, hx]
          clear hx
          by_cases hin : i < L
          · have HY := Lib.hid ((Hy.out.bel HB1.out).fr HF.out (fun ad e => by have := HAA.out ad e (by omega); omega))
            have hsl := secAt_len (L := L) (b := b) (i := i) (by have := Hbl.out; omega) hin
            have Hsl := Lib.hid hsl
            have HG := Lib.hid (fun k (hk : k < 16) => secAt_get (b := b) (i := i) hk)
            have HE0 : Hid (∃ D' E, D.write (8 + (o : Int) + (i : Int)) (secAt b i) = (D', E)) := Lib.hid ⟨_, _, rfl⟩
            obtain ⟨D', E, hE⟩ := HE0.out
            have HE := Lib.hid hE
            have hbad : E ≠ 0 → wseq o b d (List.range L) = (D', E) := fun h0 => by rw [wseq_bad hin HW.out (by rw [HE.out]; exact h0), HE.out]
            have Hbad := Lib.hid hbad
            have hgood : E = 0 → wseq o b d (List.range (i + 1)) = (D', 0) := fun h0 => wseq_good HW.out (by rw [HE.out, h0])
            have Hgood := Lib.hid hgood
            have Hops : Hid (D.ops < 1000000000) := Lib.hid (by have := wseq_ops' HW.out; have := Ho.out; omega)
            have HZ := Lib.hid (heap_alloc_new wr (.cells Z16 127))
            have HZB := Lib.hid ((Below.refl wr.heap.size wr).alloc (Nat.le_refl _) (.cells Z16 127))
            unfold Z16 at HZ HZB
            clear hE HE0 hbad hgood hsl
            generalize secAt b i = s at *
            have hlw := HR.out.lts
            have hF2 := HF.out.size
            go_upto_block 2 with (fail)
            have hf0 : (bytesV (fillTo s 0)).toArray = #[.int .u8 0, .int .u8 0, .int .u8 0, .int .u8 0, .int .u8 0, .int .u8 0, .int .u8 0, .int .u8 0, .int .u8 0, .int .u8 0, .int .u8 0, .int .u8 0, .int .u8 0, .int .u8 0, .int .u8 0, .int .u8 0] := rfl
            have hsz2 : wr.heap.size < (wr.alloc (.cells #[.int .u8 0, .int .u8 0, .int .u8 0, .int .u8 0, .int .u8 0, .int .u8 0, .int .u8 0, .int .u8 0, .int .u8 0, .int .u8 0, .int .u8 0, .int .u8 0, .int .u8 0, .int .u8 0, .int .u8 0, .int .u8 0] 127)).heap.size := by simp
            generalize (wr.alloc (.cells #[.int .u8 0, .int .u8 0, .int .u8 0, .int .u8 0, .int .u8 0, .int .u8 0, .int .u8 0, .int .u8 0, .int .u8 0, .int .u8 0, .int .u8 0, .int .u8 0, .int .u8 0, .int .u8 0, .int .u8 0, .int .u8 0] 127)) = W2 at *
            rw [← hf0] at HZ
            clear hf0 k0 k1
            obtain ⟨V, hV⟩ : ∃ V, V = wr := ⟨_, rfl⟩
            subst hV
            go_wp2_with fail
            go_loopw [28] (fun v wr => ∃ k : Nat, k ≤ 16 ∧ v = .int .i64 (k : Int) ∧ Hid (wr.heap[V.heap.size]? = some (.cells (bytesV (fillTo s k)).toArray 127 (0, 0))) ∧ Hid (Below V.heap.size V wr)) (fun v _ => 16 - (intOf v).toNat)
            case atStart => exact ⟨0, Nat.zero_le _, rfl, HZ, HZB⟩
            case round =>
              clear HZ HZB
              obtain ⟨k, hk, rfl, HZ, HZB⟩ := hrel
              by_cases hk16 : k < 16
              · obtain ⟨ad, x, rfl, hx, hcell, hx256⟩ := (HY.out.bel HZB.out).atB (k := 16 * i + k) (by omega)
                have hset := fill_set (x := x) Hsl.out hk16 (by rw [HG.out k hk16]; exact hx.out)
                have Hset := Lib.hid hset
                have Hfl : Hid (k < (bytesV (fillTo s k)).toArray.size) := Lib.hid (by rw [List.size_toArray, bytesV_length, fill_len Hsl.out hk]; exact hk16)
                clear hset hx
                go_wp2_with (first
                  | (refine wpL_store_i0 rfl rfl 5 (.tmp 39) (.tmp 38) rfl V.heap.size k rfl .u8 _ rfl (by kernel_rfl) 127 _ HZ.out Hfl.out ?_
                     intro w6 x6 g6
                     rw [Hset.out] at x6
                     have HZ6 := Lib.hid x6
                     have HZB6 := Lib.hid (HZB.out.grown g6 HZB.out.size (by rintro k ⟨⟩; exact Nat.le_refl _))
                     clear x6 g6 hcell))
                go_roundw
                case rel => exact ⟨k + 1, by omega, by go_num, HZ6, HZB6⟩
                case measure => simp [intOf] <;> omega
              · obtain rfl : k = 16 := by omega
                have hfa := fill_all Hsl.out
                rw [hfa] at HZ
                have hx := (HZB.out.block _ (by omega)).trans (heap_fr HX1.out HF.out (by omega))
                have k0 : wr.cell? ⟨w.heap.size, 0, none⟩ = some (.int .i64 (o : Int)) := by simp [World.cell?, hx]
                have HR2 := Lib.hid (HR.out.bel HZB.out)
                have HF2 := Lib.hid (HF.out.trans (Fr.of_bel (S := fun k => k = q ∨ k = r) HZB.out) (fun _ _ e => e))
                clear hfa hx
                by_cases hE0 : E = 0
                · have Hg2 := Lib.hid (Hgood.out hE0)
                  subst hE0
                  go_wp2_with (first
                  | (refine wpL_load_rd rfl 127 (.tmp 8) rfl ⟨V.heap.size, 0, none⟩ rfl (bytesV s) _ ((rd_of_heap (n := 16) HZ.out (by rw [bytesV_length, Hsl.out]) (by simp [maxLen])).cell _ rfl) Tryz.underlying127 rfl (by rw [bytesV_length, Hsl.out]; kernel_rfl) ?_)
                  | (go_at_call 115
                     (with_reducible refine (r_Write HR2.out Hops.out _ s Hsl.out).mono ?_)
                     rintro e w7 ⟨rfl, h7, f7⟩
                     rw [HE.out] at h7 ⊢
                     have HR7 := Lib.hid h7
                     have HF7 := Lib.hid (HF2.out.trans f7 (fun _ _ e => e))
                     clear h7 f7 k0)
                  )
                  go_roundw
                  case rel => exact ⟨i + 1, D', by omega, by go_num, Hg2, HR7, HF7⟩
                  case measure => simp [intOf] <;> omega
                · have hne : ((E : Int) != 0) = true := by simp; omega
                  have Hb2 := Lib.hid (Hbad.out hE0)
                  go_wp2_with (first
                  | (refine wpL_load_rd rfl 127 (.tmp 8) rfl ⟨V.heap.size, 0, none⟩ rfl (bytesV s) _ ((rd_of_heap (n := 16) HZ.out (by rw [bytesV_length, Hsl.out]) (by simp [maxLen])).cell _ rfl) Tryz.underlying127 rfl (by rw [bytesV_length, Hsl.out]; kernel_rfl) ?_)
                  | (go_at_call 115
                     (with_reducible refine (r_Write HR2.out Hops.out _ s Hsl.out).mono ?_)
                     rintro e w7 ⟨rfl, h7, f7⟩
                     rw [HE.out] at h7 ⊢
                     have HR7 := Lib.hid h7
                     have HF7 := Lib.hid (HF2.out.trans f7 (fun _ _ e => e))
                     clear h7 f7 k0)
                  )
                  go_ret
                  rw [hw.out, Hb2.out]
                  exact ⟨rfl, HR7.out, HF1.out.trans HF7.out (fun _ _ e => e)⟩
          · obtain rfl : i = L := by omega
            go_wp2_with fail
            go_ret
            rw [hw.out, HW.out]
            exact ⟨rfl, HR.out, HF1.out.trans HF.out (fun _ _ e => e)⟩
      · have hw : Hid (dWrite d (o : Int) (L : Int) b = (d, 2)) := Lib.hid (by unfold dWrite; rw [if_pos hg, if_neg (by omega)])
        have hne : ((n : Int) != 16 * (L : Int)) = true := by simp; omega
        clear hg
        go_wp2_with fail
        go_ret
        rw [hw.out]
        exact ⟨rfl, H1.out, HF1.out⟩
end
section
variable {w : World} {p g mb q r c : Nat} {d : Dsk}
theorem r_Extent (h : Rk w q r c d) (x : Int) (hx : -9223372036854775808 ≤ x ∧ x ≤ 9223372036854775807) : Calls Tryz.prog 84 #[.pointer (some ⟨q, 0, none⟩), .int .i64 x] w fun e w' => ∃ A2 c2, e = .returned (.tuple #[.slice A2 (dRead d (whole x).1 (whole x).2).1.length c2, .int .i64 ((dRead d (whole x).1 (whole x).2).2 : Int)]) ∧ Tw.Own w' w.heap.size 5 1 A2 (dRead d (whole x).1 (whole x).2).1.length c2 (bytesV (dRead d (whole x).1 (whole x).2).1) ∧ Below w.heap.size w w' := by
  have H := Lib.hid h
  clear h
  go_enter Tryz.func84, Tryz.ntmps84
  go_wp2_with (first
    | (go_at_call 139
       (with_reducible refine (r_Whole x _ hx).mono ?_)
       rintro e w1 ⟨rfl, hb1⟩
       have H := Lib.hid (H.out.bel hb1)
       have HB := Lib.hid hb1
       unfold spanV
       clear hb1)
    | (go_at_call 93
       (with_reducible refine (r_dRead H.out _ _).mono ?_)
       rintro e w2 ⟨A2, c2, rfl, ho2, hb2⟩
       have HO := Lib.hid (Tw.Own.mono ho2 HB.out.size)
       have HB := Lib.hid (HB.out.trans (hb2.mono HB.out.size))
       clear ho2 hb2))
  go_ret2
  exact ⟨A2, c2, rfl, HO.out, HB.out⟩
theorem r_SetExtent (h : Rk w q r c d) (ho : d.ops + 1024 < 1000000000) (x : Int) (hx : -9223372036854775808 ≤ x ∧ x ≤ 9223372036854775807) (A : Option Addr) (n cb : Nat) (b : List UInt8) (hb : Byt w A n cb b) (hA : ∀ ad, A = some ad → 0 < n → ad.block ≠ q ∧ ad.block ≠ r) : Calls Tryz.prog 91 #[.pointer (some ⟨q, 0, none⟩), .int .i64 x, .slice A n cb] w fun e w' => e = .returned (.int .i64 ((dWrite d (whole x).1 (whole x).2 b).2 : Int)) ∧ Rk w' q r c (dWrite d (whole x).1 (whole x).2 b).1 ∧ Fr (fun k => k = q ∨ k = r) w w' := by
  have H := Lib.hid h
  have Hb := Lib.hid hb
  have HA := Lib.hid hA
  clear h hb hA
  go_enter Tryz.func91, Tryz.ntmps91
  go_wp2_with (first
    | (go_at_call 139
       (with_reducible refine (r_Whole x _ hx).mono ?_)
       rintro e w1 ⟨rfl, hb1⟩
       have H := Lib.hid (H.out.bel hb1)
       have Hb := Lib.hid (Hb.out.bel hb1)
       have HB := Lib.hid hb1
       unfold spanV
       clear hb1)
    | (go_at_call 147
       (with_reducible refine (r_dWrite H.out ho _ _ A n cb b Hb.out HA.out).mono ?_)
       rintro e w2 ⟨rfl, h2, f2⟩
       have H2 := Lib.hid h2
       have F2 := Lib.hid ((Fr.of_bel HB.out).trans f2 (fun _ _ e => e))
       clear h2 f2))
  go_ret
  exact ⟨rfl, H2.out, F2.out⟩
theorem r_Image (h : Rk w q r c d) : Calls Tryz.prog 47 #[.pointer (some ⟨q, 0, none⟩)] w fun e w' => ∃ A2 c2, e = .returned (.slice A2 (img d).length c2) ∧ Tw.Own w' w.heap.size 5 1 A2 (img d).length c2 (bytesV (img d)) ∧ Below w.heap.size w w' := by
  have H := Lib.hid h
  clear h
  by_cases he : (dRead d 0 (secs d)).2 = 0
  · have He := Lib.hid he
    clear he
    go_enter Tryz.func47, Tryz.ntmps47
    go_wp2_with (first
      | (go_at_call 94
         (with_reducible refine (r_Sectors H.out).mono ?_)
         rintro e w' ⟨rfl, rfl⟩)
      | (go_at_call 93
         refine (r_dRead H.out 0 (secs d)).mono ?_
         rintro e w1 ⟨A2, c2, rfl, ho, hb⟩
         rw [He.out]))
    go_ret
    exact ⟨A2, c2, rfl, ho, hb⟩
  · have hne : (((dRead d 0 (secs d)).2 : Int) != 0) = true := by simp; omega
    have hi : Hid (img d = []) := Lib.hid (dRead_err he)
    clear he
    go_enter Tryz.func47, Tryz.ntmps47
    go_wp2_with (first
      | (go_at_call 94
         (with_reducible refine (r_Sectors H.out).mono ?_)
         rintro e w' ⟨rfl, rfl⟩)
      | (go_at_call 93
         refine (r_dRead H.out 0 (secs d)).mono ?_
         rintro e w1 ⟨A2, c2, rfl, ho, hb⟩))
    go_ret
    rw [hi.out]
    exact ⟨none, 0, rfl, World.ownsRow_nil _ _ _ _, hb⟩
end
end Go.Proofs.YtaldlapnhhhclaaGreat.Data
/- Acts of three cells (a kind, a place, a mask), and the operations of a put. Conditions: none. -/
namespace Go.Proofs.YtaldlapnhhhclaaGreat.Act3
open Go.RowKit Tw Disk Slots
set_option maxHeartbeats 1000000
def actV (k a : Int) (m : Nat) : List Value := [.int .i64 k, .int .i64 a, .int .u64 (m : Int)]
def ActL : List Leaf := [.int .i64, .int .i64, .int .u64]
theorem act_of {W : World} {r : List Value} (h : RowOk W ActL r) :
    ∃ (k a : Int) (m : Nat), r = actV k a m ∧ (-9223372036854775808 ≤ a ∧ a ≤ 9223372036854775807) ∧ m < 18446744073709551616 := by
  obtain ⟨v1, r1, rfl, k1, h⟩ := rowOk_cons h
  obtain ⟨v2, r2, rfl, k2, h⟩ := rowOk_cons h
  obtain ⟨v3, r3, rfl, k3, h⟩ := rowOk_cons h
  obtain rfl := rowOk_nil h
  obtain ⟨z1, rfl, q1⟩ := leaf_i64 k1
  obtain ⟨z2, rfl, q2⟩ := leaf_i64 k2
  obtain ⟨z3, rfl, q3⟩ := leaf_u64 k3
  exact ⟨z1, z2, z3, rfl, q2, q3⟩
def act0 : Array Value := #[.int .i64 0, .int .i64 0, .int .u64 0]
theorem act_one {k a : Int} {m : Nat} : ∀ v ∈ (actV k a m).toArray, v.oneCell' = true := by simp [actV, Value.oneCell']
theorem act4 {W : World} {g : Nat} {k a : Int} {m : Nat} {t : TypeId} (h : W.heap[g]? = some (.cells (actV k a m).toArray t (0, 0))) :
    W.cell? ⟨g, 0, none⟩ = some (.int .i64 k) ∧ W.cell? ⟨g, 1, none⟩ = some (.int .i64 a) ∧ W.cell? ⟨g, 2, none⟩ = some (.int .u64 (m : Int)) :=
  ⟨cells_at h 0 _ rfl, cells_at h 1 _ rfl, cells_at h 2 _ rfl⟩
theorem rput_ops (b s : Int) (d : Dsk) (x : Nat) : (rput b s d x).1.ops ≤ d.ops + 2 := by
  have h := sput_ops d b s x
  unfold rput
  (repeat' split) <;> first | exact h | exact Nat.le_add_right _ _
theorem dclear_ops (d : Dsk) (x : Int) : (dclear d x).1.ops ≤ d.ops + 2 := by
  have h := fun m => rput_ops 6 2 d m
  unfold dclear dput
  (repeat' split) <;> exact h _
theorem mretire_ops (d : Dsk) (m : Nat) : (mretire d m).1.ops ≤ d.ops + 4 := by
  have h1 := fun d m => rput_ops 6 2 d m
  have h2 := fun d m => rput_ops 2 4 d m
  unfold mretire dput aput
  have ha := h1 d m
  have hb := h2 (rput 6 2 d m).1 0
  (repeat' split) <;> omega
end Go.Proofs.YtaldlapnhhhclaaGreat.Act3
/- Contracts of the package pack's reference: Good, Name; Name of the package. Conditions: none. -/
namespace Go.Proofs.YtaldlapnhhhclaaGreat.Pack
open Go.RowKit Tw
set_option maxHeartbeats 8000000
set_option maxRecDepth 100000
theorem c_hasWas (k : Int) (w : World) : Calls Tryz.prog 143 #[.int .i64 k] w fun e w' => e = .returned (.bool (kW k)) ∧ w = w' := by
  unfold kW
  go_enter Tryz.func143, Tryz.ntmps143
  go_wp2_with fail
  all_goals
    go_ret
    refine ⟨Span.ret_bool rfl ?_, rfl⟩
    rw [Bool.eq_iff_iff]
    simp only [decide_eq_true_eq, Bool.false_eq_true, Bool.true_eq_false, Bool.and_eq_true, Bool.or_eq_true, true_iff, false_iff]
    (try simp only [beq_iff_eq, bne_iff_ne, beq_eq_false_iff_ne, bne_eq_false_iff_eq, Bool.not_eq_true, Bool.not_eq_false] at *)
    (try omega)
theorem c_hasId (k : Int) (w : World) : Calls Tryz.prog 144 #[.int .i64 k] w fun e w' => e = .returned (.bool (kI k)) ∧ w = w' := by
  unfold kI
  go_enter Tryz.func144, Tryz.ntmps144
  go_wp2_with fail
  all_goals
    go_ret
    refine ⟨Span.ret_bool rfl ?_, rfl⟩
    rw [Bool.eq_iff_iff]
    simp only [decide_eq_true_eq, Bool.false_eq_true, Bool.true_eq_false, Bool.and_eq_true, Bool.or_eq_true, true_iff, false_iff]
    (try simp only [beq_iff_eq, bne_iff_ne, beq_eq_false_iff_ne, bne_eq_false_iff_eq, Bool.not_eq_true, Bool.not_eq_false] at *)
    (try omega)
theorem c_hasOff (k : Int) (w : World) : Calls Tryz.prog 145 #[.int .i64 k] w fun e w' => e = .returned (.bool (kO k)) ∧ w = w' := by
  unfold kO
  go_enter Tryz.func145, Tryz.ntmps145
  go_wp2_with fail
  all_goals
    go_ret
    refine ⟨Span.ret_bool rfl ?_, rfl⟩
    rw [Bool.eq_iff_iff]
    simp only [decide_eq_true_eq, Bool.false_eq_true, Bool.true_eq_false, Bool.and_eq_true, Bool.or_eq_true, true_iff, false_iff]
    (try simp only [beq_iff_eq, bne_iff_ne, beq_eq_false_iff_ne, bne_eq_false_iff_eq, Bool.not_eq_true, Bool.not_eq_false] at *)
    (try omega)
theorem c_hasData (k : Int) (w : World) : Calls Tryz.prog 146 #[.int .i64 k] w fun e w' => e = .returned (.bool (kD k)) ∧ w = w' := by
  unfold kD
  go_enter Tryz.func146, Tryz.ntmps146
  go_wp2_with fail
  all_goals
    go_ret
    refine ⟨Span.ret_bool rfl ?_, rfl⟩
    rw [Bool.eq_iff_iff]
    simp only [decide_eq_true_eq, Bool.false_eq_true, Bool.true_eq_false, Bool.and_eq_true, Bool.or_eq_true, true_iff, false_iff]
    (try simp only [beq_iff_eq, bne_iff_ne, beq_eq_false_iff_ne, bne_eq_false_iff_eq, Bool.not_eq_true, Bool.not_eq_false] at *)
    (try omega)
theorem c_rGood (k i o : Int) (m : Nat) (wb : Bool) (A : Option Addr) (n cp : Nat) (w : World) :
    Calls Tryz.prog 90 #[.agg #[.int .i64 k, .int .i64 i, .int .i64 o, .int .u64 (m : Int), .bool wb, .slice A n cp]] w fun e w' => e = .returned (.bool (decide (Good k i o m wb n))) ∧ Below w.heap.size w w' := by
  have HB := Lib.hid ((Below.refl _ _).alloc (Nat.le_refl w.heap.size) (.cells #[.int .i64 k, .int .i64 i, .int .i64 o, .int .u64 (m : Int), .bool wb, .slice A n cp] 25))
  have HX := Lib.hid (heap_alloc_new w (.cells #[.int .i64 k, .int .i64 i, .int .i64 o, .int .u64 (m : Int), .bool wb, .slice A n cp] 25))
  have hW := fun w => c_hasWas k w
  have hI := fun w => c_hasId k w
  have hO := fun w => c_hasOff k w
  have hD := fun w => c_hasData k w
  obtain ⟨a, ha⟩ : ∃ s, kW k = s := ⟨_, rfl⟩
  obtain ⟨b, hb⟩ : ∃ s, kI k = s := ⟨_, rfl⟩
  obtain ⟨c, hc⟩ : ∃ s, kO k = s := ⟨_, rfl⟩
  obtain ⟨d, hd⟩ : ∃ s, kD k = s := ⟨_, rfl⟩
  rw [ha] at hW
  rw [hb] at hI
  rw [hc] at hO
  rw [hd] at hD
  have Ha := Lib.hid ha
  have Hb := Lib.hid hb
  have Hc := Lib.hid hc
  have Hd := Lib.hid hd
  clear ha hb hc hd
  obtain ⟨M, hM⟩ : ∃ M : Int, (m : Int) = M := ⟨_, rfl⟩
  rw [hM] at HB HX
  have HM := Lib.hid hM
  obtain ⟨k0, k1, k2, k3, k4, k5⟩ := Bx.cells6 HX.out
  clear hM
  go_enter Tryz.func90, Tryz.ntmps90
  go_upto_region 1 with (fail)
  rw [HM.out]
  generalize w.alloc (.cells #[.int .i64 k, .int .i64 i, .int .i64 o, .int .u64 M, .bool wb, .slice A n cp] 25) = W1 at *
  go_wp2_with (first
    | (go_at_call 143
       (with_reducible refine (hW _).mono ?_)
       rintro e w5 ⟨rfl, rfl⟩)
    | (go_at_call 144
       (with_reducible refine (hI _).mono ?_)
       rintro e w5 ⟨rfl, rfl⟩)
    | (go_at_call 145
       (with_reducible refine (hO _).mono ?_)
       rintro e w5 ⟨rfl, rfl⟩)
    | (go_at_call 146
       (with_reducible refine (hD _).mono ?_)
       rintro e w5 ⟨rfl, rfl⟩))
  all_goals
    go_ret
    refine ⟨Span.ret_bool rfl ?_, HB.out⟩
    rw [Bool.eq_iff_iff]
    have h1 := Ha.out
    have h2 := Hb.out
    have h3 := Hc.out
    have h4 := Hd.out
    have h7 := HM.out
    clear Ha Hb Hc Hd HM
    subst h1 h2 h3 h4 h7
    clear HX HB k0 k1 k2 k3 k4 k5
    (try simp only [kW, kI, kO, kD, kk, decide_eq_true_eq, Bool.false_eq_true, Bool.true_eq_false, true_iff, false_iff, Bool.and_eq_true, Bool.or_eq_true, beq_iff_eq, bne_iff_ne, beq_eq_false_iff_ne, bne_eq_false_iff_eq, Bool.not_eq_true, Bool.not_eq_false, Bool.not_eq_true', Bool.not_eq_false', decide_eq_false_iff_not] at *)
    unfold Good
    cases wb
    all_goals
      (simp only [Bool.false_eq_true, Bool.true_eq_false, true_and, false_and, and_true, and_false, or_false, false_or, or_true, true_or, decide_eq_true_eq, decide_eq_false_iff_not] at *) <;> omega
end Go.Proofs.YtaldlapnhhhclaaGreat.Pack
/- The package copying and its reference (twainref29) on a disk, exactly: Give, Put, Told; two messages alike. Conditions: at most 10^9 operations. -/
namespace Go.Proofs.YtaldlapnhhhclaaGreat.Copying
open Go.RowKit Tw Disk Slots Go.Proofs.YtaldlapnhhhclaaGreat.Data
set_option maxHeartbeats 8000000
set_option maxRecDepth 100000
/-- what Give tells: the error, the message's kind and place, the bytes -/
def gE (d : Dsk) (x : Int) : Nat := (dRead d (whole x).1 (whole x).2).2
def gB (d : Dsk) (x : Int) : List UInt8 := (dRead d (whole x).1 (whole x).2).1
def gK (E : Nat) : Int := if E = 0 then 6 else 0
def gO (E : Nat) (x : Int) : Int := if E = 0 then x else 0
theorem gB_bad {d : Dsk} {x : Int} (h : gE d x ≠ 0) : gB d x = [] := dRead_err h
section
variable {w : World} {p g mb c q r : Nat} {d : Dsk}
theorem c_GiveE (h : Dk w p g mb c d) (x : Int) (hx : -9223372036854775808 ≤ x ∧ x ≤ 9223372036854775807) : Calls Tryz.prog 40 #[.pointer (some ⟨p, 0, none⟩), .int .i64 x] w fun e w' => ∃ A2 c2, e = .returned (.tuple #[.agg (msV (gK (gE d x)) 0 (gO (gE d x) x) 0 false A2 (gB d x).length c2).toArray, .int .i64 (gE d x : Int)]) ∧ (Byt w' A2 (gB d x).length c2 (gB d x) ∧ ∀ ad, A2 = some ad → w.heap.size ≤ ad.block ∧ ad.block < w'.heap.size) ∧ Below w.heap.size w w' := by
  have HB := Lib.hid ((Below.refl w.heap.size w).alloc (Nat.le_refl _) (.cells m0 25))
  have HX := Lib.hid (heap_alloc_new w (.cells m0 25))
  unfold m0 at HB HX
  have H := Lib.hid (h.bel HB.out)
  have hbad := @gB_bad d x
  obtain ⟨⟨t, E⟩, hr⟩ : ∃ r, dRead d (whole x).1 (whole x).2 = r := ⟨_, rfl⟩
  have h1 : gE d x = E := by unfold gE; rw [hr]
  have h2 : gB d x = t := by unfold gB; rw [hr]
  rw [h1, h2] at hbad
  rw [h1, h2]
  have HR := Lib.hid hr
  clear h hr h1 h2
  by_cases he : E = 0
  · subst he
    simp only [gK, gO, if_pos]
    clear hbad
    go_enter Tryz.func40, Tryz.ntmps40
    go_wp2_with (first
      | (go_at_call 75
         (with_reducible refine (c_ExtentE H.out x hx).mono ?_)
         rw [HR.out]
         rintro e w2 ⟨A2, c2, rfl, ho2, hb2⟩
         have HX := Lib.hid ((hb2.block _ (heap_lt HX.out)).trans HX.out)
         have HO := Lib.hid ho2
         have HB := Lib.hid (HB.out.trans (hb2.mono HB.out.size))
         clear hb2 ho2)
      | (refine wpL_store_all rfl rfl 25 (.tmp 4) (.tmp 20) rfl _ rfl _ rfl _ _ HX.out (by kernel_rfl) rfl (by simp [Value.oneCell']) ?_
         intro w8 x8 g8
         have HX8 := Lib.hid x8
         have HB8 := Lib.hid (HB.out.grown g8 HB.out.size (by rintro k ⟨⟩; exact Nat.le_refl _))
         have G8 := Lib.hid g8
         clear x8 g8)
      )
    refine bodyPost_ret (results_cell2 rfl _ _ w.heap.size _ _ (0, 0) _ rfl HX8.out Tryz.underlying25 rfl (by kernel_rfl) _ rfl) rfl ?_
    exact ⟨A2, c2, rfl, ⟨Tw.Own.rd (HO.out.kept G8.out (own_apart HO.out (by rintro k ⟨⟩; simp))), fun ad e => by have := Tw.Own.at0 HO.out ad e; have := G8.out.size; simp only [World.size_alloc] at *; omega⟩, HB8.out⟩
  · have ht := hbad he
    subst ht
    have hne : ((E : Int) != 0) = true := by simp; omega
    simp only [gK, gO, if_neg he]
    clear hbad he
    go_enter Tryz.func40, Tryz.ntmps40
    go_wp2_with (first
      | (go_at_call 75
         (with_reducible refine (c_ExtentE H.out x hx).mono ?_)
         rw [HR.out]
         rintro e w2 ⟨A2, c2, rfl, ho2, hb2⟩
         have HX := Lib.hid ((hb2.block _ (heap_lt HX.out)).trans HX.out)
         have HB := Lib.hid (HB.out.trans (hb2.mono HB.out.size))
         clear hb2 ho2)
      | (refine wpL_store_all rfl rfl 25 (.tmp 4) (.tmp 16) rfl _ rfl _ rfl _ _ HX.out (by kernel_rfl) rfl (by simp [Value.oneCell']) ?_
         intro w8 x8 g8
         have HX8 := Lib.hid x8
         have HB8 := Lib.hid (HB.out.grown g8 HB.out.size (by rintro k ⟨⟩; exact Nat.le_refl _))
         have G8 := Lib.hid g8
         clear x8 g8)
      )
    refine bodyPost_ret (results_cell2 rfl _ _ w.heap.size _ _ (0, 0) _ rfl HX8.out Tryz.underlying25 rfl (by kernel_rfl) _ rfl) rfl ?_
    exact ⟨none, 0, rfl, ⟨Rd.nil_, fun ad e => by cases e⟩, HB8.out⟩
theorem r_Give (h : Rk w q r c d) (x : Int) (hx : -9223372036854775808 ≤ x ∧ x ≤ 9223372036854775807) : Calls Tryz.prog 41 #[.pointer (some ⟨q, 0, none⟩), .int .i64 x] w fun e w' => ∃ A2 c2, e = .returned (.tuple #[.agg (msV (gK (gE d x)) 0 (gO (gE d x) x) 0 false A2 (gB d x).length c2).toArray, .int .i64 (gE d x : Int)]) ∧ (Byt w' A2 (gB d x).length c2 (gB d x) ∧ ∀ ad, A2 = some ad → w.heap.size ≤ ad.block ∧ ad.block < w'.heap.size) ∧ Below w.heap.size w w' := by
  have HB := Lib.hid ((Below.refl w.heap.size w).alloc (Nat.le_refl _) (.cells m0 25))
  have HX := Lib.hid (heap_alloc_new w (.cells m0 25))
  unfold m0 at HB HX
  have H := Lib.hid (h.bel HB.out)
  have hbad := @gB_bad d x
  obtain ⟨⟨t, E⟩, hr⟩ : ∃ r, dRead d (whole x).1 (whole x).2 = r := ⟨_, rfl⟩
  have h1 : gE d x = E := by unfold gE; rw [hr]
  have h2 : gB d x = t := by unfold gB; rw [hr]
  rw [h1, h2] at hbad
  rw [h1, h2]
  have HR := Lib.hid hr
  clear h hr h1 h2
  by_cases he : E = 0
  · subst he
    simp only [gK, gO, if_pos]
    clear hbad
    go_enter Tryz.func41, Tryz.ntmps41
    go_wp2_with (first
      | (go_at_call 84
         (with_reducible refine (r_Extent H.out x hx).mono ?_)
         rw [HR.out]
         rintro e w2 ⟨A2, c2, rfl, ho2, hb2⟩
         have HX := Lib.hid ((hb2.block _ (heap_lt HX.out)).trans HX.out)
         have HO := Lib.hid ho2
         have HB := Lib.hid (HB.out.trans (hb2.mono HB.out.size))
         clear hb2 ho2)
      | (refine wpL_store_all rfl rfl 25 (.tmp 4) (.tmp 20) rfl _ rfl _ rfl _ _ HX.out (by kernel_rfl) rfl (by simp [Value.oneCell']) ?_
         intro w8 x8 g8
         have HX8 := Lib.hid x8
         have HB8 := Lib.hid (HB.out.grown g8 HB.out.size (by rintro k ⟨⟩; exact Nat.le_refl _))
         have G8 := Lib.hid g8
         clear x8 g8)
      )
    refine bodyPost_ret (results_cell2 rfl _ _ w.heap.size _ _ (0, 0) _ rfl HX8.out Tryz.underlying25 rfl (by kernel_rfl) _ rfl) rfl ?_
    exact ⟨A2, c2, rfl, ⟨Tw.Own.rd (HO.out.kept G8.out (own_apart HO.out (by rintro k ⟨⟩; simp))), fun ad e => by have := Tw.Own.at0 HO.out ad e; have := G8.out.size; simp only [World.size_alloc] at *; omega⟩, HB8.out⟩
  · have ht := hbad he
    subst ht
    have hne : ((E : Int) != 0) = true := by simp; omega
    simp only [gK, gO, if_neg he]
    clear hbad he
    go_enter Tryz.func41, Tryz.ntmps41
    go_wp2_with (first
      | (go_at_call 84
         (with_reducible refine (r_Extent H.out x hx).mono ?_)
         rw [HR.out]
         rintro e w2 ⟨A2, c2, rfl, ho2, hb2⟩
         have HX := Lib.hid ((hb2.block _ (heap_lt HX.out)).trans HX.out)
         have HB := Lib.hid (HB.out.trans (hb2.mono HB.out.size))
         clear hb2 ho2)
      | (refine wpL_store_all rfl rfl 25 (.tmp 4) (.tmp 16) rfl _ rfl _ rfl _ _ HX.out (by kernel_rfl) rfl (by simp [Value.oneCell']) ?_
         intro w8 x8 g8
         have HX8 := Lib.hid x8
         have HB8 := Lib.hid (HB.out.grown g8 HB.out.size (by rintro k ⟨⟩; exact Nat.le_refl _))
         have G8 := Lib.hid g8
         clear x8 g8)
      )
    refine bodyPost_ret (results_cell2 rfl _ _ w.heap.size _ _ (0, 0) _ rfl HX8.out Tryz.underlying25 rfl (by kernel_rfl) _ rfl) rfl ?_
    exact ⟨none, 0, rfl, ⟨Rd.nil_, fun ad e => by cases e⟩, HB8.out⟩
/-- what Told does -/
def ctold (d : Dsk) (x : Int) : Dsk × Nat × Nat := if 0 ≤ x ∧ x ≤ 63 then dclear d x else (d, 0, 2)
theorem ctold_ops (d : Dsk) (x : Int) : (ctold d x).1.ops ≤ d.ops + 2 := by
  have := Act3.dclear_ops d x
  unfold ctold
  split
  · exact this
  · exact Nat.le_add_right _ _
theorem c_ToldE (h : Dk w p g mb c d) (ho : d.ops + 1 < 1000000000) (x : Int) : Calls Tryz.prog 45 #[.pointer (some ⟨p, 0, none⟩), .int .i64 x] w fun e w' => e = .returned (.tuple #[.int .u64 ((ctold d x).2.1 : Int), .int .i64 ((ctold d x).2.2 : Int)]) ∧ Dk w' p g mb c (ctold d x).1 ∧ Fr (fun k => k = p ∨ k = g ∨ k = mb) w w' := by
  have H := Lib.hid h
  have hc := Dirty.c_ClearE h ho x
  clear h
  by_cases h1 : x < 0
  · rw [show ctold d x = (d, 0, 2) from if_neg (by omega)]
    clear hc
    go_enter Tryz.func45, Tryz.ntmps45
    go_wp2_with fail
    go_ret2
    exact ⟨rfl, H.out, Fr.refl _ _⟩
  · by_cases h2 : 63 < x
    · have h3 : 64 ≤ x := by omega
      rw [show ctold d x = (d, 0, 2) from if_neg (by omega)]
      clear hc
      go_enter Tryz.func45, Tryz.ntmps45
      go_wp2_with fail
      go_ret2
      exact ⟨rfl, H.out, Fr.refl _ _⟩
    · have h3 : ¬ 64 ≤ x := by omega
      rw [show ctold d x = dclear d x from if_pos (by omega)]
      generalize dclear d x = R at *
      go_enter Tryz.func45, Tryz.ntmps45
      go_wp2_with (first
        | (go_at_call 25
           (with_reducible refine hc.mono ?_)
           rintro e w1 ⟨rfl, hk1, f1⟩
           have HK1 := Lib.hid hk1
           have HF1 := Lib.hid f1
           clear hk1 f1 hc))
      go_ret2
      exact ⟨rfl, HK1.out, HF1.out⟩
theorem r_Told (h : Rk w q r c d) (ho : d.ops + 1 < 1000000000) (x : Int) : Calls Tryz.prog 46 #[.pointer (some ⟨q, 0, none⟩), .int .i64 x] w fun e w' => e = .returned (.tuple #[.int .u64 ((ctold d x).2.1 : Int), .int .i64 ((ctold d x).2.2 : Int)]) ∧ Rk w' q r c (ctold d x).1 ∧ Fr (fun k => k = q ∨ k = r) w w' := by
  have H := Lib.hid h
  have hc := r_dClear h ho x
  clear h
  by_cases h1 : x < 0
  · rw [show ctold d x = (d, 0, 2) from if_neg (by omega)]
    clear hc
    go_enter Tryz.func46, Tryz.ntmps46
    go_wp2_with fail
    go_ret2
    exact ⟨rfl, H.out, Fr.refl _ _⟩
  · by_cases h2 : 63 < x
    · have h3 : 64 ≤ x := by omega
      rw [show ctold d x = (d, 0, 2) from if_neg (by omega)]
      clear hc
      go_enter Tryz.func46, Tryz.ntmps46
      go_wp2_with fail
      go_ret2
      exact ⟨rfl, H.out, Fr.refl _ _⟩
    · have h3 : ¬ 64 ≤ x := by omega
      rw [show ctold d x = dclear d x from if_pos (by omega)]
      generalize dclear d x = R at *
      go_enter Tryz.func46, Tryz.ntmps46
      go_wp2_with (first
        | (go_at_call 26
           (with_reducible refine hc.mono ?_)
           rintro e w1 ⟨rfl, hk1, f1⟩
           have HK1 := Lib.hid hk1
           have HF1 := Lib.hid f1
           clear hk1 f1 hc))
      go_ret2
      exact ⟨rfl, HK1.out, HF1.out⟩
end
theorem rgood_ms (k i x : Int) (m : Nat) (wb : Bool) (A : Option Addr) (n cb : Nat) (w : World) : Calls Tryz.prog 90 #[.agg (msV k i x m wb A n cb).toArray] w fun e w' => e = .returned (.bool (decide (Pack.Good k i x m wb n))) ∧ Below w.heap.size w w' := Pack.c_rGood k i x m wb A n cb w
section
variable {w : World} {q r c : Nat} {d : Dsk}
theorem r_Put (h : Rk w q r c d) (ho : d.ops + 1030 < 1000000000) (k i x : Int) (m : Nat) (wb : Bool) (A : Option Addr) (n cb : Nat) (b : List UInt8) (hx : -9223372036854775808 ≤ x ∧ x ≤ 9223372036854775807) (hb : Byt w A n cb b) (hA : ∀ ad, A = some ad → 0 < n → ad.block ≠ q ∧ ad.block ≠ r) (hw1 : (dWrite d (whole x).1 (whole x).2 b).1.ops ≤ d.ops + 1024) (hw2 : (dWrite d (whole x).1 (whole x).2 b).1.flush.1.ops ≤ d.ops + 1025) :
    Calls Tryz.prog 44 #[.pointer (some ⟨q, 0, none⟩), .agg (msV k i x m wb A n cb).toArray] w fun e w' => e = .returned (.tuple #[.agg (told x (cputM d k i x m wb n b).2), .int .i64 ((cputM d k i x m wb n b).2 : Int)]) ∧ Rk w' q r c (cputM d k i x m wb n b).1 ∧ Fr (fun k => k = q ∨ k = r) w w' := by
  have hlt := h.lts
  obtain ⟨W2, hW2, x1, x2, hB⟩ := Actlog.two_boxes w (.cells (msV k i x m wb A n cb).toArray 25) (.cells m0 25)
  have hsz : w.heap.size + 2 ≤ W2.heap.size := by rw [hW2]; simp [World.size_alloc]
  simp only [m0] at hW2 x2
  have e0 := (ms6 x1).1
  have e2 := (ms6 x1).2.1
  have e5 := (ms6 x1).2.2
  have X1 := Lib.hid x1
  have X2 := Lib.hid x2
  have HB := Lib.hid hB
  have HW := Lib.hid hW2
  have H := Lib.hid (h.bel (HB.out.mono (by omega)))
  have Hb := Lib.hid (hb.bel (HB.out.mono (by omega)))
  have HA := Lib.hid hA
  clear x1 x2 hB hW2 h hb hA
  by_cases hk : k = 6
  · by_cases hg : Pack.Good k i x m wb n
    · rw [show cputM d k i x m wb n b = cput d x b from if_pos ⟨hk, hg⟩]
      obtain ⟨⟨d1, E1⟩, hs1⟩ : ∃ r, dWrite d (whole x).1 (whole x).2 b = r := ⟨_, rfl⟩
      rw [hs1] at hw1 hw2
      simp only at hw1 hw2
      obtain ⟨⟨d2, E2⟩, hs2⟩ : ∃ r, d1.flush = r := ⟨_, rfl⟩
      rw [hs2] at hw2
      simp only at hw2
      obtain ⟨⟨d3, y, E3⟩, hs3⟩ : ∃ r, dclear d2 x = r := ⟨_, rfl⟩
      have hcp : cput d x b = (if E1 = 0 then if E2 = 0 then d3 else d2 else d1, if E1 = 0 then if E2 = 0 then E3 else E2 else E1) := by
        unfold cput
        rw [hs1]
        simp only
        rw [hs2]
        simp only
        rw [hs3]
        by_cases q1 : E1 = 0
        · by_cases q2 : E2 = 0
          · simp [q1, q2]
          · simp [q1, q2]
        · simp [q1]
      rw [hcp]
      have Hg := Lib.hid (decide_eq_true hg)
      have hk2 : (k != 6) = false := by simp [hk]
      have S1 := Lib.hid hs1
      have S2 := Lib.hid hs2
      have hcl := fun W (hW : Rk W q r c d2) => r_dClear hW (by omega) x
      rw [hs3] at hcl
      simp only at hcl
      have Hcl := Lib.hid hcl
      clear hs1 hs2 hs3 hcp hg hk hcl
      by_cases z1 : E1 = 0
      · subst z1
        by_cases z2 : E2 = 0
        · subst z2
          simp only [if_pos]
          by_cases z3 : E3 = 0
          · subst z3
            go_enter Tryz.func44, Tryz.ntmps44
            go_upto_region 1 with (fail)
            rw [← HW.out]
            go_wp2_with (first
              | (refine wpL_load_rdG rfl 25 (.tmp 3) rfl ⟨w.heap.size, 0, none⟩ rfl (msV k i x m wb A n cb) _ ((rd_of_heap (n := 6) X1.out rfl (by simp [maxLen])).cell _ rfl) Tryz.underlying25 rfl (by kernel_rfl) ?_)
              | (go_at_call 90
                 (with_reducible refine (rgood_ms k i x m wb A n cb _).mono ?_)
                 rintro e w2 ⟨rfl, hb2⟩
                 rw [Hg.out]
                 have X1 := Lib.hid ((hb2.block _ (heap_lt X1.out)).trans X1.out)
                 have X2 := Lib.hid ((hb2.block _ (heap_lt X2.out)).trans X2.out)
                 have HB := Lib.hid (HB.out.trans (hb2.mono HB.out.size))
                 have H := Lib.hid (H.out.bel hb2)
                 have Hb := Lib.hid (Hb.out.bel hb2)
                 have hsz := Nat.le_trans hsz hb2.size
                 clear e0 e2 e5
                 obtain ⟨e0, e2, e5⟩ := ms6 X1.out
                 clear hb2)
              | (go_at_call 91
                 (with_reducible refine (r_SetExtent H.out (by omega) x hx A n cb b Hb.out HA.out).mono ?_)
                 rw [S1.out]
                 rintro e w3 ⟨rfl, h3, f3⟩
                 have X1 := Lib.hid (heap_fr X1.out f3 (by omega))
                 have X2 := Lib.hid (heap_fr X2.out f3 (by omega))
                 have HF := Lib.hid ((Fr.of_bel (S := fun k => k = q ∨ k = r) HB.out).trans f3 (fun _ _ e => e))
                 have H := Lib.hid h3
                 have hsz := Nat.le_trans hsz f3.size
                 clear e0 e2 e5 h3 f3
                 obtain ⟨e0, e2, e5⟩ := ms6 X1.out)
              | (go_at_call 92
                 (with_reducible refine (r_Flush H.out (by omega)).mono ?_)
                 rw [S2.out]
                 rintro e w4 ⟨rfl, h3, f3⟩
                 have X1 := Lib.hid (heap_fr X1.out f3 (by omega))
                 have X2 := Lib.hid (heap_fr X2.out f3 (by omega))
                 have HF := Lib.hid (HF.out.trans f3 (fun _ _ e => e))
                 have H := Lib.hid h3
                 have hsz := Nat.le_trans hsz f3.size
                 clear e0 e2 e5 h3 f3
                 obtain ⟨e0, e2, e5⟩ := ms6 X1.out)
              | (go_at_call 26
                 (with_reducible refine (Hcl.out _ H.out).mono ?_)
                 rintro e w5 ⟨rfl, h3, f3⟩
                 have X1 := Lib.hid (heap_fr X1.out f3 (by omega))
                 have X2 := Lib.hid (heap_fr X2.out f3 (by omega))
                 have HF := Lib.hid (HF.out.trans f3 (fun _ _ e => e))
                 have H := Lib.hid h3
                 have hsz := Nat.le_trans hsz f3.size
                 clear e0 e2 e5 h3 f3
                 obtain ⟨e0, e2, e5⟩ := ms6 X1.out)
              | (refine wpL_store_all rfl rfl 25 (.tmp 4) (.tmp 41) rfl _ rfl _ rfl _ _ X2.out (by kernel_rfl) rfl (by simp [Value.oneCell']) ?_
                 intro w8 x8 g8
                 have HX8 := Lib.hid x8
                 have f8 := Fr.grown (S := fun k => k = w.heap.size + 1) g8 (by rintro k ⟨⟩; rfl)
                 have H8 := Lib.hid (H.out.fr f8 (by omega) (by omega))
                 have HF8 := Lib.hid (HF.out.trans f8 (fun z hz e => by omega))
                 clear x8 g8 f8 e0 e2 e5)
              )
            refine bodyPost_ret (results_cell2 rfl _ _ (w.heap.size + 1) _ _ (0, 0) _ rfl HX8.out Tryz.underlying25 rfl (by kernel_rfl) _ rfl) rfl ?_
            exact ⟨rfl, H8.out, HF8.out⟩
          · rw [show told x E3 = m0 from if_neg z3]
            have hne : ((E3 : Int) != 0) = true := by simp; omega
            clear z3
            go_enter Tryz.func44, Tryz.ntmps44
            go_upto_region 1 with (fail)
            rw [← HW.out]
            go_wp2_with (first
              | (refine wpL_load_rdG rfl 25 (.tmp 3) rfl ⟨w.heap.size, 0, none⟩ rfl (msV k i x m wb A n cb) _ ((rd_of_heap (n := 6) X1.out rfl (by simp [maxLen])).cell _ rfl) Tryz.underlying25 rfl (by kernel_rfl) ?_)
              | (go_at_call 90
                 (with_reducible refine (rgood_ms k i x m wb A n cb _).mono ?_)
                 rintro e w2 ⟨rfl, hb2⟩
                 rw [Hg.out]
                 have X1 := Lib.hid ((hb2.block _ (heap_lt X1.out)).trans X1.out)
                 have X2 := Lib.hid ((hb2.block _ (heap_lt X2.out)).trans X2.out)
                 have HB := Lib.hid (HB.out.trans (hb2.mono HB.out.size))
                 have H := Lib.hid (H.out.bel hb2)
                 have Hb := Lib.hid (Hb.out.bel hb2)
                 have hsz := Nat.le_trans hsz hb2.size
                 clear e0 e2 e5
                 obtain ⟨e0, e2, e5⟩ := ms6 X1.out
                 clear hb2)
              | (go_at_call 91
                 (with_reducible refine (r_SetExtent H.out (by omega) x hx A n cb b Hb.out HA.out).mono ?_)
                 rw [S1.out]
                 rintro e w3 ⟨rfl, h3, f3⟩
                 have X1 := Lib.hid (heap_fr X1.out f3 (by omega))
                 have X2 := Lib.hid (heap_fr X2.out f3 (by omega))
                 have HF := Lib.hid ((Fr.of_bel (S := fun k => k = q ∨ k = r) HB.out).trans f3 (fun _ _ e => e))
                 have H := Lib.hid h3
                 have hsz := Nat.le_trans hsz f3.size
                 clear e0 e2 e5 h3 f3
                 obtain ⟨e0, e2, e5⟩ := ms6 X1.out)
              | (go_at_call 92
                 (with_reducible refine (r_Flush H.out (by omega)).mono ?_)
                 rw [S2.out]
                 rintro e w4 ⟨rfl, h3, f3⟩
                 have X1 := Lib.hid (heap_fr X1.out f3 (by omega))
                 have X2 := Lib.hid (heap_fr X2.out f3 (by omega))
                 have HF := Lib.hid (HF.out.trans f3 (fun _ _ e => e))
                 have H := Lib.hid h3
                 have hsz := Nat.le_trans hsz f3.size
                 clear e0 e2 e5 h3 f3
                 obtain ⟨e0, e2, e5⟩ := ms6 X1.out)
              | (go_at_call 26
                 (with_reducible refine (Hcl.out _ H.out).mono ?_)
                 rintro e w5 ⟨rfl, h3, f3⟩
                 have X1 := Lib.hid (heap_fr X1.out f3 (by omega))
                 have X2 := Lib.hid (heap_fr X2.out f3 (by omega))
                 have HF := Lib.hid (HF.out.trans f3 (fun _ _ e => e))
                 have H := Lib.hid h3
                 have hsz := Nat.le_trans hsz f3.size
                 clear e0 e2 e5 h3 f3
                 obtain ⟨e0, e2, e5⟩ := ms6 X1.out)
              | (refine wpL_store_all rfl rfl 25 (.tmp 4) (.tmp 37) rfl _ rfl _ rfl _ _ X2.out (by kernel_rfl) rfl (by simp [Value.oneCell']) ?_
                 intro w8 x8 g8
                 have HX8 := Lib.hid x8
                 have f8 := Fr.grown (S := fun k => k = w.heap.size + 1) g8 (by rintro k ⟨⟩; rfl)
                 have H8 := Lib.hid (H.out.fr f8 (by omega) (by omega))
                 have HF8 := Lib.hid (HF.out.trans f8 (fun z hz e => by omega))
                 clear x8 g8 f8 e0 e2 e5)
              )
            refine bodyPost_ret (results_cell2 rfl _ _ (w.heap.size + 1) _ _ (0, 0) _ rfl HX8.out Tryz.underlying25 rfl (by kernel_rfl) _ rfl) rfl ?_
            exact ⟨rfl, H8.out, HF8.out⟩
        · simp only [if_pos, if_neg z2]
          rw [show told x E2 = m0 from if_neg z2]
          have hne : ((E2 : Int) != 0) = true := by simp; omega
          have hne2 : ((E2 : Int) == 0) = false := by simp; omega
          clear z2
          go_enter Tryz.func44, Tryz.ntmps44
          go_upto_region 1 with (fail)
          rw [← HW.out]
          go_wp2_with (first
            | (refine wpL_load_rdG rfl 25 (.tmp 3) rfl ⟨w.heap.size, 0, none⟩ rfl (msV k i x m wb A n cb) _ ((rd_of_heap (n := 6) X1.out rfl (by simp [maxLen])).cell _ rfl) Tryz.underlying25 rfl (by kernel_rfl) ?_)
            | (go_at_call 90
               (with_reducible refine (rgood_ms k i x m wb A n cb _).mono ?_)
               rintro e w2 ⟨rfl, hb2⟩
               rw [Hg.out]
               have X1 := Lib.hid ((hb2.block _ (heap_lt X1.out)).trans X1.out)
               have X2 := Lib.hid ((hb2.block _ (heap_lt X2.out)).trans X2.out)
               have HB := Lib.hid (HB.out.trans (hb2.mono HB.out.size))
               have H := Lib.hid (H.out.bel hb2)
               have Hb := Lib.hid (Hb.out.bel hb2)
               have hsz := Nat.le_trans hsz hb2.size
               clear e0 e2 e5
               obtain ⟨e0, e2, e5⟩ := ms6 X1.out
               clear hb2)
            | (go_at_call 91
               (with_reducible refine (r_SetExtent H.out (by omega) x hx A n cb b Hb.out HA.out).mono ?_)
               rw [S1.out]
               rintro e w3 ⟨rfl, h3, f3⟩
               have X1 := Lib.hid (heap_fr X1.out f3 (by omega))
               have X2 := Lib.hid (heap_fr X2.out f3 (by omega))
               have HF := Lib.hid ((Fr.of_bel (S := fun k => k = q ∨ k = r) HB.out).trans f3 (fun _ _ e => e))
               have H := Lib.hid h3
               have hsz := Nat.le_trans hsz f3.size
               clear e0 e2 e5 h3 f3
               obtain ⟨e0, e2, e5⟩ := ms6 X1.out)
            | (go_at_call 92
               (with_reducible refine (r_Flush H.out (by omega)).mono ?_)
               rw [S2.out]
               rintro e w4 ⟨rfl, h3, f3⟩
               have X1 := Lib.hid (heap_fr X1.out f3 (by omega))
               have X2 := Lib.hid (heap_fr X2.out f3 (by omega))
               have HF := Lib.hid (HF.out.trans f3 (fun _ _ e => e))
               have H := Lib.hid h3
               have hsz := Nat.le_trans hsz f3.size
               clear e0 e2 e5 h3 f3
               obtain ⟨e0, e2, e5⟩ := ms6 X1.out)
            | (go_at_call 26
               (with_reducible refine (Hcl.out _ H.out).mono ?_)
               rintro e w5 ⟨rfl, h3, f3⟩
               have X1 := Lib.hid (heap_fr X1.out f3 (by omega))
               have X2 := Lib.hid (heap_fr X2.out f3 (by omega))
               have HF := Lib.hid (HF.out.trans f3 (fun _ _ e => e))
               have H := Lib.hid h3
               have hsz := Nat.le_trans hsz f3.size
               clear e0 e2 e5 h3 f3
               obtain ⟨e0, e2, e5⟩ := ms6 X1.out)
            | (refine wpL_store_all rfl rfl 25 (.tmp 4) (.tmp 37) rfl _ rfl _ rfl _ _ X2.out (by kernel_rfl) rfl (by simp [Value.oneCell']) ?_
               intro w8 x8 g8
               have HX8 := Lib.hid x8
               have f8 := Fr.grown (S := fun k => k = w.heap.size + 1) g8 (by rintro k ⟨⟩; rfl)
               have H8 := Lib.hid (H.out.fr f8 (by omega) (by omega))
               have HF8 := Lib.hid (HF.out.trans f8 (fun z hz e => by omega))
               clear x8 g8 f8 e0 e2 e5)
            )
          refine bodyPost_ret (results_cell2 rfl _ _ (w.heap.size + 1) _ _ (0, 0) _ rfl HX8.out Tryz.underlying25 rfl (by kernel_rfl) _ rfl) rfl ?_
          exact ⟨rfl, H8.out, HF8.out⟩
      · simp only [if_neg z1]
        rw [show told x E1 = m0 from if_neg z1]
        have hne : ((E1 : Int) != 0) = true := by simp; omega
        have hne2 : ((E1 : Int) == 0) = false := by simp; omega
        clear z1
        go_enter Tryz.func44, Tryz.ntmps44
        go_upto_region 1 with (fail)
        rw [← HW.out]
        go_wp2_with (first
          | (refine wpL_load_rdG rfl 25 (.tmp 3) rfl ⟨w.heap.size, 0, none⟩ rfl (msV k i x m wb A n cb) _ ((rd_of_heap (n := 6) X1.out rfl (by simp [maxLen])).cell _ rfl) Tryz.underlying25 rfl (by kernel_rfl) ?_)
          | (go_at_call 90
             (with_reducible refine (rgood_ms k i x m wb A n cb _).mono ?_)
             rintro e w2 ⟨rfl, hb2⟩
             rw [Hg.out]
             have X1 := Lib.hid ((hb2.block _ (heap_lt X1.out)).trans X1.out)
             have X2 := Lib.hid ((hb2.block _ (heap_lt X2.out)).trans X2.out)
             have HB := Lib.hid (HB.out.trans (hb2.mono HB.out.size))
             have H := Lib.hid (H.out.bel hb2)
             have Hb := Lib.hid (Hb.out.bel hb2)
             have hsz := Nat.le_trans hsz hb2.size
             clear e0 e2 e5
             obtain ⟨e0, e2, e5⟩ := ms6 X1.out
             clear hb2)
          | (go_at_call 91
             (with_reducible refine (r_SetExtent H.out (by omega) x hx A n cb b Hb.out HA.out).mono ?_)
             rw [S1.out]
             rintro e w3 ⟨rfl, h3, f3⟩
             have X1 := Lib.hid (heap_fr X1.out f3 (by omega))
             have X2 := Lib.hid (heap_fr X2.out f3 (by omega))
             have HF := Lib.hid ((Fr.of_bel (S := fun k => k = q ∨ k = r) HB.out).trans f3 (fun _ _ e => e))
             have H := Lib.hid h3
             have hsz := Nat.le_trans hsz f3.size
             clear e0 e2 e5 h3 f3
             obtain ⟨e0, e2, e5⟩ := ms6 X1.out)
          | (go_at_call 92
             (with_reducible refine (r_Flush H.out (by omega)).mono ?_)
             rw [S2.out]
             rintro e w4 ⟨rfl, h3, f3⟩
             have X1 := Lib.hid (heap_fr X1.out f3 (by omega))
             have X2 := Lib.hid (heap_fr X2.out f3 (by omega))
             have HF := Lib.hid (HF.out.trans f3 (fun _ _ e => e))
             have H := Lib.hid h3
             have hsz := Nat.le_trans hsz f3.size
             clear e0 e2 e5 h3 f3
             obtain ⟨e0, e2, e5⟩ := ms6 X1.out)
          | (go_at_call 26
             (with_reducible refine (Hcl.out _ H.out).mono ?_)
             rintro e w5 ⟨rfl, h3, f3⟩
             have X1 := Lib.hid (heap_fr X1.out f3 (by omega))
             have X2 := Lib.hid (heap_fr X2.out f3 (by omega))
             have HF := Lib.hid (HF.out.trans f3 (fun _ _ e => e))
             have H := Lib.hid h3
             have hsz := Nat.le_trans hsz f3.size
             clear e0 e2 e5 h3 f3
             obtain ⟨e0, e2, e5⟩ := ms6 X1.out)
          | (refine wpL_store_all rfl rfl 25 (.tmp 4) (.tmp 37) rfl _ rfl _ rfl _ _ X2.out (by kernel_rfl) rfl (by simp [Value.oneCell']) ?_
             intro w8 x8 g8
             have HX8 := Lib.hid x8
             have f8 := Fr.grown (S := fun k => k = w.heap.size + 1) g8 (by rintro k ⟨⟩; rfl)
             have H8 := Lib.hid (H.out.fr f8 (by omega) (by omega))
             have HF8 := Lib.hid (HF.out.trans f8 (fun z hz e => by omega))
             clear x8 g8 f8 e0 e2 e5)
          )
        refine bodyPost_ret (results_cell2 rfl _ _ (w.heap.size + 1) _ _ (0, 0) _ rfl HX8.out Tryz.underlying25 rfl (by kernel_rfl) _ rfl) rfl ?_
        exact ⟨rfl, H8.out, HF8.out⟩
    · rw [show cputM d k i x m wb n b = (d, 2) from if_neg (fun e => hg e.2)]
      have ht : told x 2 = m0 := if_neg (by omega)
      have Hg := Lib.hid (decide_eq_false hg)
      have hk2 : (k != 6) = false := by simp [hk]
      clear hg hk
      simp only
      rw [ht]
      go_enter Tryz.func44, Tryz.ntmps44
      go_upto_region 1 with (fail)
      rw [← HW.out]
      go_wp2_with (first
        | (refine wpL_load_rdG rfl 25 (.tmp 3) rfl ⟨w.heap.size, 0, none⟩ rfl (msV k i x m wb A n cb) _ ((rd_of_heap (n := 6) X1.out rfl (by simp [maxLen])).cell _ rfl) Tryz.underlying25 rfl (by kernel_rfl) ?_)
        | (go_at_call 90
           (with_reducible refine (rgood_ms k i x m wb A n cb _).mono ?_)
           rintro e w2 ⟨rfl, hb2⟩
           rw [Hg.out]
           have X1 := Lib.hid ((hb2.block _ (heap_lt X1.out)).trans X1.out)
           have X2 := Lib.hid ((hb2.block _ (heap_lt X2.out)).trans X2.out)
           have HB := Lib.hid (HB.out.trans (hb2.mono HB.out.size))
           have H := Lib.hid (H.out.bel hb2)
           have Hb := Lib.hid (Hb.out.bel hb2)
           have hsz := Nat.le_trans hsz hb2.size
           clear e0 e2 e5
           obtain ⟨e0, e2, e5⟩ := ms6 X1.out
           clear hb2)
          | (refine wpL_store_all rfl rfl 25 (.tmp 4) (.tmp 15) rfl _ rfl _ rfl _ _ X2.out (by kernel_rfl) rfl (by simp [Value.oneCell']) ?_
             intro w8 x8 g8
             have HX8 := Lib.hid x8
             have f8 := Fr.grown (S := fun k => k = w.heap.size + 1) g8 (by rintro k ⟨⟩; rfl)
             have H8 := Lib.hid (H.out.fr f8 (by omega) (by omega))
             have HF8 := Lib.hid ((Fr.of_bel (S := fun k => k = q ∨ k = r) HB.out).trans f8 (fun z hz e => by omega))
             clear x8 g8 f8 e0 e2 e5))
      refine bodyPost_ret (results_cell2 rfl _ _ (w.heap.size + 1) _ _ (0, 0) _ rfl HX8.out Tryz.underlying25 rfl (by kernel_rfl) _ rfl) rfl ?_
      exact ⟨rfl, H8.out, HF8.out⟩
  · rw [show cputM d k i x m wb n b = (d, 2) from if_neg (fun e => hk e.1)]
    have ht : told x 2 = m0 := if_neg (by omega)
    have hk2 : (k != 6) = true := by simp [hk]
    have Hg : Hid (True = True) := Lib.hid rfl
    clear hk
    simp only
    rw [ht]
    go_enter Tryz.func44, Tryz.ntmps44
    go_upto_region 1 with (fail)
    rw [← HW.out]
    go_wp2_with (first
      | (refine wpL_load_rdG rfl 25 (.tmp 3) rfl ⟨w.heap.size, 0, none⟩ rfl (msV k i x m wb A n cb) _ ((rd_of_heap (n := 6) X1.out rfl (by simp [maxLen])).cell _ rfl) Tryz.underlying25 rfl (by kernel_rfl) ?_)
      | (go_at_call 90
         (with_reducible refine (rgood_ms k i x m wb A n cb _).mono ?_)
         rintro e w2 ⟨rfl, hb2⟩
         rw [Hg.out]
         have X1 := Lib.hid ((hb2.block _ (heap_lt X1.out)).trans X1.out)
         have X2 := Lib.hid ((hb2.block _ (heap_lt X2.out)).trans X2.out)
         have HB := Lib.hid (HB.out.trans (hb2.mono HB.out.size))
         have H := Lib.hid (H.out.bel hb2)
         have Hb := Lib.hid (Hb.out.bel hb2)
         have hsz := Nat.le_trans hsz hb2.size
         clear e0 e2 e5
         obtain ⟨e0, e2, e5⟩ := ms6 X1.out
         clear hb2)
        | (refine wpL_store_all rfl rfl 25 (.tmp 4) (.tmp 15) rfl _ rfl _ rfl _ _ X2.out (by kernel_rfl) rfl (by simp [Value.oneCell']) ?_
           intro w8 x8 g8
           have HX8 := Lib.hid x8
           have f8 := Fr.grown (S := fun k => k = w.heap.size + 1) g8 (by rintro k ⟨⟩; rfl)
           have H8 := Lib.hid (H.out.fr f8 (by omega) (by omega))
           have HF8 := Lib.hid ((Fr.of_bel (S := fun k => k = q ∨ k = r) HB.out).trans f8 (fun z hz e => by omega))
           clear x8 g8 f8 e0 e2 e5))
    refine bodyPost_ret (results_cell2 rfl _ _ (w.heap.size + 1) _ _ (0, 0) _ rfl HX8.out Tryz.underlying25 rfl (by kernel_rfl) _ rfl) rfl ?_
    exact ⟨rfl, H8.out, HF8.out⟩
end
theorem r_SameEq (k i o : Int) (m : Nat) (wb : Bool) (A A' : Option Addr) (n c n' c' : Nat) (b : List UInt8) (w : World) (hn : n = b.length) (hn' : n' = b.length) (h1 : Byt w A n c b) (h2 : Byt w A' n' c' b) :
    Calls Tryz.prog 42 #[.agg (msV k i o m wb A n c).toArray, .agg (msV k i o m wb A' n' c').toArray] w fun e w' => e = .returned (.bool true) ∧ Below w.heap.size w w' := by
  have hB := (((Below.refl w.heap.size w).alloc (Nat.le_refl _) (.cells (msV k i o m wb A n c).toArray 25)).alloc (by simp) (.cells (msV k i o m wb A' n' c').toArray 25))
  have HB := Lib.hid hB
  have s1 := run_str (P := Tryz.prog) _ 23 9 5 A n c b Tryz.underlying23 Tryz.underlying5 Tryz.underlying9 (h1.bel hB)
  have s2 := run_str (P := Tryz.prog) _ 23 9 5 A' n' c' b Tryz.underlying23 Tryz.underlying5 Tryz.underlying9 (h2.bel hB)
  clear h1 h2 hB hn hn'
  generalize (ByteArray.mk b.toArray) = sb at *
  unfold msV at *
  go_enter Tryz.func42, Tryz.ntmps42
  go_wp2_with fail
  go_ret
  exact ⟨by simp, HB.out⟩
/-- what an answer tells: a message, and an error -/
def Tells (B : Nat) (e : Ending) (w' : World) (K O : Int) (t : List UInt8) (E : Nat) : Prop := ∃ A3 c3, e = .returned (.tuple #[.agg (msV K 0 O 0 false A3 t.length c3).toArray, .int .i64 (E : Int)]) ∧ Byt w' A3 t.length c3 t ∧ ∀ ad, A3 = some ad → B ≤ ad.block
def tK (E : Nat) : Int := if E = 0 then 7 else 0
theorem told_ms (x : Int) (E : Nat) : told x E = (msV (tK E) 0 (gO E x) 0 false none 0 0).toArray := by
  unfold told tK gO
  by_cases h : E = 0
  · simp only [if_pos h]
  · simp only [if_neg h]
    rfl
theorem cputM_ops {d : Dsk} {k i x : Int} {m : Nat} {wb : Bool} {n : Nat} {b : List UInt8} (hw1 : (dWrite d (whole x).1 (whole x).2 b).1.ops ≤ d.ops + 1024) (hw2 : (dWrite d (whole x).1 (whole x).2 b).1.flush.1.ops ≤ d.ops + 1025) : (cputM d k i x m wb n b).1.ops ≤ d.ops + 1030 := by
  have h3 := Act3.dclear_ops (dWrite d (whole x).1 (whole x).2 b).1.flush.1 x
  unfold cputM cput
  (repeat' split) <;> first | omega | (simp only; omega) | exact Nat.le_add_right _ _
section
variable {w : World} {p g mb c q r : Nat} {d : Dsk}
theorem c_GiveT (h : Dk w p g mb c d) (x : Int) (hx : -9223372036854775808 ≤ x ∧ x ≤ 9223372036854775807) : Calls Tryz.prog 40 #[.pointer (some ⟨p, 0, none⟩), .int .i64 x] w fun e w' => Tells w.heap.size e w' (gK (gE d x)) (gO (gE d x) x) (gB d x) (gE d x) ∧ Dk w' p g mb c d ∧ Fr (fun k => k = p ∨ k = g ∨ k = mb) w w' :=
  (c_GiveE h x hx).mono fun e w' ⟨A3, c3, h1, h2, h3⟩ => ⟨⟨A3, c3, h1, h2.1, fun ad e => (h2.2 ad e).1⟩, h.bel h3, Fr.of_bel h3⟩
theorem r_GiveT (h : Rk w q r c d) (x : Int) (hx : -9223372036854775808 ≤ x ∧ x ≤ 9223372036854775807) : Calls Tryz.prog 41 #[.pointer (some ⟨q, 0, none⟩), .int .i64 x] w fun e w' => Tells w.heap.size e w' (gK (gE d x)) (gO (gE d x) x) (gB d x) (gE d x) ∧ Rk w' q r c d ∧ Fr (fun k => k = q ∨ k = r) w w' :=
  (r_Give h x hx).mono fun e w' ⟨A3, c3, h1, h2, h3⟩ => ⟨⟨A3, c3, h1, h2.1, fun ad e => (h2.2 ad e).1⟩, h.bel h3, Fr.of_bel h3⟩
theorem c_PutT (h : Dk w p g mb c d) (ho : d.ops + 1030 < 1000000000) (k i x : Int) (m : Nat) (wb : Bool) (A : Option Addr) (n cb : Nat) (b : List UInt8) (hx : -9223372036854775808 ≤ x ∧ x ≤ 9223372036854775807) (hb : Byt w A n cb b) (hA : ∀ ad, A = some ad → 0 < n → ad.block ≠ p ∧ ad.block ≠ mb) (hw1 : (dWrite d (whole x).1 (whole x).2 b).1.ops ≤ d.ops + 1024) (hw2 : (dWrite d (whole x).1 (whole x).2 b).1.flush.1.ops ≤ d.ops + 1025) :
    Calls Tryz.prog 43 #[.pointer (some ⟨p, 0, none⟩), .agg (msV k i x m wb A n cb).toArray] w fun e w' => Tells w.heap.size e w' (tK (cputM d k i x m wb n b).2) (gO (cputM d k i x m wb n b).2 x) [] (cputM d k i x m wb n b).2 ∧ Dk w' p g mb c (cputM d k i x m wb n b).1 ∧ Fr (fun k => k = p ∨ k = g ∨ k = mb) w w' :=
  (c_PutX h ho k i x m wb A n cb b hx hb hA hw1 hw2).mono fun e w' ⟨h1, h2, h3⟩ => ⟨⟨none, 0, by rw [h1, told_ms]; rfl, Rd.nil_, fun ad e => by cases e⟩, h2, h3⟩
theorem r_PutT (h : Rk w q r c d) (ho : d.ops + 1030 < 1000000000) (k i x : Int) (m : Nat) (wb : Bool) (A : Option Addr) (n cb : Nat) (b : List UInt8) (hx : -9223372036854775808 ≤ x ∧ x ≤ 9223372036854775807) (hb : Byt w A n cb b) (hA : ∀ ad, A = some ad → 0 < n → ad.block ≠ q ∧ ad.block ≠ r) (hw1 : (dWrite d (whole x).1 (whole x).2 b).1.ops ≤ d.ops + 1024) (hw2 : (dWrite d (whole x).1 (whole x).2 b).1.flush.1.ops ≤ d.ops + 1025) :
    Calls Tryz.prog 44 #[.pointer (some ⟨q, 0, none⟩), .agg (msV k i x m wb A n cb).toArray] w fun e w' => Tells w.heap.size e w' (tK (cputM d k i x m wb n b).2) (gO (cputM d k i x m wb n b).2 x) [] (cputM d k i x m wb n b).2 ∧ Rk w' q r c (cputM d k i x m wb n b).1 ∧ Fr (fun k => k = q ∨ k = r) w w' :=
  (r_Put h ho k i x m wb A n cb b hx hb hA hw1 hw2).mono fun e w' ⟨h1, h2, h3⟩ => ⟨⟨none, 0, by rw [h1, told_ms]; rfl, Rd.nil_, fun ad e => by cases e⟩, h2, h3⟩
end
end Go.Proofs.YtaldlapnhhhclaaGreat.Copying
/- Slices of messages that a call made: what they say. Conditions: none. -/
namespace Go.Proofs.YtaldlapnhhhclaaGreat.Outs
open Go.RowKit Tw Copying
set_option maxHeartbeats 1000000
/-- a message that was made: its kind, its place, its bytes, and where these lie -/
structure M where
  k : Int
  o : Int
  b : List UInt8
  A : Option Addr
  c : Nat
def M.row (x : M) : List Value := msV x.k 0 x.o 0 false x.A x.b.length x.c
def M.said (x : M) : Int × Int × List UInt8 := (x.k, x.o, x.b)
def rows (l : List M) : List Value := l.flatMap M.row
theorem row_len (x : M) : x.row.length = 6 := rfl
theorem rows_len (l : List M) : (rows l).length = l.length * 6 := by
  induction l with
  | nil => rfl
  | cons x l ih => simp only [rows, List.flatMap_cons, List.length_append, row_len, List.length_cons] at *; omega
theorem rows_snoc (l : List M) (x : M) : rows (l ++ [x]) = rows l ++ x.row := by simp [rows]
theorem rows_append (l m : List M) : rows (l ++ m) = rows l ++ rows m := by simp [rows]
theorem rows_get (l : List M) (i j : Nat) (x : M) (hx : l[i]? = some x) (hj : j < 6) : (rows l)[i * 6 + j]? = x.row[j]? := by
  induction l generalizing i with
  | nil => simp at hx
  | cons y l ih =>
    simp only [rows, List.flatMap_cons]
    cases i with
    | zero =>
      simp only [List.getElem?_cons_zero, Option.some.injEq] at hx
      subst hx
      rw [List.getElem?_append_left (by rw [row_len]; omega)]
      simp
    | succ i =>
      rw [List.getElem?_append_right (by rw [row_len]; omega), row_len, show (i + 1) * 6 + j - 6 = i * 6 + j by omega]
      exact ih i (by simpa using hx)
theorem rows_one (l : List M) : ∀ v ∈ rows l, v.oneCell' = true := by
  intro v hv
  simp only [rows, List.mem_flatMap] at hv
  obtain ⟨x, _, hx⟩ := hv
  exact ms_one v (List.mem_toArray.2 hx)
/-- the messages' bytes lie from B on -/
def Held (w : World) (B : Nat) (l : List M) : Prop := ∀ x ∈ l, Byt w x.A x.b.length x.c x.b ∧ ∀ ad, x.A = some ad → B ≤ ad.block ∧ ad.block < w.heap.size
/-- no message's bytes lie in the row of messages -/
def Apart (A : Option Addr) (l : List M) : Prop := ∀ x ∈ l, ∀ ad q, x.A = some ad → A = some q → ad.block ≠ q.block
/-- a slice that says these messages, made from B on -/
def Says (w : World) (B : Nat) (A : Option Addr) (n c : Nat) (l : List M) : Prop := n = l.length ∧ Tw.Own w B 25 6 A n c (rows l) ∧ Held w B l ∧ Apart A l
def Out (w : World) (B : Nat) (A : Option Addr) (n c : Nat) (out : List (Int × Int × List UInt8)) : Prop := ∃ l, Says w B A n c l ∧ l.map M.said = out
section
variable {w w' : World} {B n c : Nat} {A : Option Addr} {l : List M} {out : List (Int × Int × List UInt8)}
theorem Held.fr {S : Nat → Prop} (h : Held w B l) (hf : Fr S w w') (hs : ∀ x ∈ l, ∀ ad, x.A = some ad → ¬ S ad.block) : Held w' B l := fun x hx =>
  ⟨(h x hx).1.fr hf (fun ad e => hs x hx ad e), fun ad e => ⟨((h x hx).2 ad e).1, Nat.lt_of_lt_of_le ((h x hx).2 ad e).2 hf.size⟩⟩
theorem Held.bel (h : Held w B l) (hb : Below w.heap.size w w') : Held w' B l := fun x hx => ⟨(h x hx).1.bel hb, fun ad e => ⟨((h x hx).2 ad e).1, Nat.lt_of_lt_of_le ((h x hx).2 ad e).2 hb.size⟩⟩
theorem Held.mono {B' : Nat} (h : Held w B l) (hb : B' ≤ B) : Held w B' l := fun x hx => ⟨(h x hx).1, fun ad e => ⟨Nat.le_trans hb ((h x hx).2 ad e).1, ((h x hx).2 ad e).2⟩⟩
theorem Held.append {m : List M} (h : Held w B l) (k : Held w B m) : Held w B (l ++ m) := fun x hx => by
  rcases List.mem_append.1 hx with hx | hx
  · exact h x hx
  · exact k x hx
theorem Says.fr {S : Nat → Prop} (h : Says w B A n c l) (hf : Fr S w w') (hs : ∀ k, S k → k < B) : Says w' B A n c l :=
  ⟨h.1, Tw.Own.fr h.2.1 hf (fun ad e hk => by have := (Tw.Own.at0 h.2.1 ad e).1; have := hs _ hk; omega), h.2.2.1.fr hf (fun x hx ad e hk => by have := (h.2.2.1 x hx).2 ad e; have := hs _ hk; omega), h.2.2.2⟩
theorem Says.bel (h : Says w B A n c l) (hb : Below w.heap.size w w') : Says w' B A n c l := ⟨h.1, Tw.Own.bel h.2.1 hb, h.2.2.1.bel hb, h.2.2.2⟩
theorem Says.mono {B' : Nat} (h : Says w B A n c l) (hb : B' ≤ B) : Says w B' A n c l := ⟨h.1, Tw.Own.mono h.2.1 hb, h.2.2.1.mono hb, h.2.2.2⟩
theorem Says.nil (w : World) (B : Nat) : Says w B none 0 0 [] := ⟨rfl, World.ownsRow_nil _ _ _ _, (fun _ h => by cases h), fun _ h => by cases h⟩
/-- messages were appended: a new row, that is the old one or a new block -/
theorem Says.append {A2 : Option Addr} {c2 : Nat} {m : List M} (h : Says w B A n c l) (hm : Held w B m) (hma : Apart A m) (hg : w.grownBy w' (Value.slice A n c).ownBlock) (ho : Tw.Own w' B 25 6 A2 (n + m.length) c2 (rows (l ++ m)))
    (hn : (Value.slice A2 (n + m.length) c2).ownBlock = (Value.slice A n c).ownBlock ∨ (Value.slice A2 (n + m.length) c2).ownBlock = some w.heap.size) : Says w' B A2 (n + m.length) c2 (l ++ m) := by
  have hfr := Fr.grown (S := fun k => some k = (Value.slice A n c).ownBlock) hg (fun _ e => e)
  have hap : ∀ x ∈ l ++ m, ∀ ad q, x.A = some ad → A = some q → ad.block ≠ q.block := fun x hx ad q h1 h2 => by
    rcases List.mem_append.1 hx with hx | hx
    · exact h.2.2.2 x hx ad q h1 h2
    · exact hma x hx ad q h1 h2
  have hh := (h.2.2.1.append hm)
  refine ⟨by rw [List.length_append, h.1], ho, hh.fr hfr (fun x hx ad e hk => ?_), fun x hx ad q h1 h2 => ?_⟩
  · cases A with
    | none => simp [Value.ownBlock] at hk
    | some q => exact hap x hx ad q e rfl (by simpa [Value.ownBlock] using hk)
  · subst h2
    rcases hn with hn | hn
    · cases A with
      | none => simp [Value.ownBlock] at hn
      | some q' =>
        have := hap x hx ad q' h1 rfl
        have e : q.block = q'.block := by simpa [Value.ownBlock] using hn
        rw [e]
        exact this
    · have e : q.block = w.heap.size := by simpa [Value.ownBlock] using hn
      have := ((hh x hx).2 ad h1).2
      omega
theorem Out.nil (w : World) (B : Nat) : Out w B none 0 0 [] := ⟨[], Says.nil w B, rfl⟩
theorem Out.fr {S : Nat → Prop} (h : Out w B A n c out) (hf : Fr S w w') (hs : ∀ k, S k → k < B) : Out w' B A n c out := by
  obtain ⟨l, h1, h2⟩ := h
  exact ⟨l, h1.fr hf hs, h2⟩
theorem Out.bel (h : Out w B A n c out) (hb : Below w.heap.size w w') : Out w' B A n c out := by
  obtain ⟨l, h1, h2⟩ := h
  exact ⟨l, h1.bel hb, h2⟩
theorem Out.mono {B' : Nat} (h : Out w B A n c out) (hb : B' ≤ B) : Out w B' A n c out := by
  obtain ⟨l, h1, h2⟩ := h
  exact ⟨l, h1.mono hb, h2⟩
theorem Out.len (h : Out w B A n c out) : n = out.length := by
  obtain ⟨l, h1, rfl⟩ := h
  rw [List.length_map]
  exact h1.1
/-- a slice of one message, as a literal -/
theorem rd_elem {g : Nat} {row : List Value} {t : TypeId} (h : w.heap[g]? = some (.cells row.toArray t (0, 0))) (hl : row.length = 6) : Rd w 6 (some ⟨g, 0, none⟩) 1 1 row :=
  ⟨by omega, Nat.le_refl _, by simp [maxLen], (fun e => by cases e), fun ad e j u hu => by
    injection e with e
    subst e
    exact (rd_of_heap (n := 6) h hl (by simp [maxLen])).cell _ rfl j u hu⟩
theorem own_elem {g : Nat} {row : List Value} (h : w.heap[g]? = some (.cells row.toArray 25 (0, 0))) (hl : row.length = 6) (hb : B ≤ g) : Tw.Own w B 25 6 (some ⟨g, 0, none⟩) 1 1 row :=
  ⟨by omega, .inr ⟨g, 1, row.toArray, rfl, hb, h, Nat.le_refl _, by simp [maxLen], by simp [hl], by rw [Nat.one_mul]; exact List.take_of_length_le (by simp [hl])⟩⟩
theorem Says.one {g : Nat} {x : M} (h : w.heap[g]? = some (.cells x.row.toArray 25 (0, 0))) (hb : B ≤ g) (hx : Byt w x.A x.b.length x.c x.b ∧ ∀ ad, x.A = some ad → (B ≤ ad.block ∧ ad.block < w.heap.size) ∧ ad.block ≠ g) : Says w B (some ⟨g, 0, none⟩) 1 1 [x] :=
  ⟨rfl, by
    have := own_elem h (row_len x) hb
    simpa [rows] using this, (fun y hy => by
    rw [List.mem_singleton] at hy
    subst hy
    exact ⟨hx.1, fun ad e => (hx.2 ad e).1⟩), fun y hy ad q h1 h2 => by
    rw [List.mem_singleton] at hy
    subst hy
    injection h2 with h2
    subst h2
    exact (hx.2 ad h1).2⟩
theorem info_m : (Tryz.prog.info? 25).map (fun i => (i.zero, i.size, i.bytes)) = some (some (.agg m0), 6, 64) := by kernel_rfl
end
end Go.Proofs.YtaldlapnhhhclaaGreat.Outs
