/- The laws of pack: the example; PackForms, PackSame; their arguments opened. Conditions: none. -/
import Derived.Test.YtdpggcpbgfancaaPack11
import Derived.Test.YtdpggcpbgfancaaPack7
import Derived.Test.YtdpggcpbgfancaaPack5
set_option linter.unusedVariables false
set_option linter.unusedSimpArgs false
namespace Go.Proofs.Ytdpggcpbgfancaa.Pack
open Go.RowKit Tw
set_option maxHeartbeats 8000000
set_option maxRecDepth 100000
theorem parse_nine : parse [9] = (zm, 9) := by
  unfold parse
  rw [if_neg (by decide), if_neg (by decide), if_pos (by decide)]
theorem bytes_end : bytes 8 0 0 0 false [] = [8] := by decide +kernel
theorem c_ParseNine (A : Option Addr) (c : Nat) (w : World) (hb : Byt w A 1 c [9]) :
    Calls Try.prog 35 #[.slice A 1 c] w fun e w' => ∃ A2 n2 c2, e = .returned (.tuple #[.agg #[.int .i64 0, .int .i64 0, .int .i64 0, .int .u64 0, .bool false, .slice A2 n2 c2], .int .i64 9]) ∧ Below w.heap.size w w' := by
  have h := c_Parse A 1 c [9] w hb (by omega)
  rw [parse_nine] at h
  exact h.mono fun e w' ⟨A2, n2, c2, he, _, hB⟩ => ⟨A2, n2, c2, he, hB⟩
theorem c_BytesEnd (w : World) : Calls Try.prog 31 #[.agg #[.int .i64 8, .int .i64 0, .int .i64 0, .int .u64 0, .bool false, .slice none 0 0]] w fun e w' => ∃ A2 c2, e = .returned (.slice A2 1 c2) ∧ Byt w' A2 1 c2 [8] ∧ Below w.heap.size w w' := by
  have h : Calls Try.prog 31 #[.agg #[.int .i64 8, .int .i64 0, .int .i64 0, .int .u64 0, .bool false, .slice none 0 0]] w fun e w' => ∃ A2 n2 c2, e = .returned (.slice A2 n2 c2) ∧ Byt w' A2 n2 c2 (bytes 8 0 0 0 false []) ∧ Below w.heap.size w w' := c_Bytes 8 0 0 0 false none 0 0 [] w (by omega) Rd.nil_
  rw [bytes_end] at h
  refine h.mono ?_
  rintro e w' ⟨A2, n2, c2, rfl, hb, hB⟩
  have h1 := hb.blen
  simp at h1
  subst h1
  exact ⟨A2, c2, rfl, hb, hB⟩
theorem c_Name7 (w : World) : Calls Try.prog 33 #[.int .i64 7] w fun e w' => e = .returned (.string ⟨#[104, 97, 118, 101]⟩) ∧ Below w.heap.size w w' := c_Name 7 w
theorem c_lives (w : World) : Calls Try.prog 28 #[] w fun e w' => e = .returned (.bool true) ∧ Below w.heap.size w w' := by
  have h9 : Byt (w.alloc (.cells #[.int .u8 9] 5)) (some ⟨w.heap.size, 0, none⟩) 1 1 [9] := (own_lit w w.heap.size 5 1 #[.int .u8 9] 1 (Nat.le_refl _) (by simp [maxLen]) (by simp)).rd
  have HB := Lib.hid ((Below.refl w.heap.size w).alloc (Nat.le_refl _) (.cells #[.int .u8 9] 5))
  have hp := c_ParseNine _ _ _ h9
  clear h9
  go_enter Try.func28, Try.ntmps28
  go_wp2_with (first
    | (go_at_call 35
       (with_reducible refine hp.mono ?_)
       rintro e w1 ⟨A1, n1, c1, rfl, b1⟩
       have HB1 := Lib.hid (HB.out.trans (b1.mono HB.out.size))
       clear b1 hp)
    | (refine Bx.wpL_store_all rfl rfl 42 (.tmp 1) (.tmp 6) rfl _ rfl _ rfl _ _ (heap_alloc_new w1 _) (by kernel_rfl) rfl (one6 _ _ _ _ _ _ _ _) ?_
       intro w2 x2 g2
       have f2 : Fr (fun k => k = w1.heap.size) w1 w2 := (Fr.alloc _).trans (Fr.grown (S := fun k => k = w1.heap.size) g2 (by rintro k ⟨⟩; rfl)) (fun _ _ h => h)
       have b2 : Below w1.heap.size w1 w2 := f2.bel (fun k e => by omega) (Nat.le_refl _)
       have HB2 := Lib.hid (HB1.out.trans (b2.mono HB1.out.size))
       clear x2 g2 f2 b2)
    | (go_at_call 31
       (with_reducible refine (c_BytesEnd _).mono ?_)
       rintro e w3 ⟨A3, c3, rfl, hb3, b3⟩
       have HB3 := Lib.hid (HB2.out.trans (b3.mono HB2.out.size))
       have s3 := run_str (P := Try.prog) w3 23 9 5 A3 1 c3 [8] Try.underlying23 Try.underlying5 Try.underlying9 hb3
       clear b3 hb3)
    | (go_at_call 33
       (with_reducible refine (c_Name7 _).mono ?_)
       rintro e w4 ⟨rfl, b4⟩
       have HB4 := Lib.hid (HB3.out.trans (b4.mono HB3.out.size))
       clear b4))
  go_ret
  exact ⟨rfl, HB4.out⟩
theorem w_PackForms (k i o : Int) (m : Nat) (wb : Bool) (A : Option Addr) (n cp : Nat) (d : List UInt8) (w : World) (hm : m < 18446744073709551616) (hb : Byt w A n cp d) :
    Calls Try.prog 6 #[.agg #[.int .i64 k, .int .i64 i, .int .i64 o, .int .u64 (m : Int), .bool wb, .slice A n cp]] w fun e w' => e = .returned (.bool true) ∧ Below w.heap.size w w' := by
  have HB := Lib.hid ((Below.refl _ _).alloc (Nat.le_refl w.heap.size) (.cells #[.int .i64 k, .int .i64 i, .int .i64 o, .int .u64 (m : Int), .bool wb, .slice A n cp] 42))
  have HX := Lib.hid (heap_alloc_new w (.cells #[.int .i64 k, .int .i64 i, .int .i64 o, .int .u64 (m : Int), .bool wb, .slice A n cp] 42))
  have Hb := Lib.hid (hb.bel HB.out)
  clear hb
  have hg := fun w => c_Good k i o m wb A n cp w
  have hrg := fun w => c_rGood k i o m wb A n cp w
  have hby := fun w (hb : Byt w A n cp d) => c_Bytes k i o m wb A n cp d w hm hb
  have hrby := fun w (hb : Byt w A n cp d) => c_rBytes k i o m wb A n cp d w hm hb
  have hnm := fun w => c_Name k w
  have hrnm := fun w => c_rName k w
  generalize decide (Good k i o m wb n) = G at *
  generalize bytes k i o m wb d = BY at *
  generalize word k = WD at *
  go_enter Try.func6, Try.ntmps6
  go_upto_region 1 with (fail)
  generalize w.alloc (.cells #[.int .i64 k, .int .i64 i, .int .i64 o, .int .u64 (m : Int), .bool wb, .slice A n cp] 42) = W1 at *
  obtain ⟨M, hM⟩ : ∃ M : Int, (m : Int) = M := ⟨_, rfl⟩
  rw [hM] at HX hg hrg hby hrby ⊢
  clear hM
  obtain ⟨k0, k1, k2, k3, k4, k5⟩ := Bx.cells6 HX.out
  by_cases hn : 300 < n
  · go_wp2_with (first
      | (go_at_call 28
         (with_reducible refine (c_lives _).mono ?_)
         rintro e w1 ⟨rfl, hb1⟩
         have HB1 := Lib.hid (HB.out.trans (hb1.mono HB.out.size))
         clear hb1))
    go_ret
    exact ⟨rfl, HB1.out⟩
  · go_wp2_with fail
    refine wp_region_phi (by kernel_rfl) 26 none (fun _ => false) (fun i_ v wz => match i_ with
      | 0 => v = .agg #[.int .i64 k, .int .i64 i, .int .i64 o, .int .u64 M, .bool wb, .slice A n cp]
      | 1 => v = .bool G
      | 2 => v = .agg #[.int .i64 k, .int .i64 i, .int .i64 o, .int .u64 M, .bool wb, .slice A n cp]
      | 3 => v = .bool G
      | 4 => v = .bool true
      | 5 => v = .bool true
      | 6 => v = .agg #[.int .i64 k, .int .i64 i, .int .i64 o, .int .u64 M, .bool wb, .slice A n cp]
      | 7 => ∃ A2 n2 c2, v = .slice A2 n2 c2 ∧ Byt wz A2 n2 c2 BY
      | 8 => v = .string ⟨BY.toArray⟩
      | 9 => v = .agg #[.int .i64 k, .int .i64 i, .int .i64 o, .int .u64 M, .bool wb, .slice A n cp]
      | 10 => ∃ A2 n2 c2, v = .slice A2 n2 c2 ∧ Byt wz A2 n2 c2 BY
      | 11 => v = .string ⟨BY.toArray⟩
      | 12 => v = .bool true
      | 13 => v = .bool true
      | 14 => v = .bool true
      | 15 => v = .pointer (some ⟨w.heap.size, 0, none⟩)
      | 16 => v = .int .i64 k
      | 17 => v = .string WD
      | 18 => v = .pointer (some ⟨w.heap.size, 0, none⟩)
      | 19 => v = .int .i64 k
      | 20 => v = .string WD
      | 21 => v = .bool true
      | 22 => v = .bool true
      | 23 => v = .bool true
      | 24 => v = .bool true
      | 25 => v = .bool true
      | _ => True) (by kernel_rfl) ?_ ?_ ?_
    · (repeat' (first | exact allLt_zero | refine allLt_succ ?_ ?_))
      · exact fun _ _ _ h _ => h
      · exact fun _ _ _ h _ => h
      · exact fun _ _ _ h _ => h
      · exact fun _ _ _ h _ => h
      · exact fun _ _ _ h _ => h
      · exact fun _ _ _ h _ => h
      · exact fun _ _ _ h _ => h
      · intro v w1 w2 h hg
        rw [show kindRow _ _ = none from by kernel_rfl] at hg
        obtain ⟨A2, n2, c2, rfl, hr⟩ := h
        exact ⟨A2, n2, c2, rfl, hr.bel (bel_grown hg)⟩
      · exact fun _ _ _ h _ => h
      · exact fun _ _ _ h _ => h
      · intro v w1 w2 h hg
        rw [show kindRow _ _ = none from by kernel_rfl] at hg
        obtain ⟨A2, n2, c2, rfl, hr⟩ := h
        exact ⟨A2, n2, c2, rfl, hr.bel (bel_grown hg)⟩
      · exact fun _ _ _ h _ => h
      · exact fun _ _ _ h _ => h
      · exact fun _ _ _ h _ => h
      · exact fun _ _ _ h _ => h
      · exact fun _ _ _ h _ => h
      · exact fun _ _ _ h _ => h
      · exact fun _ _ _ h _ => h
      · exact fun _ _ _ h _ => h
      · exact fun _ _ _ h _ => h
      · exact fun _ _ _ h _ => h
      · exact fun _ _ _ h _ => h
      · exact fun _ _ _ h _ => h
      · exact fun _ _ _ h _ => h
      · exact fun _ _ _ h _ => h
      · exact fun _ _ _ h _ => h
    · (repeat' (first | exact allLt_zero | refine allLt_succ ?_ ?_))
      · intro a w' hf he
        have k1 : a.tmps.getD 1 undef = .pointer (some ⟨w.heap.size, 0, none⟩) := hf.var (by kernel_rfl) rfl
        rw [show kindRow _ _ = none from by kernel_rfl] at hf
        obtain ⟨q0, q1, q2, q3, q4, q5⟩ := Bx.cells6 ((hf.bel.block _ (heap_lt HX.out)).trans HX.out)
        refine wpOp_step rfl (fun K hK => ?_)
        go_simp
        exact hK _ _ ⟨_, rfl, rfl, World.grownBy.refl _ _⟩
      · intro a w' hf he
        have f0 : a.tmps.getD 8 undef = .agg #[.int .i64 k, .int .i64 i, .int .i64 o, .int .u64 M, .bool wb, .slice A n cp] := he 0 (by kernel_rfl)
        rw [show kindRow _ _ = none from by kernel_rfl] at hf
        refine wpOp_step rfl (fun K hK => ?_)
        go_simp
        (with_reducible refine (hg _).mono ?_)
        rintro e w2 ⟨rfl, hb2⟩
        exact hK _ _ ⟨_, rfl, rfl, grown_bel hb2⟩
      · intro a w' hf he
        have k1 : a.tmps.getD 1 undef = .pointer (some ⟨w.heap.size, 0, none⟩) := hf.var (by kernel_rfl) rfl
        rw [show kindRow _ _ = none from by kernel_rfl] at hf
        obtain ⟨q0, q1, q2, q3, q4, q5⟩ := Bx.cells6 ((hf.bel.block _ (heap_lt HX.out)).trans HX.out)
        refine wpOp_step rfl (fun K hK => ?_)
        go_simp
        exact hK _ _ ⟨_, rfl, rfl, World.grownBy.refl _ _⟩
      · intro a w' hf he
        have f2 : a.tmps.getD 10 undef = .agg #[.int .i64 k, .int .i64 i, .int .i64 o, .int .u64 M, .bool wb, .slice A n cp] := he 2 (by kernel_rfl)
        rw [show kindRow _ _ = none from by kernel_rfl] at hf
        refine wpOp_step rfl (fun K hK => ?_)
        go_simp
        (with_reducible refine (hrg _).mono ?_)
        rintro e w2 ⟨rfl, hb2⟩
        exact hK _ _ ⟨_, rfl, rfl, grown_bel hb2⟩
      · intro a w' hf he
        have f1 : a.tmps.getD 9 undef = .bool G := he 1 (by kernel_rfl)
        have f3 : a.tmps.getD 11 undef = .bool G := he 3 (by kernel_rfl)
        rw [show kindRow _ _ = none from by kernel_rfl] at hf
        refine wpOp_step rfl (fun K hK => ?_)
        go_simp
        exact hK _ _ ⟨_, rfl, by simp, World.grownBy.refl _ _⟩
      · intro a w' hf he
        have f4 : a.tmps.getD 12 undef = .bool true := he 4 (by kernel_rfl)
        refine wpOp_step rfl (fun K hK => ?_)
        go_simp
        exact hK _ _ ⟨_, rfl, rfl, World.grownBy.refl _ _⟩
      · intro a w' hf he
        have k1 : a.tmps.getD 1 undef = .pointer (some ⟨w.heap.size, 0, none⟩) := hf.var (by kernel_rfl) rfl
        have f5 : a.tmps.getD 13 undef = .bool true := he 5 (by kernel_rfl)
        rw [show kindRow _ _ = none from by kernel_rfl] at hf
        obtain ⟨q0, q1, q2, q3, q4, q5⟩ := Bx.cells6 ((hf.bel.block _ (heap_lt HX.out)).trans HX.out)
        refine wpOp_run rfl rfl rfl f5 (fun K hK => ?_)
        go_simp
        exact hK _ _ ⟨_, rfl, rfl, World.grownBy.refl _ _⟩
      · intro a w' hf he
        have f6 : a.tmps.getD 14 undef = .agg #[.int .i64 k, .int .i64 i, .int .i64 o, .int .u64 M, .bool wb, .slice A n cp] := he 6 (by kernel_rfl)
        have f5 : a.tmps.getD 13 undef = .bool true := he 5 (by kernel_rfl)
        rw [show kindRow _ _ = none from by kernel_rfl] at hf
        refine wpOp_run rfl rfl rfl f5 (fun K hK => ?_)
        go_simp
        (with_reducible refine (hby _ (Hb.out.bel hf.bel)).mono ?_)
        rintro e w2 ⟨A2, n2, c2, rfl, ho2, hb2⟩
        exact hK _ _ ⟨_, rfl, ⟨_, _, _, rfl, ho2⟩, grown_bel hb2⟩
      · intro a w' hf he
        obtain ⟨A7, n7, c7, hv7, hr7⟩ := he 7 (by kernel_rfl)
        have f7 : a.tmps.getD 15 undef = _ := hv7
        have f5 : a.tmps.getD 13 undef = .bool true := he 5 (by kernel_rfl)
        rw [show kindRow _ _ = none from by kernel_rfl] at hf
        have hcv := run_str (P := Try.prog) w' 23 9 5 A7 n7 c7 BY Try.underlying23 Try.underlying5 Try.underlying9 hr7
        refine wpOp_run rfl rfl rfl f5 (fun K hK => ?_)
        go_simp
        exact hK _ _ ⟨_, rfl, rfl, World.grownBy.refl _ _⟩
      · intro a w' hf he
        have k1 : a.tmps.getD 1 undef = .pointer (some ⟨w.heap.size, 0, none⟩) := hf.var (by kernel_rfl) rfl
        have f5 : a.tmps.getD 13 undef = .bool true := he 5 (by kernel_rfl)
        rw [show kindRow _ _ = none from by kernel_rfl] at hf
        obtain ⟨q0, q1, q2, q3, q4, q5⟩ := Bx.cells6 ((hf.bel.block _ (heap_lt HX.out)).trans HX.out)
        refine wpOp_run rfl rfl rfl f5 (fun K hK => ?_)
        go_simp
        exact hK _ _ ⟨_, rfl, rfl, World.grownBy.refl _ _⟩
      · intro a w' hf he
        have f9 : a.tmps.getD 17 undef = .agg #[.int .i64 k, .int .i64 i, .int .i64 o, .int .u64 M, .bool wb, .slice A n cp] := he 9 (by kernel_rfl)
        have f5 : a.tmps.getD 13 undef = .bool true := he 5 (by kernel_rfl)
        rw [show kindRow _ _ = none from by kernel_rfl] at hf
        refine wpOp_run rfl rfl rfl f5 (fun K hK => ?_)
        go_simp
        (with_reducible refine (hrby _ (Hb.out.bel hf.bel)).mono ?_)
        rintro e w2 ⟨A2, n2, c2, rfl, ho2, hb2⟩
        exact hK _ _ ⟨_, rfl, ⟨_, _, _, rfl, ho2⟩, grown_bel hb2⟩
      · intro a w' hf he
        obtain ⟨A10, n10, c10, hv10, hr10⟩ := he 10 (by kernel_rfl)
        have f10 : a.tmps.getD 18 undef = _ := hv10
        have f5 : a.tmps.getD 13 undef = .bool true := he 5 (by kernel_rfl)
        rw [show kindRow _ _ = none from by kernel_rfl] at hf
        have hcv := run_str (P := Try.prog) w' 23 9 5 A10 n10 c10 BY Try.underlying23 Try.underlying5 Try.underlying9 hr10
        refine wpOp_run rfl rfl rfl f5 (fun K hK => ?_)
        go_simp
        exact hK _ _ ⟨_, rfl, rfl, World.grownBy.refl _ _⟩
      · intro a w' hf he
        have f8 : a.tmps.getD 16 undef = .string ⟨BY.toArray⟩ := he 8 (by kernel_rfl)
        have f11 : a.tmps.getD 19 undef = .string ⟨BY.toArray⟩ := he 11 (by kernel_rfl)
        have f5 : a.tmps.getD 13 undef = .bool true := he 5 (by kernel_rfl)
        refine wpOp_run rfl rfl rfl f5 (fun K hK => ?_)
        go_simp
        exact hK _ _ ⟨_, rfl, rfl, World.grownBy.refl _ _⟩
      · intro a w' hf he
        have f5 : a.tmps.getD 13 undef = .bool true := he 5 (by kernel_rfl)
        have f12 : a.tmps.getD 20 undef = .bool true := he 12 (by kernel_rfl)
        refine wpOp_step rfl (fun K hK => ?_)
        go_simp
        exact hK _ _ ⟨_, rfl, rfl, World.grownBy.refl _ _⟩
      · intro a w' hf he
        have f13 : a.tmps.getD 21 undef = .bool true := he 13 (by kernel_rfl)
        refine wpOp_step rfl (fun K hK => ?_)
        go_simp
        exact hK _ _ ⟨_, rfl, rfl, World.grownBy.refl _ _⟩
      · intro a w' hf he
        have k1 : a.tmps.getD 1 undef = .pointer (some ⟨w.heap.size, 0, none⟩) := hf.var (by kernel_rfl) rfl
        have f14 : a.tmps.getD 22 undef = .bool true := he 14 (by kernel_rfl)
        refine wpOp_run rfl rfl rfl f14 (fun K hK => ?_)
        go_simp
        exact hK _ _ ⟨_, rfl, rfl, World.grownBy.refl _ _⟩
      · intro a w' hf he
        have f15 : a.tmps.getD 23 undef = .pointer (some ⟨w.heap.size, 0, none⟩) := he 15 (by kernel_rfl)
        have f14 : a.tmps.getD 22 undef = .bool true := he 14 (by kernel_rfl)
        rw [show kindRow _ _ = none from by kernel_rfl] at hf
        have q2 := (Bx.cells6 ((hf.bel.block _ (heap_lt HX.out)).trans HX.out)).1
        refine wpOp_run rfl rfl rfl f14 (fun K hK => ?_)
        go_simp
        exact hK _ _ ⟨_, rfl, rfl, World.grownBy.refl _ _⟩
      · intro a w' hf he
        have f16 : a.tmps.getD 24 undef = .int .i64 k := he 16 (by kernel_rfl)
        have f14 : a.tmps.getD 22 undef = .bool true := he 14 (by kernel_rfl)
        rw [show kindRow _ _ = none from by kernel_rfl] at hf
        refine wpOp_run rfl rfl rfl f14 (fun K hK => ?_)
        go_simp
        refine (hnm _).mono ?_
        rintro e w2 ⟨rfl, hb2⟩
        exact hK _ _ ⟨_, rfl, rfl, grown_bel hb2⟩
      · intro a w' hf he
        have k1 : a.tmps.getD 1 undef = .pointer (some ⟨w.heap.size, 0, none⟩) := hf.var (by kernel_rfl) rfl
        have f14 : a.tmps.getD 22 undef = .bool true := he 14 (by kernel_rfl)
        refine wpOp_run rfl rfl rfl f14 (fun K hK => ?_)
        go_simp
        exact hK _ _ ⟨_, rfl, rfl, World.grownBy.refl _ _⟩
      · intro a w' hf he
        have f18 : a.tmps.getD 26 undef = .pointer (some ⟨w.heap.size, 0, none⟩) := he 18 (by kernel_rfl)
        have f14 : a.tmps.getD 22 undef = .bool true := he 14 (by kernel_rfl)
        rw [show kindRow _ _ = none from by kernel_rfl] at hf
        have q2 := (Bx.cells6 ((hf.bel.block _ (heap_lt HX.out)).trans HX.out)).1
        refine wpOp_run rfl rfl rfl f14 (fun K hK => ?_)
        go_simp
        exact hK _ _ ⟨_, rfl, rfl, World.grownBy.refl _ _⟩
      · intro a w' hf he
        have f19 : a.tmps.getD 27 undef = .int .i64 k := he 19 (by kernel_rfl)
        have f14 : a.tmps.getD 22 undef = .bool true := he 14 (by kernel_rfl)
        rw [show kindRow _ _ = none from by kernel_rfl] at hf
        refine wpOp_run rfl rfl rfl f14 (fun K hK => ?_)
        go_simp
        refine (hrnm _).mono ?_
        rintro e w2 ⟨rfl, hb2⟩
        exact hK _ _ ⟨_, rfl, rfl, grown_bel hb2⟩
      · intro a w' hf he
        have f17 : a.tmps.getD 25 undef = .string WD := he 17 (by kernel_rfl)
        have f20 : a.tmps.getD 28 undef = .string WD := he 20 (by kernel_rfl)
        have f14 : a.tmps.getD 22 undef = .bool true := he 14 (by kernel_rfl)
        refine wpOp_run rfl rfl rfl f14 (fun K hK => ?_)
        go_simp
        exact hK _ _ ⟨_, rfl, rfl, World.grownBy.refl _ _⟩
      · intro a w' hf he
        have f14 : a.tmps.getD 22 undef = .bool true := he 14 (by kernel_rfl)
        have f21 : a.tmps.getD 29 undef = .bool true := he 21 (by kernel_rfl)
        refine wpOp_step rfl (fun K hK => ?_)
        go_simp
        exact hK _ _ ⟨_, rfl, rfl, World.grownBy.refl _ _⟩
      · intro a w' hf he
        have f22 : a.tmps.getD 30 undef = .bool true := he 22 (by kernel_rfl)
        refine wpOp_step rfl (fun K hK => ?_)
        go_simp
        exact hK _ _ ⟨_, rfl, rfl, World.grownBy.refl _ _⟩
      · intro a w' hf he
        have f23 : a.tmps.getD 31 undef = .bool true := he 23 (by kernel_rfl)
        rw [show kindRow _ _ = none from by kernel_rfl] at hf
        refine wpOp_run rfl rfl rfl f23 (fun K hK => ?_)
        go_simp
        refine (c_lives _).mono ?_
        rintro e w2 ⟨rfl, hb2⟩
        exact hK _ _ ⟨_, rfl, rfl, grown_bel hb2⟩
      · intro a w' hf he
        have f23 : a.tmps.getD 31 undef = .bool true := he 23 (by kernel_rfl)
        have f24 : a.tmps.getD 32 undef = .bool true := he 24 (by kernel_rfl)
        refine wpOp_step rfl (fun K hK => ?_)
        go_simp
        exact hK _ _ ⟨_, rfl, rfl, World.grownBy.refl _ _⟩
    · intro a w' hf he
      obtain ⟨u8, f0⟩ : ∃ u, a.tmps.getD 8 undef = u := ⟨_, rfl⟩
      obtain ⟨u9, f1⟩ : ∃ u, a.tmps.getD 9 undef = u := ⟨_, rfl⟩
      obtain ⟨u10, f2⟩ : ∃ u, a.tmps.getD 10 undef = u := ⟨_, rfl⟩
      obtain ⟨u11, f3⟩ : ∃ u, a.tmps.getD 11 undef = u := ⟨_, rfl⟩
      obtain ⟨u12, f4⟩ : ∃ u, a.tmps.getD 12 undef = u := ⟨_, rfl⟩
      obtain ⟨u13, f5⟩ : ∃ u, a.tmps.getD 13 undef = u := ⟨_, rfl⟩
      obtain ⟨u14, f6⟩ : ∃ u, a.tmps.getD 14 undef = u := ⟨_, rfl⟩
      obtain ⟨u15, f7⟩ : ∃ u, a.tmps.getD 15 undef = u := ⟨_, rfl⟩
      obtain ⟨u16, f8⟩ : ∃ u, a.tmps.getD 16 undef = u := ⟨_, rfl⟩
      obtain ⟨u17, f9⟩ : ∃ u, a.tmps.getD 17 undef = u := ⟨_, rfl⟩
      obtain ⟨u18, f10⟩ : ∃ u, a.tmps.getD 18 undef = u := ⟨_, rfl⟩
      obtain ⟨u19, f11⟩ : ∃ u, a.tmps.getD 19 undef = u := ⟨_, rfl⟩
      obtain ⟨u20, f12⟩ : ∃ u, a.tmps.getD 20 undef = u := ⟨_, rfl⟩
      obtain ⟨u21, f13⟩ : ∃ u, a.tmps.getD 21 undef = u := ⟨_, rfl⟩
      obtain ⟨u22, f14⟩ : ∃ u, a.tmps.getD 22 undef = u := ⟨_, rfl⟩
      obtain ⟨u23, f15⟩ : ∃ u, a.tmps.getD 23 undef = u := ⟨_, rfl⟩
      obtain ⟨u24, f16⟩ : ∃ u, a.tmps.getD 24 undef = u := ⟨_, rfl⟩
      obtain ⟨u25, f17⟩ : ∃ u, a.tmps.getD 25 undef = u := ⟨_, rfl⟩
      obtain ⟨u26, f18⟩ : ∃ u, a.tmps.getD 26 undef = u := ⟨_, rfl⟩
      obtain ⟨u27, f19⟩ : ∃ u, a.tmps.getD 27 undef = u := ⟨_, rfl⟩
      obtain ⟨u28, f20⟩ : ∃ u, a.tmps.getD 28 undef = u := ⟨_, rfl⟩
      obtain ⟨u29, f21⟩ : ∃ u, a.tmps.getD 29 undef = u := ⟨_, rfl⟩
      obtain ⟨u30, f22⟩ : ∃ u, a.tmps.getD 30 undef = u := ⟨_, rfl⟩
      obtain ⟨u31, f23⟩ : ∃ u, a.tmps.getD 31 undef = u := ⟨_, rfl⟩
      obtain ⟨u32, f24⟩ : ∃ u, a.tmps.getD 32 undef = u := ⟨_, rfl⟩
      have f25 : a.tmps.getD 33 undef = .bool true := he 25 (by decide)
      have hlit := hf.lit ((8, u8) :: (9, u9) :: (10, u10) :: (11, u11) :: (12, u12) :: (13, u13) :: (14, u14) :: (15, u15) :: (16, u16) :: (17, u17) :: (18, u18) :: (19, u19) :: (20, u20) :: (21, u21) :: (22, u22) :: (23, u23) :: (24, u24) :: (25, u25) :: (26, u26) :: (27, u27) :: (28, u28) :: (29, u29) :: (30, u30) :: (31, u31) :: (32, u32) :: (33, .bool true) :: []) (by kernel_rfl) ⟨f0, f1, f2, f3, f4, f5, f6, f7, f8, f9, f10, f11, f12, f13, f14, f15, f16, f17, f18, f19, f20, f21, f22, f23, f24, f25, trivial⟩
      have hB := hf.bel
      clear he hf f0 f1 f2 f3 f4 f5 f6 f7 f8 f9 f10 f11 f12 f13 f14 f15 f16 f17 f18 f19 f20 f21 f22 f23 f24 f25 
      subst hlit
      simp only [putAll_nil, putAll_cons, Act.put, List.setIfInBounds_toArray, List.set_cons_zero, List.set_cons_succ]
      simp only [List.drop_succ_cons, List.drop_zero]
      go_wp2_with fail
      go_ret
      exact ⟨rfl, HB.out.trans (hB.mono HB.out.size)⟩
theorem w_PackSame (p q : Ms) (A A' : Option Addr) (n c n' c' : Nat) (w : World) (h1 : Byt w A n c p.d) (h2 : Byt w A' n' c' q.d) :
    Calls Try.prog 10 #[msV p A n c, msV q A' n' c'] w fun e w' => e = .returned (.bool true) ∧ Below w.heap.size w w' := by
  have hs := fun w h1 h2 => c_Same p q A A' n c n' c' w h1 h2
  have hrs := fun w h1 h2 => c_rSame p q A A' n c n' c' w h1 h2
  have hss := fun w h1 => c_Same p p A A n c n c w h1 h1
  rw [show decide (SameP p p) = true from decide_eq_true (sameP_iff.2 rfl)] at hss
  generalize decide (SameP p q) = E at *
  obtain ⟨pk, pi, po, pm, pw, pd⟩ := p
  obtain ⟨qk, qi, qo, qm, qw, qd⟩ := q
  simp only [msV] at *
  obtain ⟨P, hP⟩ : ∃ P : Int, (pm : Int) = P := ⟨_, rfl⟩
  obtain ⟨Q, hQ⟩ : ∃ Q : Int, (qm : Int) = Q := ⟨_, rfl⟩
  rw [hP] at hs hrs hss ⊢
  rw [hQ] at hs hrs ⊢
  clear hP hQ
  obtain ⟨W2, hW2, x1, x2, hB⟩ := Bx.two_boxes w (.cells #[.int .i64 pk, .int .i64 pi, .int .i64 po, .int .u64 P, .bool pw, .slice A n c] 42) (.cells #[.int .i64 qk, .int .i64 qi, .int .i64 qo, .int .u64 Q, .bool qw, .slice A' n' c'] 42)
  have HB := Lib.hid hB
  have H1 := Lib.hid (h1.bel hB)
  have H2 := Lib.hid (h2.bel hB)
  have HX := Lib.hid x1
  have HY := Lib.hid x2
  clear x1 x2 hB h1 h2
  go_enter Try.func10, Try.ntmps10
  go_upto_region 1 with (fail)
  rw [← hW2]
  clear hW2
  refine wp_region_phi (by kernel_rfl) 15 none (fun _ => false) (fun i_ v wz => match i_ with
    | 0 => v = .agg #[.int .i64 pk, .int .i64 pi, .int .i64 po, .int .u64 P, .bool pw, .slice A n c]
    | 1 => v = .agg #[.int .i64 qk, .int .i64 qi, .int .i64 qo, .int .u64 Q, .bool qw, .slice A' n' c']
    | 2 => v = .bool E
    | 3 => v = .agg #[.int .i64 pk, .int .i64 pi, .int .i64 po, .int .u64 P, .bool pw, .slice A n c]
    | 4 => v = .agg #[.int .i64 qk, .int .i64 qi, .int .i64 qo, .int .u64 Q, .bool qw, .slice A' n' c']
    | 5 => v = .bool E
    | 6 => v = .bool true
    | 7 => v = .bool true
    | 8 => v = .agg #[.int .i64 pk, .int .i64 pi, .int .i64 po, .int .u64 P, .bool pw, .slice A n c]
    | 9 => v = .agg #[.int .i64 pk, .int .i64 pi, .int .i64 po, .int .u64 P, .bool pw, .slice A n c]
    | 10 => v = .bool true
    | 11 => v = .bool true
    | 12 => v = .bool true
    | 13 => v = .bool true
    | 14 => v = .bool true
    | _ => True) (by kernel_rfl) ?_ ?_ ?_
  · (repeat' (first | exact allLt_zero | refine allLt_succ ?_ ?_))
    · exact fun _ _ _ h _ => h
    · exact fun _ _ _ h _ => h
    · exact fun _ _ _ h _ => h
    · exact fun _ _ _ h _ => h
    · exact fun _ _ _ h _ => h
    · exact fun _ _ _ h _ => h
    · exact fun _ _ _ h _ => h
    · exact fun _ _ _ h _ => h
    · exact fun _ _ _ h _ => h
    · exact fun _ _ _ h _ => h
    · exact fun _ _ _ h _ => h
    · exact fun _ _ _ h _ => h
    · exact fun _ _ _ h _ => h
    · exact fun _ _ _ h _ => h
    · exact fun _ _ _ h _ => h
  · (repeat' (first | exact allLt_zero | refine allLt_succ ?_ ?_))
    · intro a w' hf he
      have k2 : a.tmps.getD 2 undef = .pointer (some ⟨w.heap.size, 0, none⟩) := hf.var (by kernel_rfl) rfl
      rw [show kindRow _ _ = none from by kernel_rfl] at hf
      obtain ⟨q0, q1, q2, q3, q4, q5⟩ := Bx.cells6 ((hf.bel.block _ (heap_lt HX.out)).trans HX.out)
      refine wpOp_step rfl (fun K hK => ?_)
      go_simp
      exact hK _ _ ⟨_, rfl, rfl, World.grownBy.refl _ _⟩
    · intro a w' hf he
      have k3 : a.tmps.getD 3 undef = .pointer (some ⟨w.heap.size + 1, 0, none⟩) := hf.var (by kernel_rfl) rfl
      rw [show kindRow _ _ = none from by kernel_rfl] at hf
      obtain ⟨q0, q1, q2, q3, q4, q5⟩ := Bx.cells6 ((hf.bel.block _ (heap_lt HY.out)).trans HY.out)
      refine wpOp_step rfl (fun K hK => ?_)
      go_simp
      exact hK _ _ ⟨_, rfl, rfl, World.grownBy.refl _ _⟩
    · intro a w' hf he
      have f0 : a.tmps.getD 5 undef = .agg #[.int .i64 pk, .int .i64 pi, .int .i64 po, .int .u64 P, .bool pw, .slice A n c] := he 0 (by kernel_rfl)
      have f1 : a.tmps.getD 6 undef = .agg #[.int .i64 qk, .int .i64 qi, .int .i64 qo, .int .u64 Q, .bool qw, .slice A' n' c'] := he 1 (by kernel_rfl)
      rw [show kindRow _ _ = none from by kernel_rfl] at hf
      refine wpOp_step rfl (fun K hK => ?_)
      go_simp
      (with_reducible refine (hs _ (H1.out.bel hf.bel) (H2.out.bel hf.bel)).mono ?_)
      rintro e w2 ⟨rfl, hb2⟩
      exact hK _ _ ⟨_, rfl, rfl, grown_bel hb2⟩
    · intro a w' hf he
      have k2 : a.tmps.getD 2 undef = .pointer (some ⟨w.heap.size, 0, none⟩) := hf.var (by kernel_rfl) rfl
      rw [show kindRow _ _ = none from by kernel_rfl] at hf
      obtain ⟨q0, q1, q2, q3, q4, q5⟩ := Bx.cells6 ((hf.bel.block _ (heap_lt HX.out)).trans HX.out)
      refine wpOp_step rfl (fun K hK => ?_)
      go_simp
      exact hK _ _ ⟨_, rfl, rfl, World.grownBy.refl _ _⟩
    · intro a w' hf he
      have k3 : a.tmps.getD 3 undef = .pointer (some ⟨w.heap.size + 1, 0, none⟩) := hf.var (by kernel_rfl) rfl
      rw [show kindRow _ _ = none from by kernel_rfl] at hf
      obtain ⟨q0, q1, q2, q3, q4, q5⟩ := Bx.cells6 ((hf.bel.block _ (heap_lt HY.out)).trans HY.out)
      refine wpOp_step rfl (fun K hK => ?_)
      go_simp
      exact hK _ _ ⟨_, rfl, rfl, World.grownBy.refl _ _⟩
    · intro a w' hf he
      have f3 : a.tmps.getD 8 undef = .agg #[.int .i64 pk, .int .i64 pi, .int .i64 po, .int .u64 P, .bool pw, .slice A n c] := he 3 (by kernel_rfl)
      have f4 : a.tmps.getD 9 undef = .agg #[.int .i64 qk, .int .i64 qi, .int .i64 qo, .int .u64 Q, .bool qw, .slice A' n' c'] := he 4 (by kernel_rfl)
      rw [show kindRow _ _ = none from by kernel_rfl] at hf
      refine wpOp_step rfl (fun K hK => ?_)
      go_simp
      (with_reducible refine (hrs _ (H1.out.bel hf.bel) (H2.out.bel hf.bel)).mono ?_)
      rintro e w2 ⟨rfl, hb2⟩
      exact hK _ _ ⟨_, rfl, rfl, grown_bel hb2⟩
    · intro a w' hf he
      have f2 : a.tmps.getD 7 undef = .bool E := he 2 (by kernel_rfl)
      have f5 : a.tmps.getD 10 undef = .bool E := he 5 (by kernel_rfl)
      rw [show kindRow _ _ = none from by kernel_rfl] at hf
      refine wpOp_step rfl (fun K hK => ?_)
      go_simp
      exact hK _ _ ⟨_, rfl, by simp, World.grownBy.refl _ _⟩
    · intro a w' hf he
      have f6 : a.tmps.getD 11 undef = .bool true := he 6 (by kernel_rfl)
      refine wpOp_step rfl (fun K hK => ?_)
      go_simp
      exact hK _ _ ⟨_, rfl, rfl, World.grownBy.refl _ _⟩
    · intro a w' hf he
      have k2 : a.tmps.getD 2 undef = .pointer (some ⟨w.heap.size, 0, none⟩) := hf.var (by kernel_rfl) rfl
      have f7 : a.tmps.getD 12 undef = .bool true := he 7 (by kernel_rfl)
      rw [show kindRow _ _ = none from by kernel_rfl] at hf
      obtain ⟨q0, q1, q2, q3, q4, q5⟩ := Bx.cells6 ((hf.bel.block _ (heap_lt HX.out)).trans HX.out)
      refine wpOp_run rfl rfl rfl f7 (fun K hK => ?_)
      go_simp
      exact hK _ _ ⟨_, rfl, rfl, World.grownBy.refl _ _⟩
    · intro a w' hf he
      have k2 : a.tmps.getD 2 undef = .pointer (some ⟨w.heap.size, 0, none⟩) := hf.var (by kernel_rfl) rfl
      have f7 : a.tmps.getD 12 undef = .bool true := he 7 (by kernel_rfl)
      rw [show kindRow _ _ = none from by kernel_rfl] at hf
      obtain ⟨q0, q1, q2, q3, q4, q5⟩ := Bx.cells6 ((hf.bel.block _ (heap_lt HX.out)).trans HX.out)
      refine wpOp_run rfl rfl rfl f7 (fun K hK => ?_)
      go_simp
      exact hK _ _ ⟨_, rfl, rfl, World.grownBy.refl _ _⟩
    · intro a w' hf he
      have f8 : a.tmps.getD 13 undef = .agg #[.int .i64 pk, .int .i64 pi, .int .i64 po, .int .u64 P, .bool pw, .slice A n c] := he 8 (by kernel_rfl)
      have f9 : a.tmps.getD 14 undef = .agg #[.int .i64 pk, .int .i64 pi, .int .i64 po, .int .u64 P, .bool pw, .slice A n c] := he 9 (by kernel_rfl)
      have f7 : a.tmps.getD 12 undef = .bool true := he 7 (by kernel_rfl)
      rw [show kindRow _ _ = none from by kernel_rfl] at hf
      refine wpOp_run rfl rfl rfl f7 (fun K hK => ?_)
      go_simp
      (with_reducible refine (hss _ (H1.out.bel hf.bel)).mono ?_)
      rintro e w2 ⟨rfl, hb2⟩
      exact hK _ _ ⟨_, rfl, rfl, grown_bel hb2⟩
    · intro a w' hf he
      have f7 : a.tmps.getD 12 undef = .bool true := he 7 (by kernel_rfl)
      have f10 : a.tmps.getD 15 undef = .bool true := he 10 (by kernel_rfl)
      refine wpOp_step rfl (fun K hK => ?_)
      go_simp
      exact hK _ _ ⟨_, rfl, rfl, World.grownBy.refl _ _⟩
    · intro a w' hf he
      have f11 : a.tmps.getD 16 undef = .bool true := he 11 (by kernel_rfl)
      refine wpOp_step rfl (fun K hK => ?_)
      go_simp
      exact hK _ _ ⟨_, rfl, rfl, World.grownBy.refl _ _⟩
    · intro a w' hf he
      have f12 : a.tmps.getD 17 undef = .bool true := he 12 (by kernel_rfl)
      rw [show kindRow _ _ = none from by kernel_rfl] at hf
      refine wpOp_run rfl rfl rfl f12 (fun K hK => ?_)
      go_simp
      refine (c_lives _).mono ?_
      rintro e w2 ⟨rfl, hb2⟩
      exact hK _ _ ⟨_, rfl, rfl, grown_bel hb2⟩
    · intro a w' hf he
      have f12 : a.tmps.getD 17 undef = .bool true := he 12 (by kernel_rfl)
      have f13 : a.tmps.getD 18 undef = .bool true := he 13 (by kernel_rfl)
      refine wpOp_step rfl (fun K hK => ?_)
      go_simp
      exact hK _ _ ⟨_, rfl, rfl, World.grownBy.refl _ _⟩
  · intro a w' hf he
    obtain ⟨u5, f0⟩ : ∃ u, a.tmps.getD 5 undef = u := ⟨_, rfl⟩
    obtain ⟨u6, f1⟩ : ∃ u, a.tmps.getD 6 undef = u := ⟨_, rfl⟩
    obtain ⟨u7, f2⟩ : ∃ u, a.tmps.getD 7 undef = u := ⟨_, rfl⟩
    obtain ⟨u8, f3⟩ : ∃ u, a.tmps.getD 8 undef = u := ⟨_, rfl⟩
    obtain ⟨u9, f4⟩ : ∃ u, a.tmps.getD 9 undef = u := ⟨_, rfl⟩
    obtain ⟨u10, f5⟩ : ∃ u, a.tmps.getD 10 undef = u := ⟨_, rfl⟩
    obtain ⟨u11, f6⟩ : ∃ u, a.tmps.getD 11 undef = u := ⟨_, rfl⟩
    obtain ⟨u12, f7⟩ : ∃ u, a.tmps.getD 12 undef = u := ⟨_, rfl⟩
    obtain ⟨u13, f8⟩ : ∃ u, a.tmps.getD 13 undef = u := ⟨_, rfl⟩
    obtain ⟨u14, f9⟩ : ∃ u, a.tmps.getD 14 undef = u := ⟨_, rfl⟩
    obtain ⟨u15, f10⟩ : ∃ u, a.tmps.getD 15 undef = u := ⟨_, rfl⟩
    obtain ⟨u16, f11⟩ : ∃ u, a.tmps.getD 16 undef = u := ⟨_, rfl⟩
    obtain ⟨u17, f12⟩ : ∃ u, a.tmps.getD 17 undef = u := ⟨_, rfl⟩
    obtain ⟨u18, f13⟩ : ∃ u, a.tmps.getD 18 undef = u := ⟨_, rfl⟩
    have f14 : a.tmps.getD 19 undef = .bool true := he 14 (by decide)
    have hlit := hf.lit ((5, u5) :: (6, u6) :: (7, u7) :: (8, u8) :: (9, u9) :: (10, u10) :: (11, u11) :: (12, u12) :: (13, u13) :: (14, u14) :: (15, u15) :: (16, u16) :: (17, u17) :: (18, u18) :: (19, .bool true) :: []) (by kernel_rfl) ⟨f0, f1, f2, f3, f4, f5, f6, f7, f8, f9, f10, f11, f12, f13, f14, trivial⟩
    have hB := hf.bel
    clear he hf f0 f1 f2 f3 f4 f5 f6 f7 f8 f9 f10 f11 f12 f13 f14 
    subst hlit
    simp only [putAll_nil, putAll_cons, Act.put, List.setIfInBounds_toArray, List.set_cons_zero, List.set_cons_succ]
    simp only [List.drop_succ_cons, List.drop_zero]
    go_wp2_with fail
    go_ret
    exact ⟨rfl, HB.out.trans (hB.mono HB.out.size)⟩
section
open Go.ChangeShapes Go.WideShapes Go.Deep
variable {H : Type} {enc : TypeId × Value → H} {P : Program} {W : World} {base : Nat} {spare : Nat → Bool} {held : Bool}
theorem open_ms {r : Reach} {base2 : Nat} {t : TypeId} {v : Value} {d : DataW H} {ps : List MemPlace} (hL : flat P 4 t = some [.int .i64, .int .i64, .int .i64, .int .u64, .bool, .bytes]) (hc : P.cellsOf t = 6) (ht : (P.underlying t).map (·.isRow) = some true)
    (hv : Value.okWide P W r base2 t v) (h : DataW.Trod enc P W base spare held t v d ps) : ∃ (p : Ms) (A : Option Addr) (n cb : Nat), v = msV p A n cb ∧ p.m < 18446744073709551616 ∧ Byt W A n cb p.d := by
  obtain ⟨cs, rfl, hr⟩ := open_agg 4 hL hc ht hv h
  obtain ⟨v1, r1, rfl, k1, hr⟩ := rowOk_cons hr
  obtain ⟨v2, r2, rfl, k2, hr⟩ := rowOk_cons hr
  obtain ⟨v3, r3, rfl, k3, hr⟩ := rowOk_cons hr
  obtain ⟨v4, r4, rfl, k4, hr⟩ := rowOk_cons hr
  obtain ⟨v5, r5, rfl, k5, hr⟩ := rowOk_cons hr
  obtain ⟨v6, r6, rfl, k6, hr⟩ := rowOk_cons hr
  obtain rfl := rowOk_nil hr
  obtain ⟨z1, rfl, q1⟩ := leaf_i64 k1
  obtain ⟨z2, rfl, q2⟩ := leaf_i64 k2
  obtain ⟨z3, rfl, q3⟩ := leaf_i64 k3
  obtain ⟨z4, rfl, q4⟩ := leaf_u64 k4
  obtain ⟨z5, rfl⟩ := k5
  obtain ⟨A, n, cb, b, rfl, hb⟩ := k6
  exact ⟨⟨z1, z2, z3, z4, z5, b⟩, A, n, cb, rfl, q4, hb⟩
end
end Go.Proofs.Ytdpggcpbgfancaa.Pack
