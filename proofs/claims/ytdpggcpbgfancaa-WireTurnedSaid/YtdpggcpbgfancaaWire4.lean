/- The law WireForms, walked; lives; its argument opened. Conditions: none. -/
import Derived.Test.YtdpggcpbgfancaaWire3
import Derived.Test.YtdpggcpbgfancaaFlat
import Derived.Test.YtdpggcpbgfancaaResult
import Derived.Test.YtdpggcpbgfancaaDisk4
namespace Go.Proofs.Ytdpggcpbgfancaa.Wire
open Go.RowKit Tw
set_option maxHeartbeats 8000000
set_option maxRecDepth 100000
theorem c_Parse_short (A : Option Addr) (n c : Nat) (w : World) (hn : n < 23) :
    Calls Try.prog 25 #[.slice A n c] w fun e w' => e = .returned (.tuple #[.agg #[.int .u32 0, .int .u32 0, .int .i64 0, .int .i64 0, .int .i64 0, .slice none 0 0], .int .i64 8]) ∧ Below w.heap.size w w' := by
  have HB := Lib.hid ((Below.refl _ _).alloc (Nat.le_refl w.heap.size) (.cells #[.int .u32 0, .int .u32 0, .int .i64 0, .int .i64 0, .int .i64 0, .slice none 0 0] 25))
  go_enter Try.func25, Try.ntmps25
  go_wp2_with fail
  refine bodyPost_ret (Disk.results_cell2 rfl _ _ w.heap.size _ _ (0, 0) _ rfl (heap_alloc_new w _) Try.underlying25 rfl (by kernel_rfl) _ rfl) rfl ?_
  exact ⟨rfl, HB.out⟩
theorem hello_len : (bytes 1 0 1 0 0 []).length = 23 := by decide +kernel
theorem c_BytesHello (w : World) : Calls Try.prog 21 #[.agg #[.int .u32 1, .int .u32 0, .int .i64 1, .int .i64 0, .int .i64 0, .slice none 0 0]] w fun e w' => ∃ A2 c2, e = .returned (.slice A2 23 c2) ∧ Below w.heap.size w w' := by
  have h : Calls Try.prog 21 #[.agg #[.int .u32 1, .int .u32 0, .int .i64 1, .int .i64 0, .int .i64 0, .slice none 0 0]] w fun e w' => ∃ A2 n2 c2, e = .returned (.slice A2 n2 c2) ∧ Byt w' A2 n2 c2 (bytes 1 0 1 0 0 []) ∧ Below w.heap.size w w' := c_Bytes 1 0 1 0 0 none 0 0 [] w (by omega) (by omega) Rd.nil_
  refine h.mono ?_
  rintro e w' ⟨A2, n2, c2, rfl, hb, hB⟩
  have h1 := hb.blen
  rw [hello_len] at h1
  subst h1
  exact ⟨A2, c2, rfl, hB⟩
theorem c_Name2 (w : World) : Calls Try.prog 23 #[.int .i64 2] w fun e w' => e = .returned (.string ⟨#[112, 105, 110, 103]⟩) ∧ w = w' := c_Name 2 w
theorem c_lives (w : World) : Calls Try.prog 18 #[] w fun e w' => e = .returned (.bool true) ∧ Below w.heap.size w w' := by
  go_enter Try.func18, Try.ntmps18
  go_wp2_with (first
    | (go_at_call 21
       (with_reducible refine (c_BytesHello _).mono ?_)
       rintro e w1 ⟨A1, c1, rfl, hb1⟩
       have HB1 := Lib.hid hb1
       clear hb1)
    | (at_make
       refine wpL_make _ rfl _ _ _ rfl w1 w1.heap.size (Below.refl _ _) (Nat.le_refl _) 5 _ 1 1 Try.underlying23 Num.info_u8 _ _ _ _ 22 rfl rfl rfl rfl (by omega) (by unfold maxLen; omega) _ rfl ?_
       intro w2 hown2 hb2 hg2
       have HB2 := Lib.hid (HB1.out.trans (hb2.mono HB1.out.size))
       clear hown2 hb2 hg2)
    | (go_at_call 25
       (with_reducible refine (c_Parse_short _ 22 _ _ (by omega)).mono ?_)
       rintro e w3 ⟨rfl, hb3⟩
       have HB3 := Lib.hid (HB2.out.trans ((hb3.alloc hb3.size (.cells #[.int .u32 0, .int .u32 0, .int .i64 0, .int .i64 0, .int .i64 0, .slice none 0 0] 25)).mono HB2.out.size))
       clear hb3)
    | (go_at_call 23
       (with_reducible refine (c_Name2 _).mono ?_)
       rintro e w4 ⟨rfl, rfl⟩))
  go_ret
  exact ⟨rfl, HB3.out⟩
theorem w_WireForms (f t : Nat) (k s ac : Int) (A : Option Addr) (n c : Nat) (body : List UInt8) (w : World) (hf : f < 4294967296) (ht : t < 4294967296) (hb : Byt w A n c body) :
    Calls Try.prog 3 #[.agg #[.int .u32 (f : Int), .int .u32 (t : Int), .int .i64 k, .int .i64 s, .int .i64 ac, .slice A n c]] w fun e w' => e = .returned (.bool true) ∧ Below w.heap.size w w' := by
  have HB := Lib.hid ((Below.refl _ _).alloc (Nat.le_refl w.heap.size) (.cells #[.int .u32 (f : Int), .int .u32 (t : Int), .int .i64 k, .int .i64 s, .int .i64 ac, .slice A n c] 25))
  have HX := Lib.hid (heap_alloc_new w (.cells #[.int .u32 (f : Int), .int .u32 (t : Int), .int .i64 k, .int .i64 s, .int .i64 ac, .slice A n c] 25))
  have Hb := Lib.hid (hb.bel HB.out)
  obtain ⟨k0, k1, k2, k3, k4, k5⟩ := cells6 HX.out
  clear hb
  have hg := fun w => c_Good f t k s ac A n c w
  have hrg := fun w => c_rGood f t k s ac A n c w
  have hby := fun w (hb : Byt w A n c body) => c_Bytes f t k s ac A n c body w hf ht hb
  have hrby := fun w (hb : Byt w A n c body) => c_rBytes f t k s ac A n c body w hf ht hb
  have hnm := fun w => c_Name k w
  have hrnm := fun w => c_rName k w
  generalize decide (Good f t k s ac n) = G at *
  generalize bytes f t k s ac body = BY at *
  generalize word k = WD at *
  go_enter Try.func3, Try.ntmps3
  go_upto_region 1 with (fail)
  generalize w.alloc (.cells #[.int .u32 (f : Int), .int .u32 (t : Int), .int .i64 k, .int .i64 s, .int .i64 ac, .slice A n c] 25) = W1 at *
  obtain ⟨F, hF⟩ : ∃ F : Int, (f : Int) = F := ⟨_, rfl⟩
  obtain ⟨T, hT⟩ : ∃ T : Int, (t : Int) = T := ⟨_, rfl⟩
  rw [hF] at k0 HX hg hrg hby hrby
  rw [hT] at k1 HX hg hrg hby hrby
  clear hF hT
  by_cases hn : 300 < n
  · go_wp2_with (first
      | (go_at_call 18
         (with_reducible refine (c_lives _).mono ?_)
         rintro e w1 ⟨rfl, hb1⟩
         have HB1 := Lib.hid (HB.out.trans (hb1.mono HB.out.size))
         clear hb1))
    go_ret
    exact ⟨rfl, HB1.out⟩
  · go_wp2_with fail
    refine wp_region_phi (by kernel_rfl) 27 none (fun _ => false) (fun i_ v wz => match i_ with
      | 0 => v = .agg #[.int .u32 F, .int .u32 T, .int .i64 k, .int .i64 s, .int .i64 ac, .slice A n c]
      | 1 => v = .bool G
      | 2 => v = .agg #[.int .u32 F, .int .u32 T, .int .i64 k, .int .i64 s, .int .i64 ac, .slice A n c]
      | 3 => v = .bool G
      | 4 => v = .bool true
      | 5 => v = .bool true
      | 6 => v = .agg #[.int .u32 F, .int .u32 T, .int .i64 k, .int .i64 s, .int .i64 ac, .slice A n c]
      | 7 => ∃ A2 n2 c2, v = .slice A2 n2 c2 ∧ Byt wz A2 n2 c2 BY
      | 8 => v = .string ⟨BY.toArray⟩
      | 9 => v = .agg #[.int .u32 F, .int .u32 T, .int .i64 k, .int .i64 s, .int .i64 ac, .slice A n c]
      | 10 => ∃ A2 n2 c2, v = .slice A2 n2 c2 ∧ Byt wz A2 n2 c2 BY
      | 11 => v = .string ⟨BY.toArray⟩
      | 12 => v = .bool true
      | 13 => v = .bool true
      | 14 => v = .bool true
      | 15 => v = .pointer (some ⟨w.heap.size, 2, none⟩)
      | 16 => v = .int .i64 k
      | 17 => v = .string WD
      | 18 => v = .pointer (some ⟨w.heap.size, 2, none⟩)
      | 19 => v = .int .i64 k
      | 20 => v = .string WD
      | 21 => v = .bool true
      | 22 => v = .bool true
      | 23 => v = .bool true
      | 24 => v = .bool true
      | 25 => v = .bool true
      | 26 => v = .bool true
      | _ => True) (by kernel_rfl) ?_ ?_ ?_
    · (repeat' (first | exact allLt_zero | refine allLt_succ ?_ ?_))
      · exact fun _ _ _ h _ => h
      · exact fun _ _ _ h _ => h
      · exact fun _ _ _ h _ => h
      · exact fun _ _ _ h _ => h
      · exact fun _ _ _ h _ => h
      · exact fun _ _ _ h _ => h
      · exact fun _ _ _ h _ => h
      · intro v w1 w2 h hg
        rw [show kindRow _ _ = none from by kernel_rfl] at hg
        obtain ⟨A2, n2, c2, rfl, hr⟩ := h
        exact ⟨A2, n2, c2, rfl, hr.bel (bel_grown hg)⟩
      · exact fun _ _ _ h _ => h
      · exact fun _ _ _ h _ => h
      · intro v w1 w2 h hg
        rw [show kindRow _ _ = none from by kernel_rfl] at hg
        obtain ⟨A2, n2, c2, rfl, hr⟩ := h
        exact ⟨A2, n2, c2, rfl, hr.bel (bel_grown hg)⟩
      · exact fun _ _ _ h _ => h
      · exact fun _ _ _ h _ => h
      · exact fun _ _ _ h _ => h
      · exact fun _ _ _ h _ => h
      · exact fun _ _ _ h _ => h
      · exact fun _ _ _ h _ => h
      · exact fun _ _ _ h _ => h
      · exact fun _ _ _ h _ => h
      · exact fun _ _ _ h _ => h
      · exact fun _ _ _ h _ => h
      · exact fun _ _ _ h _ => h
      · exact fun _ _ _ h _ => h
      · exact fun _ _ _ h _ => h
      · exact fun _ _ _ h _ => h
      · exact fun _ _ _ h _ => h
      · exact fun _ _ _ h _ => h
    · (repeat' (first | exact allLt_zero | refine allLt_succ ?_ ?_))
      · intro a w' hf he
        have k1 : a.tmps.getD 1 undef = .pointer (some ⟨w.heap.size, 0, none⟩) := hf.var (by kernel_rfl) rfl
        rw [show kindRow _ _ = none from by kernel_rfl] at hf
        obtain ⟨q0, q1, q2, q3, q4, q5⟩ := cells6 ((hf.bel.block _ (heap_lt HX.out)).trans HX.out)
        refine wpOp_step rfl (fun K hK => ?_)
        go_simp
        exact hK _ _ ⟨_, rfl, rfl, World.grownBy.refl _ _⟩
      · intro a w' hf he
        have f0 : a.tmps.getD 8 undef = .agg #[.int .u32 F, .int .u32 T, .int .i64 k, .int .i64 s, .int .i64 ac, .slice A n c] := he 0 (by kernel_rfl)
        rw [show kindRow _ _ = none from by kernel_rfl] at hf
        refine wpOp_step rfl (fun K hK => ?_)
        go_simp
        (with_reducible refine (hg _).mono ?_)
        rintro e w2 ⟨rfl, hb2⟩
        exact hK _ _ ⟨_, rfl, rfl, grown_bel hb2⟩
      · intro a w' hf he
        have k1 : a.tmps.getD 1 undef = .pointer (some ⟨w.heap.size, 0, none⟩) := hf.var (by kernel_rfl) rfl
        rw [show kindRow _ _ = none from by kernel_rfl] at hf
        obtain ⟨q0, q1, q2, q3, q4, q5⟩ := cells6 ((hf.bel.block _ (heap_lt HX.out)).trans HX.out)
        refine wpOp_step rfl (fun K hK => ?_)
        go_simp
        exact hK _ _ ⟨_, rfl, rfl, World.grownBy.refl _ _⟩
      · intro a w' hf he
        have f2 : a.tmps.getD 10 undef = .agg #[.int .u32 F, .int .u32 T, .int .i64 k, .int .i64 s, .int .i64 ac, .slice A n c] := he 2 (by kernel_rfl)
        rw [show kindRow _ _ = none from by kernel_rfl] at hf
        refine wpOp_step rfl (fun K hK => ?_)
        go_simp
        (with_reducible refine (hrg _).mono ?_)
        rintro e w2 ⟨rfl, hb2⟩
        exact hK _ _ ⟨_, rfl, rfl, grown_bel hb2⟩
      · intro a w' hf he
        have f1 : a.tmps.getD 9 undef = .bool G := he 1 (by kernel_rfl)
        have f3 : a.tmps.getD 11 undef = .bool G := he 3 (by kernel_rfl)
        rw [show kindRow _ _ = none from by kernel_rfl] at hf
        refine wpOp_step rfl (fun K hK => ?_)
        go_simp
        exact hK _ _ ⟨_, rfl, by simp, World.grownBy.refl _ _⟩
      · intro a w' hf he
        have f4 : a.tmps.getD 12 undef = .bool true := he 4 (by kernel_rfl)
        refine wpOp_step rfl (fun K hK => ?_)
        go_simp
        exact hK _ _ ⟨_, rfl, rfl, World.grownBy.refl _ _⟩
      · intro a w' hf he
        have k1 : a.tmps.getD 1 undef = .pointer (some ⟨w.heap.size, 0, none⟩) := hf.var (by kernel_rfl) rfl
        have f5 : a.tmps.getD 13 undef = .bool true := he 5 (by kernel_rfl)
        rw [show kindRow _ _ = none from by kernel_rfl] at hf
        obtain ⟨q0, q1, q2, q3, q4, q5⟩ := cells6 ((hf.bel.block _ (heap_lt HX.out)).trans HX.out)
        refine wpOp_run rfl rfl rfl f5 (fun K hK => ?_)
        go_simp
        exact hK _ _ ⟨_, rfl, rfl, World.grownBy.refl _ _⟩
      · intro a w' hf he
        have f6 : a.tmps.getD 14 undef = .agg #[.int .u32 F, .int .u32 T, .int .i64 k, .int .i64 s, .int .i64 ac, .slice A n c] := he 6 (by kernel_rfl)
        have f5 : a.tmps.getD 13 undef = .bool true := he 5 (by kernel_rfl)
        rw [show kindRow _ _ = none from by kernel_rfl] at hf
        refine wpOp_run rfl rfl rfl f5 (fun K hK => ?_)
        go_simp
        (with_reducible refine (hby _ (Hb.out.bel hf.bel)).mono ?_)
        rintro e w2 ⟨A2, n2, c2, rfl, ho2, hb2⟩
        exact hK _ _ ⟨_, rfl, ⟨_, _, _, rfl, ho2⟩, grown_bel hb2⟩
      · intro a w' hf he
        obtain ⟨A7, n7, c7, hv7, hr7⟩ := he 7 (by kernel_rfl)
        have f7 : a.tmps.getD 15 undef = _ := hv7
        have f5 : a.tmps.getD 13 undef = .bool true := he 5 (by kernel_rfl)
        rw [show kindRow _ _ = none from by kernel_rfl] at hf
        have hcv := run_str (P := Try.prog) w' 23 9 5 A7 n7 c7 BY Try.underlying23 Try.underlying5 Try.underlying9 hr7
        refine wpOp_run rfl rfl rfl f5 (fun K hK => ?_)
        go_simp
        exact hK _ _ ⟨_, rfl, rfl, World.grownBy.refl _ _⟩
      · intro a w' hf he
        have k1 : a.tmps.getD 1 undef = .pointer (some ⟨w.heap.size, 0, none⟩) := hf.var (by kernel_rfl) rfl
        have f5 : a.tmps.getD 13 undef = .bool true := he 5 (by kernel_rfl)
        rw [show kindRow _ _ = none from by kernel_rfl] at hf
        obtain ⟨q0, q1, q2, q3, q4, q5⟩ := cells6 ((hf.bel.block _ (heap_lt HX.out)).trans HX.out)
        refine wpOp_run rfl rfl rfl f5 (fun K hK => ?_)
        go_simp
        exact hK _ _ ⟨_, rfl, rfl, World.grownBy.refl _ _⟩
      · intro a w' hf he
        have f9 : a.tmps.getD 17 undef = .agg #[.int .u32 F, .int .u32 T, .int .i64 k, .int .i64 s, .int .i64 ac, .slice A n c] := he 9 (by kernel_rfl)
        have f5 : a.tmps.getD 13 undef = .bool true := he 5 (by kernel_rfl)
        rw [show kindRow _ _ = none from by kernel_rfl] at hf
        refine wpOp_run rfl rfl rfl f5 (fun K hK => ?_)
        go_simp
        (with_reducible refine (hrby _ (Hb.out.bel hf.bel)).mono ?_)
        rintro e w2 ⟨A2, n2, c2, rfl, ho2, hb2⟩
        exact hK _ _ ⟨_, rfl, ⟨_, _, _, rfl, ho2⟩, grown_bel hb2⟩
      · intro a w' hf he
        obtain ⟨A10, n10, c10, hv10, hr10⟩ := he 10 (by kernel_rfl)
        have f10 : a.tmps.getD 18 undef = _ := hv10
        have f5 : a.tmps.getD 13 undef = .bool true := he 5 (by kernel_rfl)
        rw [show kindRow _ _ = none from by kernel_rfl] at hf
        have hcv := run_str (P := Try.prog) w' 23 9 5 A10 n10 c10 BY Try.underlying23 Try.underlying5 Try.underlying9 hr10
        refine wpOp_run rfl rfl rfl f5 (fun K hK => ?_)
        go_simp
        exact hK _ _ ⟨_, rfl, rfl, World.grownBy.refl _ _⟩
      · intro a w' hf he
        have f8 : a.tmps.getD 16 undef = .string ⟨BY.toArray⟩ := he 8 (by kernel_rfl)
        have f11 : a.tmps.getD 19 undef = .string ⟨BY.toArray⟩ := he 11 (by kernel_rfl)
        have f5 : a.tmps.getD 13 undef = .bool true := he 5 (by kernel_rfl)
        refine wpOp_run rfl rfl rfl f5 (fun K hK => ?_)
        go_simp
        exact hK _ _ ⟨_, rfl, rfl, World.grownBy.refl _ _⟩
      · intro a w' hf he
        have f5 : a.tmps.getD 13 undef = .bool true := he 5 (by kernel_rfl)
        have f12 : a.tmps.getD 20 undef = .bool true := he 12 (by kernel_rfl)
        refine wpOp_step rfl (fun K hK => ?_)
        go_simp
        exact hK _ _ ⟨_, rfl, rfl, World.grownBy.refl _ _⟩
      · intro a w' hf he
        have f13 : a.tmps.getD 21 undef = .bool true := he 13 (by kernel_rfl)
        refine wpOp_step rfl (fun K hK => ?_)
        go_simp
        exact hK _ _ ⟨_, rfl, rfl, World.grownBy.refl _ _⟩
      · intro a w' hf he
        have k1 : a.tmps.getD 1 undef = .pointer (some ⟨w.heap.size, 0, none⟩) := hf.var (by kernel_rfl) rfl
        have f14 : a.tmps.getD 22 undef = .bool true := he 14 (by kernel_rfl)
        refine wpOp_run rfl rfl rfl f14 (fun K hK => ?_)
        go_simp
        exact hK _ _ ⟨_, rfl, rfl, World.grownBy.refl _ _⟩
      · intro a w' hf he
        have f15 : a.tmps.getD 23 undef = .pointer (some ⟨w.heap.size, 2, none⟩) := he 15 (by kernel_rfl)
        have f14 : a.tmps.getD 22 undef = .bool true := he 14 (by kernel_rfl)
        rw [show kindRow _ _ = none from by kernel_rfl] at hf
        have q2 := (cells6 ((hf.bel.block _ (heap_lt HX.out)).trans HX.out)).2.2.1
        refine wpOp_run rfl rfl rfl f14 (fun K hK => ?_)
        go_simp
        exact hK _ _ ⟨_, rfl, rfl, World.grownBy.refl _ _⟩
      · intro a w' hf he
        have f16 : a.tmps.getD 24 undef = .int .i64 k := he 16 (by kernel_rfl)
        have f14 : a.tmps.getD 22 undef = .bool true := he 14 (by kernel_rfl)
        rw [show kindRow _ _ = none from by kernel_rfl] at hf
        refine wpOp_run rfl rfl rfl f14 (fun K hK => ?_)
        go_simp
        refine (hnm _).mono ?_
        rintro e w2 ⟨rfl, rfl⟩
        exact hK _ _ ⟨_, rfl, rfl, World.grownBy.refl _ _⟩
      · intro a w' hf he
        have k1 : a.tmps.getD 1 undef = .pointer (some ⟨w.heap.size, 0, none⟩) := hf.var (by kernel_rfl) rfl
        have f14 : a.tmps.getD 22 undef = .bool true := he 14 (by kernel_rfl)
        refine wpOp_run rfl rfl rfl f14 (fun K hK => ?_)
        go_simp
        exact hK _ _ ⟨_, rfl, rfl, World.grownBy.refl _ _⟩
      · intro a w' hf he
        have f18 : a.tmps.getD 26 undef = .pointer (some ⟨w.heap.size, 2, none⟩) := he 18 (by kernel_rfl)
        have f14 : a.tmps.getD 22 undef = .bool true := he 14 (by kernel_rfl)
        rw [show kindRow _ _ = none from by kernel_rfl] at hf
        have q2 := (cells6 ((hf.bel.block _ (heap_lt HX.out)).trans HX.out)).2.2.1
        refine wpOp_run rfl rfl rfl f14 (fun K hK => ?_)
        go_simp
        exact hK _ _ ⟨_, rfl, rfl, World.grownBy.refl _ _⟩
      · intro a w' hf he
        have f19 : a.tmps.getD 27 undef = .int .i64 k := he 19 (by kernel_rfl)
        have f14 : a.tmps.getD 22 undef = .bool true := he 14 (by kernel_rfl)
        rw [show kindRow _ _ = none from by kernel_rfl] at hf
        refine wpOp_run rfl rfl rfl f14 (fun K hK => ?_)
        go_simp
        refine (hrnm _).mono ?_
        rintro e w2 ⟨rfl, hb2⟩
        exact hK _ _ ⟨_, rfl, rfl, grown_bel hb2⟩
      · intro a w' hf he
        have f17 : a.tmps.getD 25 undef = .string WD := he 17 (by kernel_rfl)
        have f20 : a.tmps.getD 28 undef = .string WD := he 20 (by kernel_rfl)
        have f14 : a.tmps.getD 22 undef = .bool true := he 14 (by kernel_rfl)
        refine wpOp_run rfl rfl rfl f14 (fun K hK => ?_)
        go_simp
        exact hK _ _ ⟨_, rfl, rfl, World.grownBy.refl _ _⟩
      · intro a w' hf he
        have f14 : a.tmps.getD 22 undef = .bool true := he 14 (by kernel_rfl)
        have f21 : a.tmps.getD 29 undef = .bool true := he 21 (by kernel_rfl)
        refine wpOp_step rfl (fun K hK => ?_)
        go_simp
        exact hK _ _ ⟨_, rfl, rfl, World.grownBy.refl _ _⟩
      · intro a w' hf he
        have f22 : a.tmps.getD 30 undef = .bool true := he 22 (by kernel_rfl)
        refine wpOp_step rfl (fun K hK => ?_)
        go_simp
        exact hK _ _ ⟨_, rfl, rfl, World.grownBy.refl _ _⟩
      · intro a w' hf he
        have f23 : a.tmps.getD 31 undef = .bool true := he 23 (by kernel_rfl)
        rw [show kindRow _ _ = none from by kernel_rfl] at hf
        refine wpOp_run rfl rfl rfl f23 (fun K hK => ?_)
        go_simp
        refine (c_lives _).mono ?_
        rintro e w2 ⟨rfl, hb2⟩
        exact hK _ _ ⟨_, rfl, rfl, grown_bel hb2⟩
      · intro a w' hf he
        have f23 : a.tmps.getD 31 undef = .bool true := he 23 (by kernel_rfl)
        have f24 : a.tmps.getD 32 undef = .bool true := he 24 (by kernel_rfl)
        refine wpOp_step rfl (fun K hK => ?_)
        go_simp
        exact hK _ _ ⟨_, rfl, rfl, World.grownBy.refl _ _⟩
      · intro a w' hf he
        have f25 : a.tmps.getD 33 undef = .bool true := he 25 (by kernel_rfl)
        refine wpOp_step rfl (fun K hK => ?_)
        go_simp
        exact hK _ _ ⟨_, rfl, rfl, World.grownBy.refl _ _⟩
    · intro a w' hf he
      obtain ⟨u8, f0⟩ : ∃ u, a.tmps.getD 8 undef = u := ⟨_, rfl⟩
      obtain ⟨u9, f1⟩ : ∃ u, a.tmps.getD 9 undef = u := ⟨_, rfl⟩
      obtain ⟨u10, f2⟩ : ∃ u, a.tmps.getD 10 undef = u := ⟨_, rfl⟩
      obtain ⟨u11, f3⟩ : ∃ u, a.tmps.getD 11 undef = u := ⟨_, rfl⟩
      obtain ⟨u12, f4⟩ : ∃ u, a.tmps.getD 12 undef = u := ⟨_, rfl⟩
      obtain ⟨u13, f5⟩ : ∃ u, a.tmps.getD 13 undef = u := ⟨_, rfl⟩
      obtain ⟨u14, f6⟩ : ∃ u, a.tmps.getD 14 undef = u := ⟨_, rfl⟩
      obtain ⟨u15, f7⟩ : ∃ u, a.tmps.getD 15 undef = u := ⟨_, rfl⟩
      obtain ⟨u16, f8⟩ : ∃ u, a.tmps.getD 16 undef = u := ⟨_, rfl⟩
      obtain ⟨u17, f9⟩ : ∃ u, a.tmps.getD 17 undef = u := ⟨_, rfl⟩
      obtain ⟨u18, f10⟩ : ∃ u, a.tmps.getD 18 undef = u := ⟨_, rfl⟩
      obtain ⟨u19, f11⟩ : ∃ u, a.tmps.getD 19 undef = u := ⟨_, rfl⟩
      obtain ⟨u20, f12⟩ : ∃ u, a.tmps.getD 20 undef = u := ⟨_, rfl⟩
      obtain ⟨u21, f13⟩ : ∃ u, a.tmps.getD 21 undef = u := ⟨_, rfl⟩
      obtain ⟨u22, f14⟩ : ∃ u, a.tmps.getD 22 undef = u := ⟨_, rfl⟩
      obtain ⟨u23, f15⟩ : ∃ u, a.tmps.getD 23 undef = u := ⟨_, rfl⟩
      obtain ⟨u24, f16⟩ : ∃ u, a.tmps.getD 24 undef = u := ⟨_, rfl⟩
      obtain ⟨u25, f17⟩ : ∃ u, a.tmps.getD 25 undef = u := ⟨_, rfl⟩
      obtain ⟨u26, f18⟩ : ∃ u, a.tmps.getD 26 undef = u := ⟨_, rfl⟩
      obtain ⟨u27, f19⟩ : ∃ u, a.tmps.getD 27 undef = u := ⟨_, rfl⟩
      obtain ⟨u28, f20⟩ : ∃ u, a.tmps.getD 28 undef = u := ⟨_, rfl⟩
      obtain ⟨u29, f21⟩ : ∃ u, a.tmps.getD 29 undef = u := ⟨_, rfl⟩
      obtain ⟨u30, f22⟩ : ∃ u, a.tmps.getD 30 undef = u := ⟨_, rfl⟩
      obtain ⟨u31, f23⟩ : ∃ u, a.tmps.getD 31 undef = u := ⟨_, rfl⟩
      obtain ⟨u32, f24⟩ : ∃ u, a.tmps.getD 32 undef = u := ⟨_, rfl⟩
      obtain ⟨u33, f25⟩ : ∃ u, a.tmps.getD 33 undef = u := ⟨_, rfl⟩
      have f26 : a.tmps.getD 2 undef = .bool true := he 26 (by decide)
      have hlit := hf.lit ((8, u8) :: (9, u9) :: (10, u10) :: (11, u11) :: (12, u12) :: (13, u13) :: (14, u14) :: (15, u15) :: (16, u16) :: (17, u17) :: (18, u18) :: (19, u19) :: (20, u20) :: (21, u21) :: (22, u22) :: (23, u23) :: (24, u24) :: (25, u25) :: (26, u26) :: (27, u27) :: (28, u28) :: (29, u29) :: (30, u30) :: (31, u31) :: (32, u32) :: (33, u33) :: (2, .bool true) :: []) (by kernel_rfl) ⟨f0, f1, f2, f3, f4, f5, f6, f7, f8, f9, f10, f11, f12, f13, f14, f15, f16, f17, f18, f19, f20, f21, f22, f23, f24, f25, f26, trivial⟩
      have hB := hf.bel
      clear he hf f0 f1 f2 f3 f4 f5 f6 f7 f8 f9 f10 f11 f12 f13 f14 f15 f16 f17 f18 f19 f20 f21 f22 f23 f24 f25 f26 
      subst hlit
      simp only [putAll_nil, putAll_cons, Act.put, List.setIfInBounds_toArray, List.set_cons_zero, List.set_cons_succ]
      simp only [List.drop_succ_cons, List.drop_zero]
      go_wp2_with fail
      go_ret
      exact ⟨rfl, HB.out.trans (hB.mono HB.out.size)⟩
section
open Go.ChangeShapes Go.WideShapes Go.Deep
variable {H : Type} {enc : TypeId × Value → H} {P : Program} {W : World} {base : Nat} {spare : Nat → Bool} {held : Bool}
theorem open_pk {r : Reach} {base2 : Nat} {t : TypeId} {v : Value} {d : DataW H} {ps : List MemPlace} (hL : flat P 4 t = some [.int .u32, .int .u32, .int .i64, .int .i64, .int .i64, .bytes]) (hc : P.cellsOf t = 6) (ht : (P.underlying t).map (·.isRow) = some true)
    (hv : Value.okWide P W r base2 t v) (h : DataW.Trod enc P W base spare held t v d ps) : ∃ (f t : Nat) (k s a : Int) (A : Option Addr) (n cb : Nat) (b : List UInt8), v = .agg #[.int .u32 (f : Int), .int .u32 (t : Int), .int .i64 k, .int .i64 s, .int .i64 a, .slice A n cb] ∧ f < 4294967296 ∧ t < 4294967296 ∧ Byt W A n cb b := by
  obtain ⟨cs, rfl, hr⟩ := open_agg 4 hL hc ht hv h
  obtain ⟨v1, r1, rfl, k1, hr⟩ := rowOk_cons hr
  obtain ⟨v2, r2, rfl, k2, hr⟩ := rowOk_cons hr
  obtain ⟨v3, r3, rfl, k3, hr⟩ := rowOk_cons hr
  obtain ⟨v4, r4, rfl, k4, hr⟩ := rowOk_cons hr
  obtain ⟨v5, r5, rfl, k5, hr⟩ := rowOk_cons hr
  obtain ⟨v6, r6, rfl, k6, hr⟩ := rowOk_cons hr
  obtain rfl := rowOk_nil hr
  obtain ⟨z1, rfl, q1⟩ := leaf_u32 k1
  obtain ⟨z2, rfl, q2⟩ := leaf_u32 k2
  obtain ⟨z3, rfl, q3⟩ := leaf_i64 k3
  obtain ⟨z4, rfl, q4⟩ := leaf_i64 k4
  obtain ⟨z5, rfl, q5⟩ := leaf_i64 k5
  obtain ⟨A, n, cb, b, rfl, hb⟩ := k6
  exact ⟨z1, z2, z3, z4, z5, A, n, cb, b, rfl, q1, q2, hb⟩
end
end Go.Proofs.Ytdpggcpbgfancaa.Wire
