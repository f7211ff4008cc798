/- Contracts of the package meta; the law MetaNone, walked. Conditions: none. -/
import Derived.Test.YtaldlapnhhhclaaGreatB11
set_option linter.unusedVariables false
set_option linter.unusedSimpArgs false
namespace Go.Proofs.YtaldlapnhhhclaaGreat.Meta
open Go.RowKit Tw Disk Slots
set_option maxHeartbeats 4000000
set_option maxRecDepth 100000
theorem c_Look_nil (w : World) : Calls Tryz.prog 35 #[.pointer none] w fun e w' => e = .returned (.agg #[.int .u32 0, .int .u64 0, .int .u64 0]) ∧ Below w.heap.size w w' := by
  have HB := Lib.hid ((Below.refl w.heap.size w).alloc (Nat.le_refl _) (.cells #[.int .u32 0, .int .u64 0, .int .u64 0] 75))
  have HX := Lib.hid (heap_alloc_new w (.cells #[.int .u32 0, .int .u64 0, .int .u64 0] 75))
  go_enter Tryz.func35, Tryz.ntmps35
  go_upto_region 1 with (fail)
  generalize w.alloc (.cells #[.int .u32 0, .int .u64 0, .int .u64 0] 75) = W1 at *
  go_wp2_with (first
    | (go_at_call 76
       (with_reducible refine (Super.c_Boot_nil _).mono ?_)
       rintro e w1 ⟨rfl, hb1⟩
       have HB := Lib.hid (HB.out.trans (hb1.mono HB.out.size))
       have HX := Lib.hid ((hb1.block _ (heap_lt HX.out)).trans HX.out)
       skip
       clear hb1)
    | (go_at_call 77
       (with_reducible refine (Actlog.c_Get_nil _).mono ?_)
       rintro e w2 ⟨rfl, hb1⟩
       have HB := Lib.hid (HB.out.trans (hb1.mono HB.out.size))
       have HX := Lib.hid ((hb1.block _ (heap_lt HX.out)).trans HX.out)
       skip
       clear hb1)
    | (go_at_call 27
       (with_reducible refine (Dirty.c_Get_nil _).mono ?_)
       rintro e w3 ⟨rfl, hb1⟩
       have HB := Lib.hid (HB.out.trans (hb1.mono HB.out.size))
       have HX3 := Lib.hid ((hb1.block _ (heap_lt HX.out)).trans HX.out)
       clear hb1)
    | (refine wpL_store_all rfl rfl 75 (.tmp 2) (.tmp 9) rfl _ rfl _ rfl _ _ HX3.out (by kernel_rfl) rfl (by simp [Value.oneCell']) ?_
       intro w9 x9 g9
       have HR := Lib.hid x9
       have HBR := Lib.hid (HB.out.grown g9 HB.out.size (by rintro k ⟨⟩; exact Nat.le_refl _))
       clear x9 g9))
  refine bodyPost_ret (results_cell_row rfl _ _ w.heap.size _ _ (0, 0) _ rfl HR.out Tryz.underlying75 rfl (by kernel_rfl)) rfl ?_
  exact ⟨rfl, HBR.out⟩
section
variable {w : World} {p g mb c : Nat} {d d' : Dsk}
theorem c_Look (h : Dk w p g mb c d) (n1 q1 n2 q2 n3 q3 : Nat) (h1 : latest d 0 2 = (n1, q1)) (hq1 : q1 < 4294967296) (h2 : latest d 2 4 = (n2, q2)) (h3 : latest d 6 2 = (n3, q3)) :
    Calls Tryz.prog 35 #[.pointer (some ⟨p, 0, none⟩)] w fun e w' => e = .returned (.agg #[.int .u32 (q1 : Int), .int .u64 (q2 : Int), .int .u64 (q3 : Int)]) ∧ Below w.heap.size w w' := by
  have HB := Lib.hid ((Below.refl w.heap.size w).alloc (Nat.le_refl _) (.cells #[.int .u32 0, .int .u64 0, .int .u64 0] 75))
  have HX := Lib.hid (heap_alloc_new w (.cells #[.int .u32 0, .int .u64 0, .int .u64 0] 75))
  have HK := Lib.hid (h.bel HB.out)
  have H1 := Lib.hid h1
  have H2 := Lib.hid h2
  have H3 := Lib.hid h3
  clear h h1 h2 h3
  go_enter Tryz.func35, Tryz.ntmps35
  go_upto_region 1 with (fail)
  generalize w.alloc (.cells #[.int .u32 0, .int .u64 0, .int .u64 0] 75) = W1 at *
  go_wp2_with (first
    | (go_at_call 76
       (with_reducible refine (Super.c_BootI HK.out n1 q1 H1.out hq1).mono ?_)
       rintro e w1 ⟨rfl, hb1⟩
       have HB := Lib.hid (HB.out.trans (hb1.mono HB.out.size))
       have HX := Lib.hid ((hb1.block _ (heap_lt HX.out)).trans HX.out)
       have HK := Lib.hid (HK.out.bel hb1)
       clear hb1)
    | (go_at_call 77
       (with_reducible refine (Actlog.c_GetI HK.out n2 q2 H2.out).mono ?_)
       rintro e w2 ⟨rfl, hb1⟩
       have HB := Lib.hid (HB.out.trans (hb1.mono HB.out.size))
       have HX := Lib.hid ((hb1.block _ (heap_lt HX.out)).trans HX.out)
       have HK := Lib.hid (HK.out.bel hb1)
       clear hb1)
    | (go_at_call 27
       (with_reducible refine (Dirty.c_GetI HK.out n3 q3 H3.out).mono ?_)
       rintro e w3 ⟨rfl, hb1⟩
       have HB := Lib.hid (HB.out.trans (hb1.mono HB.out.size))
       have HX3 := Lib.hid ((hb1.block _ (heap_lt HX.out)).trans HX.out)
       clear hb1)
    | (refine wpL_store_all rfl rfl 75 (.tmp 2) (.tmp 9) rfl _ rfl _ rfl _ _ HX3.out (by kernel_rfl) rfl (by simp [Value.oneCell']) ?_
       intro w9 x9 g9
       have HR := Lib.hid x9
       have HBR := Lib.hid (HB.out.grown g9 HB.out.size (by rintro k ⟨⟩; exact Nat.le_refl _))
       clear x9 g9))
  refine bodyPost_ret (results_cell_row rfl _ _ w.heap.size _ _ (0, 0) _ rfl HR.out Tryz.underlying75 rfl (by kernel_rfl)) rfl ?_
  exact ⟨rfl, HBR.out⟩
end
theorem c_Mine (w : World) : Calls Tryz.prog 34 #[.agg #[.int .u32 0, .int .u64 3, .int .u64 4]] w fun e w' => e = .returned (.int .u64 7) ∧ Below w.heap.size w w' := by
  have HB := Lib.hid ((Below.refl w.heap.size w).alloc (Nat.le_refl _) (.cells #[.int .u32 0, .int .u64 3, .int .u64 4] 75))
  go_enter Tryz.func34, Tryz.ntmps34
  go_wp2_with fail
  go_ret
  exact ⟨rfl, HB.out⟩
theorem c_Start_nil (w : World) : Calls Tryz.prog 69 #[.pointer none] w fun e w' => e = .returned (.tuple #[.agg #[.int .u32 0, .int .u64 0, .int .u64 0], .int .i64 1]) ∧ Below w.heap.size w w' := by
  have HB := Lib.hid ((Below.refl w.heap.size w).alloc (Nat.le_refl _) (.cells #[.int .u32 0, .int .u64 0, .int .u64 0] 75))
  have HX := Lib.hid (heap_alloc_new w (.cells #[.int .u32 0, .int .u64 0, .int .u64 0] 75))
  go_enter Tryz.func69, Tryz.ntmps69
  go_upto_region 1 with (fail)
  generalize w.alloc (.cells #[.int .u32 0, .int .u64 0, .int .u64 0] 75) = W1 at *
  go_wp2_with (first
    | (go_at_call 125
       (with_reducible refine (Super.c_Next_nil _).mono ?_)
       rintro e w1 ⟨rfl, hb1⟩
       have HB := Lib.hid (HB.out.trans (hb1.mono HB.out.size))
       have HX3 := Lib.hid ((hb1.block _ (heap_lt HX.out)).trans HX.out)
       clear hb1)
    | (refine wpL_store_all rfl rfl 75 (.tmp 2) (.tmp 14) rfl _ rfl _ rfl _ _ HX3.out (by kernel_rfl) rfl (by simp [Value.oneCell']) ?_
       intro w9 x9 g9
       have HR := Lib.hid x9
       have HBR := Lib.hid (HB.out.grown g9 HB.out.size (by rintro k ⟨⟩; exact Nat.le_refl _))
       clear x9 g9))
  refine bodyPost_ret (results_cell2 rfl _ _ w.heap.size _ _ (0, 0) _ rfl HR.out Tryz.underlying75 rfl (by kernel_rfl) _ rfl) rfl ?_
  exact ⟨rfl, HBR.out⟩
end Go.Proofs.YtaldlapnhhhclaaGreat.Meta
