/- Of a disk that no call made: its methods. Conditions: none. -/
import Derived.Test.YtplemdgihlabgaaDiskLive
import Derived.Test.YtplemdgihlabgaaFlat
set_option linter.unusedVariables false
set_option linter.unusedSimpArgs false
namespace Go.Proofs.Ytplemdgihlabgaa.Disk
open Go.RowKit Tw Go.Maps Go.ChangeMaps
set_option maxHeartbeats 4000000
set_option maxRecDepth 100000

/-- No disk: no pointer, or one to a disk without sectors. -/
def NoDk (w : World) (v : Value) : Prop := v = .pointer none ∨ ∃ p, v = .pointer (some ⟨p, 0, none⟩) ∧ p < w.heap.size ∧ w.cell? ⟨p, 0, none⟩ = some (.slice none 0 0)
section
variable {w : World} {v : Value}
theorem NoDk.bel {w' : World} (h : NoDk w v) (hb : Below w.heap.size w w') : NoDk w' v := by
  rcases h with rfl | ⟨p, rfl, hp, hc⟩
  · exact .inl rfl
  · refine .inr ⟨p, rfl, Nat.lt_of_lt_of_le hp hb.size, ?_⟩
    simpa only [World.cell?, hb.block p hp] using hc
theorem NoDk.drewN (h : NoDk w v) (m : Nat) : NoDk (w.drewN m) v := by
  rcases h with rfl | ⟨p, rfl, hp, hc⟩
  · exact .inl rfl
  · exact .inr ⟨p, rfl, hp, hc⟩
theorem c_Made_none (h : NoDk w v) : Calls Try.prog 19 #[v] w fun e w' => e = .returned (.bool false) ∧ w = w' := by
  rcases h with rfl | ⟨p, rfl, hp, hc⟩
  · go_enter Try.func19, Try.ntmps19
    go_wp2
    go_ret
    exact ⟨rfl, rfl⟩
  · have hq := run_neq_slice_nil_any (P := Try.prog) w 28 23 none 0 0 0 0 Try.underlying28
    go_enter Try.func19, Try.ntmps19
    go_wp2_with fail
    go_ret
    exact ⟨rfl, rfl⟩
theorem c_Flush_none (h : NoDk w v) : Calls Try.prog 18 #[v] w fun e w' => e = .returned (.int .i64 1) ∧ w = w' := by
  have Hv := Lib.hid h
  clear h
  go_enter Try.func18, Try.ntmps18
  go_wp2_with (first
    | (go_at_call 19; (with_reducible refine (c_Made_none Hv.out).mono ?_); rintro e w' ⟨rfl, rfl⟩))
  go_ret
  exact ⟨rfl, rfl⟩
theorem c_Size_none (h : NoDk w v) : Calls Try.prog 21 #[v] w fun e w' => e = .returned (.int .i64 0) ∧ w = w' := by
  have Hv := Lib.hid h
  clear h
  go_enter Try.func21, Try.ntmps21
  go_wp2_with (first
    | (go_at_call 19; (with_reducible refine (c_Made_none Hv.out).mono ?_); rintro e w' ⟨rfl, rfl⟩))
  go_ret
  exact ⟨rfl, rfl⟩
theorem c_Ops_none (h : NoDk w v) : Calls Try.prog 22 #[v] w fun e w' => e = .returned (.int .i64 0) ∧ w = w' := by
  have Hv := Lib.hid h
  clear h
  go_enter Try.func22, Try.ntmps22
  go_wp2_with (first
    | (go_at_call 19; (with_reducible refine (c_Made_none Hv.out).mono ?_); rintro e w' ⟨rfl, rfl⟩))
  go_ret
  exact ⟨rfl, rfl⟩
theorem c_Cached_none (h : NoDk w v) : Calls Try.prog 23 #[v] w fun e w' => e = .returned (.slice none 0 0) ∧ w = w' := by
  have Hv := Lib.hid h
  clear h
  go_enter Try.func23, Try.ntmps23
  go_wp2_with (first
    | (go_at_call 19; (with_reducible refine (c_Made_none Hv.out).mono ?_); rintro e w' ⟨rfl, rfl⟩))
  go_ret
  exact ⟨rfl, rfl⟩
theorem c_Copy_none (h : NoDk w v) : Calls Try.prog 25 #[v] w fun e w' => e = .returned (.pointer none) ∧ w = w' := by
  have Hv := Lib.hid h
  clear h
  go_enter Try.func25, Try.ntmps25
  go_wp2_with (first
    | (go_at_call 19; (with_reducible refine (c_Made_none Hv.out).mono ?_); rintro e w' ⟨rfl, rfl⟩))
  go_ret
  exact ⟨rfl, rfl⟩
theorem c_Broken_none (h : NoDk w v) : Calls Try.prog 20 #[v] w fun e w' => e = .returned (.bool false) ∧ w = w' := by
  have Hv := Lib.hid h
  clear h
  go_enter Try.func20, Try.ntmps20
  go_wp2_with (first
    | (go_at_call 19; (with_reducible refine (c_Made_none Hv.out).mono ?_); rintro e w' ⟨rfl, rfl⟩))
  go_ret
  exact ⟨rfl, rfl⟩
theorem c_Fuse_none (h : NoDk w v) (k : Int) : Calls Try.prog 15 #[v, .int .i64 k] w fun e w' => e = .returned (.tuple #[]) ∧ w = w' := by
  have Hv := Lib.hid h
  clear h
  go_enter Try.func15, Try.ntmps15
  go_wp2_with (first
    | (go_at_call 19; (with_reducible refine (c_Made_none Hv.out).mono ?_); rintro e w' ⟨rfl, rfl⟩))
  refine bodyPost_end (results_none rfl _ _ _) rfl ?_
  exact ⟨rfl, rfl⟩
theorem c_Crash_none (h : NoDk w v) (k : Int) : Calls Try.prog 16 #[v, .int .u64 k] w fun e w' => e = .returned (.tuple #[]) ∧ w = w' := by
  have Hv := Lib.hid h
  clear h
  go_enter Try.func16, Try.ntmps16
  go_wp2_with (first
    | (go_at_call 19; (with_reducible refine (c_Made_none Hv.out).mono ?_); rintro e w' ⟨rfl, rfl⟩))
  refine bodyPost_ret (results_none rfl _ _ _) rfl ?_
  exact ⟨rfl, rfl⟩
theorem c_Write_none (h : NoDk w v) (x : Int) (s : Sec) (hs : s.length = 16) : Calls Try.prog 17 #[v, .int .i64 x, .agg (bytesV s).toArray] w fun e w' => e = .returned (.int .i64 1) ∧ Below w.heap.size w w' := by
  have HB := Lib.hid ((Below.refl w.heap.size w).alloc (Nat.le_refl _) (.cells (bytesV s).toArray 23))
  have Hv := Lib.hid (h.bel HB.out)
  clear h
  go_enter Try.func17, Try.ntmps17
  go_wp2_with (first
    | (go_at_call 19; (with_reducible refine (c_Made_none Hv.out).mono ?_); rintro e w' ⟨rfl, rfl⟩))
  go_ret
  exact ⟨rfl, HB.out⟩
theorem c_Durable_none (h : NoDk w v) (x : Int) : Calls Try.prog 24 #[v, .int .i64 x] w fun e w' => e = .returned (secVal 0) ∧ Below w.heap.size w w' := by
  have HB := Lib.hid ((Below.refl w.heap.size w).alloc (Nat.le_refl _) (.cells Z16 23))
  have H := Lib.hid (h.bel HB.out)
  have HX := Lib.hid (heap_alloc_new w (.cells Z16 23))
  unfold Z16 at *
  clear h
  go_enter Try.func24, Try.ntmps24
  go_upto_region 1 with (fail)
  generalize (w.alloc (.cells #[.int .u8 0, .int .u8 0, .int .u8 0, .int .u8 0, .int .u8 0, .int .u8 0, .int .u8 0, .int .u8 0, .int .u8 0, .int .u8 0, .int .u8 0, .int .u8 0, .int .u8 0, .int .u8 0, .int .u8 0, .int .u8 0] 23)) = W1 at *
  go_wp2_with (first
    | (go_at_call 19
       (with_reducible refine (c_Made_none H.out).mono ?_)
       rintro e w' ⟨rfl, rfl⟩)
    | (refine wpL_store_all rfl rfl 23 (.tmp 4) (.tmp 14) rfl _ rfl _ rfl _ _ HX.out (by kernel_rfl) rfl (by simp [Value.oneCell']) ?_
       intro w2 x2 g2
       have HR := Lib.hid x2
       have HBR := Lib.hid (HB.out.grown g2 HB.out.size (by rintro k ⟨⟩; exact Nat.le_refl _))
       clear x2 g2))
  refine bodyPost_ret (results_cell_row rfl _ _ w.heap.size _ _ (0, 0) _ rfl HR.out Try.underlying23 rfl (by kernel_rfl)) rfl ?_
  exact ⟨rfl, HBR.out⟩
theorem c_Read_none (h : NoDk w v) (x : Int) : Calls Try.prog 14 #[v, .int .i64 x] w fun e w' => e = .returned (.tuple #[secVal 0, .int .i64 1]) ∧ Below w.heap.size w w' := by
  have HB := Lib.hid ((Below.refl w.heap.size w).alloc (Nat.le_refl _) (.cells Z16 23))
  have H := Lib.hid (h.bel HB.out)
  have HX := Lib.hid (heap_alloc_new w (.cells Z16 23))
  unfold Z16 at *
  clear h
  go_enter Try.func14, Try.ntmps14
  go_upto_block 0 with (fail)
  generalize (w.alloc (.cells #[.int .u8 0, .int .u8 0, .int .u8 0, .int .u8 0, .int .u8 0, .int .u8 0, .int .u8 0, .int .u8 0, .int .u8 0, .int .u8 0, .int .u8 0, .int .u8 0, .int .u8 0, .int .u8 0, .int .u8 0, .int .u8 0] 23)) = W1 at *
  go_wp2_with (first
    | (go_at_call 19
       (with_reducible refine (c_Made_none H.out).mono ?_)
       rintro e w' ⟨rfl, rfl⟩)
    | (refine wpL_store_all rfl rfl 23 (.tmp 4) (.tmp 12) rfl _ rfl _ rfl _ _ HX.out (by kernel_rfl) rfl (by simp [Value.oneCell']) ?_
       intro w2 x2 g2
       have HR := Lib.hid x2
       have HBR := Lib.hid (HB.out.grown g2 HB.out.size (by rintro k ⟨⟩; exact Nat.le_refl _))
       clear x2 g2))
  refine bodyPost_ret (results_cell2 rfl _ _ w.heap.size _ _ (0, 0) _ rfl HR.out Try.underlying23 rfl (by kernel_rfl) _ rfl) rfl ?_
  exact ⟨rfl, HBR.out⟩
end

/-- an act as cells -/
def dactV (k a : Int) (s : Sec) (m : Nat) : List Value := [.int .i64 k, .int .i64 a] ++ (bytesV s ++ [.int .u64 (m : Int)])
theorem dact_of {W : World} {r : List Value} (h : RowOk W ([.int .i64, .int .i64] ++ (List.replicate 16 (.int .u8) ++ [.int .u64])) r) :
    ∃ (k a : Int) (s : Sec) (m : Nat), r = dactV k a s m ∧ (-9223372036854775808 ≤ k ∧ k ≤ 9223372036854775807) ∧ (-9223372036854775808 ≤ a ∧ a ≤ 9223372036854775807) ∧ s.length = 16 ∧ m < 18446744073709551616 := by
  obtain ⟨v1, r1, rfl, k1, h⟩ := rowOk_cons h
  obtain ⟨v2, r2, rfl, k2, h⟩ := rowOk_cons h
  obtain ⟨s, r3, hs, rfl, h3⟩ := rowOk_u8s h
  obtain ⟨v4, r4, rfl, k4, h⟩ := rowOk_cons h3
  obtain rfl := rowOk_nil h
  obtain ⟨z1, rfl, q1⟩ := leaf_i64 k1
  obtain ⟨z2, rfl, q2⟩ := leaf_i64 k2
  obtain ⟨m, rfl, hm⟩ := leaf_u64 k4
  exact ⟨z1, z2, s, m, rfl, q1, q2, hs, hm⟩
section
open Go.ChangeShapes Go.WideShapes Go.Deep
variable {H : Type} {enc : TypeId × Value → H} {P : Program} {W : World} {base : Nat} {spare : Nat → Bool} {held : Bool}
theorem open_dact {r : Reach} {base2 : Nat} {t : TypeId} {v : Value} {d : DataW H} {ps : List MemPlace} (hL : flat P 4 t = some ([.int .i64, .int .i64] ++ (List.replicate 16 (.int .u8) ++ [.int .u64]))) (hc : P.cellsOf t = 19) (ht : (P.underlying t).map (·.isRow) = some true)
    (hv : Value.okWide P W r base2 t v) (h : DataW.Trod enc P W base spare held t v d ps) : ∃ (k a : Int) (s : Sec) (m : Nat), v = .agg (dactV k a s m).toArray ∧ (-9223372036854775808 ≤ k ∧ k ≤ 9223372036854775807) ∧ (-9223372036854775808 ≤ a ∧ a ≤ 9223372036854775807) ∧ s.length = 16 ∧ m < 18446744073709551616 := by
  obtain ⟨cs, rfl, hr⟩ := open_agg 4 hL hc ht hv h
  obtain ⟨k, a, s, m, rfl, q⟩ := dact_of hr
  exact ⟨k, a, s, m, rfl, q⟩
end
end Go.Proofs.Ytplemdgihlabgaa.Disk
