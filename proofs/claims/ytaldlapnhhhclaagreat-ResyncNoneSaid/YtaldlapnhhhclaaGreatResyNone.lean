/- The law ResyncNone, walked. Conditions: none. -/
import Derived.Test.YtaldlapnhhhclaaGreatB17
import Derived.Test.YtaldlapnhhhclaaGreatMeta3
import Derived.Test.YtaldlapnhhhclaaGreatCopyingNone
set_option linter.unusedVariables false
set_option linter.unusedSimpArgs false
namespace Go.Proofs.YtaldlapnhhhclaaGreat.Rsy
open Go.RowKit Tw Bt Disk Slots Copying Go.Proofs.YtaldlapnhhhclaaGreat.Data
set_option maxHeartbeats 8000000
set_option maxRecDepth 100000
/-- no resync that a call made -/
def NoR (w : World) (v : Value) : Prop := v = .pointer none ∨ ∃ g, v = .pointer (some ⟨g, 0, none⟩) ∧ g < w.heap.size ∧ w.cell? ⟨g, 1, none⟩ = some (.pointer none)
section
variable {w w' : World} {v : Value}
theorem NoR.bel (h : NoR w v) (hb : Below w.heap.size w w') : NoR w' v := by
  rcases h with h | ⟨g, h1, h2, h3⟩
  · exact .inl h
  · exact .inr ⟨g, h1, Nat.lt_of_lt_of_le h2 hb.size, (hb.cell (p := ⟨g, 1, none⟩) h2).trans h3⟩
theorem c_is_none (h : NoR w v) : Calls Tryz.prog 51 #[v] w fun e w' => e = .returned (.bool false) ∧ w = w' := by
  rcases h with rfl | ⟨g, rfl, _, k1⟩
  · go_enter Tryz.func51, Tryz.ntmps51
    go_wp2_with fail
    go_ret
    exact ⟨rfl, rfl⟩
  · go_enter Tryz.func51, Tryz.ntmps51
    go_wp2_with fail
    go_ret
    exact ⟨rfl, rfl⟩
theorem c_Source_none (h : NoR w v) : Calls Tryz.prog 12 #[v] w fun e w' => e = .returned (.bool false) ∧ w = w' := by
  have Hv := Lib.hid h
  clear h
  go_enter Tryz.func12, Tryz.ntmps12
  go_wp2_with (first
    | (go_at_call 51
       (with_reducible refine (c_is_none Hv.out).mono ?_)
       rintro e w1 ⟨rfl, rfl⟩))
  go_ret
  exact ⟨rfl, rfl⟩
theorem c_Over_none (h : NoR w v) : Calls Tryz.prog 13 #[v] w fun e w' => e = .returned (.bool false) ∧ w = w' := by
  have Hv := Lib.hid h
  clear h
  go_enter Tryz.func13, Tryz.ntmps13
  go_wp2_with (first
    | (go_at_call 51
       (with_reducible refine (c_is_none Hv.out).mono ?_)
       rintro e w1 ⟨rfl, rfl⟩))
  go_ret
  exact ⟨rfl, rfl⟩
theorem c_Left_none (h : NoR w v) : Calls Tryz.prog 14 #[v] w fun e w' => e = .returned (.int .u64 0) ∧ w = w' := by
  have Hv := Lib.hid h
  clear h
  go_enter Tryz.func14, Tryz.ntmps14
  go_wp2_with (first
    | (go_at_call 51
       (with_reducible refine (c_is_none Hv.out).mono ?_)
       rintro e w1 ⟨rfl, rfl⟩))
  go_ret
  exact ⟨rfl, rfl⟩
theorem c_Take_none (h : NoR w v) (k i x : Int) (m : Nat) (wb : Bool) (A : Option Addr) (n cb : Nat) : Calls Tryz.prog 11 #[v, .agg (msV k i x m wb A n cb).toArray] w fun e w' => e = .returned (.tuple #[.slice none 0 0, .int .i64 1]) ∧ Below w.heap.size w w' := by
  have hB := (Below.refl w.heap.size w).alloc (Nat.le_refl _) (.cells (msV k i x m wb A n cb).toArray 25)
  have Hv := Lib.hid (h.bel hB)
  have HB := Lib.hid hB
  clear h hB
  go_enter Tryz.func11, Tryz.ntmps11
  go_wp2_with (first
    | (go_at_call 51
       (with_reducible refine (c_is_none Hv.out).mono ?_)
       rintro e w1 ⟨rfl, rfl⟩))
  go_ret2
  exact ⟨rfl, HB.out⟩
end
def hello : List Value := msV 1 0 0 0 false none 0 0
theorem hello_good : decide ((1 : Int) = 1 ∧ Pack.Good 1 0 0 0 false 0) = true := by decide
theorem c_Begin_nil (s : Int) (hs : -9223372036854775808 ≤ s ∧ s ≤ 9223372036854775807) (w : World) :
    Calls Tryz.prog 15 #[.pointer none, .int .i64 0, .int .i64 s, .agg hello.toArray, .agg hello.toArray] w fun e w' => e = .returned (.tuple #[.pointer none, .slice none 0 0, .int .i64 1]) ∧ Below w.heap.size w w' := by
  unfold hello
  obtain ⟨W2, hW2, y1, y2, hB⟩ := Actlog.two_boxes w (.cells (msV 1 0 0 0 false none 0 0).toArray 25) (.cells (msV 1 0 0 0 false none 0 0).toArray 25)
  have X1 := Lib.hid y1
  have X2 := Lib.hid y2
  have HB := Lib.hid hB
  have HW := Lib.hid hW2
  have hg1 := fun w => c_greet 1 0 0 0 false none 0 0 w
  rw [hello_good] at hg1
  have hun := fun w => Pln.c_Union 0 0 s w (by omega) (by omega) hs
  generalize ((0 ||| 0) &&& row (s.tdiv 4)) = U at *
  clear y1 y2 hB hW2
  go_enter Tryz.func15, Tryz.ntmps15
  go_upto_region 1 with (fail)
  rw [← HW.out]
  go_wp2_with (first
    | (refine wpL_load_rd rfl 25 (.tmp 8) rfl ⟨w.heap.size, 0, none⟩ rfl (msV 1 0 0 0 false none 0 0) _ ((rd_of_heap (n := 6) X1.out rfl (by simp [maxLen])).cell _ rfl) Tryz.underlying25 rfl (by kernel_rfl) ?_)
    | (refine wpL_load_rdG rfl 25 (.tmp 9) rfl ⟨w.heap.size + 1, 0, none⟩ rfl (msV 1 0 0 0 false none 0 0) _ ((rd_of_heap (n := 6) X2.out rfl (by simp [maxLen])).cell _ rfl) Tryz.underlying25 rfl (by kernel_rfl) ?_)
    | (go_at_call 54
       (with_reducible refine (hg1 _).mono ?_)
       rintro e w3 ⟨rfl, hb3⟩
       have X1 := Lib.hid ((hb3.block _ (heap_lt X1.out)).trans X1.out)
       have X2 := Lib.hid ((hb3.block _ (heap_lt X2.out)).trans X2.out)
       have HB := Lib.hid (HB.out.trans (hb3.mono HB.out.size))
       obtain ⟨_, _, e3, e4⟩ := msc X1.out
       obtain ⟨_, _, e5, e6⟩ := msc X2.out
       clear hb3)
    | (go_at_call 55
       refine (hun _).mono ?_
       rintro e w5 ⟨rfl, rfl⟩)
    | (go_at_call 56
       (with_reducible refine (Meta.c_Retire_nil _ _).mono ?_)
       rintro e w6 ⟨rfl, hb6⟩
       have HB := Lib.hid (HB.out.trans (hb6.mono HB.out.size))
       clear hb6 e3 e4 e5 e6))
  go_ret3
  exact ⟨rfl, HB.out⟩
theorem Outs.Out.one {w : World} {B n c : Nat} {A : Option Addr} {k o : Int} {b : List UInt8} (h : Outs.Out w B A n c [(k, o, b)]) : ∃ g, A = some ⟨g, 0, none⟩ ∧ n = 1 ∧ w.cell? ⟨g, 0, none⟩ = some (.int .i64 k) := by
  have hn := h.len
  obtain ⟨l, ⟨h1, h2, h3⟩, h4⟩ := h
  obtain ⟨x, rfl⟩ : ∃ x, l = [x] := by
    cases l with
    | nil => simp at h4
    | cons y l =>
      cases l with
      | nil => exact ⟨y, rfl⟩
      | cons z l => simp at h4
  have hk : x.k = k := by
    simp only [List.map_cons, List.map_nil, Outs.M.said, List.cons.injEq, Prod.mk.injEq, and_true] at h4
    exact h4.1
  have hn1 : n = 1 := by simpa using hn
  subst hn1
  rcases h2.2 with ⟨_, h0⟩ | ⟨g, cap, cur, hv, hg, hh, hc1, hc2, hc3, hc4⟩
  · omega
  · injection hv with e1
    refine ⟨g, e1, rfl, ?_⟩
    have hc := (Tw.Own.rd h2).cell ⟨g, 0, none⟩ e1 0 (.int .i64 x.k) rfl
    rw [hk] at hc
    simpa [Addr.add] using hc
theorem live_begin : rbegin (Dsk.new 16) 0 (uni 0 0 8) false false true = (Dsk.new 16, some ⟨true, 0, 0, true⟩, [(8, 0, [])], 0) := by
  have hu : uni 0 0 8 = 0 := by decide
  have hr : Slots.mretire (Dsk.new 16) 0 = (Dsk.new 16, 0) := by
    have h1 : Slots.dput (Dsk.new 16) 0 = (Dsk.new 16, 0) := by
      unfold Slots.dput rput
      rw [latest_new]
      rfl
    have h2 : Slots.aput (Dsk.new 16) 0 = (Dsk.new 16, 0) := by
      unfold Slots.aput rput
      rw [latest_new]
      rfl
    unfold Slots.mretire
    rw [h1]
    exact (if_pos rfl).trans h2
  rw [hu]
  refine rb_source hr rfl ?_
  exact rgives_end (R := ⟨true, 0, 0, false⟩) (by rw [upTo_zero]; rfl) rfl |>.trans (by rw [upTo_zero]; rfl)
theorem c_lives (w : World) : Calls Tryz.prog 10 #[] w fun e w' => e = .returned (.bool true) ∧ Below w.heap.size w w' := by
  have hbg := fun W p g mb (h : Dk W p g mb 16 (Dsk.new 16)) => c_Begin h (by decide) 0 8 (by omega) 1 0 0 0 false none 0 0 1 0 0 0 false none 0 0 (by omega) (by omega) true (by decide)
  rw [live_begin] at hbg
  simp only at hbg
  have Hbg := Lib.hid hbg
  clear hbg
  go_enter Tryz.func10, Tryz.ntmps10
  go_upto_region 3 with (first
    | (go_at_call 17
       (with_reducible refine (c_dNewI' 16 16 rfl _ (by omega) (by omega)).mono ?_)
       rintro e w1 ⟨p, g, mb, rfl, hk, hge, hb1⟩
       have hb2 := (Below.refl w1.heap.size w1).alloc (Nat.le_refl _) (.cells hello.toArray 25)
       have HX := Lib.hid (heap_alloc_new w1 (.cells hello.toArray 25))
       have HK := Lib.hid (hk.bel hb2)
       have HG := Lib.hid hge
       have HB := Lib.hid (hb1.trans (hb2.mono hb1.size))
       clear hb1 hb2 hk hge))
  go_wp2_with (first
    | (refine wpL_load_rd rfl 25 (.tmp 3) rfl ⟨w1.heap.size, 0, none⟩ rfl hello _ ((rd_of_heap (n := 6) HX.out rfl (by simp [maxLen])).cell _ rfl) Tryz.underlying25 rfl (by kernel_rfl) ?_)
    | (go_at_call 15
       refine (Hbg.out _ p g mb HK.out).mono ?_
       rintro e w3 ⟨v, A', n', c', rfl, ho, ⟨br, bp, rfl, hr, _, _⟩, f3⟩
       have HR := Lib.hid hr
       have HB := Lib.hid (HB.out.trans (f3.bel (B := w.heap.size) (fun k e => by have := HG.out; omega) HB.out.size))
       obtain ⟨g5, rfl, rfl, hc5⟩ := (Rsy.Outs.Out.one ho)
       clear ho hr f3)
    | (go_at_call 12
       (with_reducible refine (c_Source HR.out).mono ?_)
       rintro e w4 ⟨rfl, rfl⟩)
    | (go_at_call 13
       (with_reducible refine (c_Over HR.out).mono ?_)
       rintro e w4 ⟨rfl, rfl⟩))
  go_ret
  exact ⟨rfl, HB.out⟩
theorem nor_slice {w W : World} {g : Nat} {v : Value} {i : Nat} (h2 : W.heap[g + 1]? = some (.cells #[.pointer none, .pointer none, .bool false, .bool false] 31 (0, 0))) (h3 : W.heap[g + 2]? = some (.cells #[.pointer none, .pointer (some ⟨g + 1, 0, none⟩)] 27 (0, 0))) (hi : i < 2) :
    ∃ v, W.cell? ⟨g + 2, i, none⟩ = some v ∧ NoR W v := by
  have hl := heap_lt h2
  obtain rfl | rfl : i = 0 ∨ i = 1 := by omega
  · exact ⟨_, by simp [World.cell?, h3], .inl rfl⟩
  · exact ⟨_, by simp [World.cell?, h3], .inr ⟨g + 1, rfl, hl, by simp [World.cell?, h2]⟩⟩
theorem w_ResyncNone (k i x : Int) (m : Nat) (wb : Bool) (A : Option Addr) (n cb : Nat) (w : World) :
    Calls Tryz.prog 3 #[.agg (msV k i x m wb A n cb).toArray] w fun e w' => e = .returned (.bool true) ∧ Below w.heap.size w w' := by
  obtain ⟨W3, hW3, x1, x2, x3, hB, hsz⟩ := Slots.three w (.cells (msV k i x m wb A n cb).toArray 25) (.cells #[.pointer none, .pointer none, .bool false, .bool false] 31) (.cells #[.pointer none, .pointer (some ⟨w.heap.size + 1, 0, none⟩)] 27)
  have HX := Lib.hid (heap_alloc_new w (.cells (msV k i x m wb A n cb).toArray 25))
  have e5 := (ms6 HX.out).2.2
  by_cases hn : 200 < n
  · have HB := Lib.hid ((Below.refl w.heap.size w).alloc (Nat.le_refl _) (.cells (msV k i x m wb A n cb).toArray 25))
    clear hW3 x1 x2 x3 hB hsz HX
    go_enter Tryz.func3, Tryz.ntmps3
    go_wp2_with (first
      | (go_at_call 10; (with_reducible refine (c_lives _).mono ?_); rintro e w5 ⟨rfl, b5⟩))
    go_ret
    exact ⟨rfl, HB.out.trans (b5.mono HB.out.size)⟩
  · have X1 := Lib.hid x1
    have X2 := Lib.hid x2
    have X3 := Lib.hid x3
    have HB := Lib.hid hB
    have HW := Lib.hid hW3
    clear hW3 x1 x2 x3 hB HX
    go_enter Tryz.func3, Tryz.ntmps3
    go_upto_region 4 with (fail)
    clear e5
    rw [← HW.out]
    go_wp2_with fail
    go_loopw [21] (fun v wr => ∃ q : Nat, q ≤ 2 ∧ v = .int .i64 (q : Int) ∧ Hid (Below w.heap.size w wr) ∧ Hid (Below W3.heap.size W3 wr)) (fun v _ => 2 - (intOf v).toNat)
    case atStart => exact ⟨0, by omega, rfl, HB, Lib.hid (Below.refl _ _)⟩
    case round =>
      clear HB HW
      obtain ⟨q, hq, rfl, HB, HB3⟩ := hrel
      have HX1 := Lib.hid ((HB3.out.block _ (heap_lt X1.out)).trans X1.out)
      have HX2 := Lib.hid ((HB3.out.block _ (heap_lt X2.out)).trans X2.out)
      have HX3 := Lib.hid ((HB3.out.block _ (heap_lt X3.out)).trans X3.out)
      by_cases hq2 : q < 2
      · obtain ⟨v, c1, hv⟩ := nor_slice (w := w) (v := undef) HX2.out HX3.out hq2
        have HV := Lib.hid hv
        clear hv
        go_wp2_with (first
          | (refine wpL_load_rd rfl 25 (.tmp 1) rfl ⟨w.heap.size, 0, none⟩ rfl (msV k i x m wb A n cb) _ ((rd_of_heap (n := 6) HX1.out rfl (by simp [maxLen])).cell _ rfl) Tryz.underlying25 rfl (by kernel_rfl) ?_)
          | (go_at_call 11
             (with_reducible refine (c_Take_none HV.out k i x m wb A n cb).mono ?_)
             rintro e w4 ⟨rfl, hb4⟩
             have HV := Lib.hid (HV.out.bel hb4)
             have HB := Lib.hid (HB.out.trans (hb4.mono HB.out.size))
             have HB3 := Lib.hid (HB3.out.trans (hb4.mono HB3.out.size))
             clear hb4 c1)
          | (go_at_call 12
             (with_reducible refine (c_Source_none HV.out).mono ?_)
             rintro e w5 ⟨rfl, rfl⟩)
          | (go_at_call 13
             (with_reducible refine (c_Over_none HV.out).mono ?_)
             rintro e w5 ⟨rfl, rfl⟩)
          | (go_at_call 14
             (with_reducible refine (c_Left_none HV.out).mono ?_)
             rintro e w5 ⟨rfl, rfl⟩))
        go_roundw
        case rel => exact ⟨q + 1, by omega, by go_num, HB, HB3⟩
        case measure => simp [intOf] <;> omega
      · obtain rfl : q = 2 := by omega
        go_wp2_with (first
          | (go_at_call 15
             refine (c_Begin_nil 16 (by omega) _).mono ?_
             rintro e w6 ⟨rfl, hb6⟩
             have HB := Lib.hid (HB.out.trans (hb6.mono HB.out.size))
             clear hb6)
          | (go_at_call 10; (with_reducible refine (c_lives _).mono ?_); rintro e w7 ⟨rfl, b7⟩))
        go_ret
        exact ⟨rfl, HB.out.trans (b7.mono HB.out.size)⟩
section
open Go.ChangeShapes Go.WideShapes Go.Deep
variable {H : Type} {enc : TypeId × Value → H} {P : Program} {W : World} {base : Nat} {spare : Nat → Bool} {held : Bool}
def MsgL : List Leaf := [.int .i64, .int .i64, .int .i64, .int .u64, .bool, .bytes]
theorem msg_of {W : World} {r : List Value} (h : RowOk W MsgL r) : ∃ (k i x : Int) (m : Nat) (wb : Bool) (A : Option Addr) (n cb : Nat) (b : List UInt8), r = msV k i x m wb A n cb ∧ (-9223372036854775808 ≤ x ∧ x ≤ 9223372036854775807) ∧ m < 18446744073709551616 ∧ Byt W A n cb b := by
  obtain ⟨v4, r4, rfl, k4, h⟩ := rowOk_cons h
  obtain ⟨v5, r5, rfl, k5, h⟩ := rowOk_cons h
  obtain ⟨v6, r6, rfl, k6, h⟩ := rowOk_cons h
  obtain ⟨v7, r7, rfl, k7, h⟩ := rowOk_cons h
  obtain ⟨v8, r8, rfl, k8, h⟩ := rowOk_cons h
  obtain ⟨v9, r9, rfl, k9, h⟩ := rowOk_cons h
  obtain rfl := rowOk_nil h
  obtain ⟨z4, rfl, q4⟩ := leaf_i64 k4
  obtain ⟨z5, rfl, q5⟩ := leaf_i64 k5
  obtain ⟨z6, rfl, q6⟩ := leaf_i64 k6
  obtain ⟨z7, rfl, q7⟩ := leaf_u64 k7
  obtain ⟨z8, rfl⟩ := k8
  obtain ⟨A, n, cb, b, rfl, hb⟩ := k9
  exact ⟨z4, z5, z6, z7, z8, A, n, cb, b, rfl, q6, q7, hb⟩
theorem open_msg {r : Reach} {base2 : Nat} {t : TypeId} {v : Value} {d : DataW H} {ps : List MemPlace} (hL : flat P 4 t = some MsgL) (hc : P.cellsOf t = 6) (ht : (P.underlying t).map (·.isRow) = some true)
    (hv : Value.okWide P W r base2 t v) (h : DataW.Trod enc P W base spare held t v d ps) : ∃ (k i x : Int) (m : Nat) (wb : Bool) (A : Option Addr) (n cb : Nat) (b : List UInt8), v = .agg (msV k i x m wb A n cb).toArray ∧ (-9223372036854775808 ≤ x ∧ x ≤ 9223372036854775807) ∧ m < 18446744073709551616 ∧ Byt W A n cb b := by
  obtain ⟨cs, rfl, hr⟩ := open_agg 4 hL hc ht hv h
  obtain ⟨k, i, x, m, wb, A, n, cb, b, rfl, q⟩ := msg_of hr
  exact ⟨k, i, x, m, wb, A, n, cb, b, rfl, q⟩
end
end Go.Proofs.YtaldlapnhhhclaaGreat.Rsy
