/- The data area of a disk: Whole, Extent, SetExtent, Image, exactly. Conditions: at most 10^9 operations. -/
import Derived.Test.YtaldlapnhhhclaaGreatData5
set_option linter.unusedVariables false
set_option linter.unusedSimpArgs false
namespace Go.Proofs.YtaldlapnhhhclaaGreat.Data
open Go.RowKit Tw Disk
set_option maxHeartbeats 4000000
set_option maxRecDepth 100000
def whole (x : Int) : Int × Int := if 0 ≤ x ∧ x ≤ 63 then (4 * x, 4) else (0, 0)
def spanV (s : Int × Int) : Value := .agg #[.int .i64 s.1, .int .i64 s.2]
theorem c_WholeE (x : Int) (w : World) (hx : -9223372036854775808 ≤ x ∧ x ≤ 9223372036854775807) : Calls Tryz.prog 132 #[.int .i64 x] w fun e w' => e = .returned (spanV (whole x)) ∧ Below w.heap.size w w' := by
  by_cases h1 : x < 0
  · have hw : Hid (whole x = (0, 0)) := Lib.hid (by unfold whole; rw [if_neg (by omega)])
    go_enter Tryz.func132, Tryz.ntmps132
    go_wp2_with fail
    refine bodyPost_ret (results_cell_row rfl _ _ w.heap.size _ _ (0, 0) _ rfl (heap_alloc_new w _) Tryz.underlying144 rfl (by kernel_rfl)) rfl ?_
    rw [hw.out]
    exact ⟨rfl, (Below.refl _ _).alloc (Nat.le_refl _) _⟩
  · by_cases h2 : 63 < x
    · have hw : Hid (whole x = (0, 0)) := Lib.hid (by unfold whole; rw [if_neg (by omega)])
      have h3 : 64 ≤ x := by omega
      go_enter Tryz.func132, Tryz.ntmps132
      go_wp2_with fail
      refine bodyPost_ret (results_cell_row rfl _ _ w.heap.size _ _ (0, 0) _ rfl (heap_alloc_new w _) Tryz.underlying144 rfl (by kernel_rfl)) rfl ?_
      rw [hw.out]
      exact ⟨rfl, (Below.refl _ _).alloc (Nat.le_refl _) _⟩
    · have hw : Hid (whole x = (4 * x, 4)) := Lib.hid (by unfold whole; rw [if_pos (by omega)])
      have h3 : ¬ 64 ≤ x := by omega
      go_enter Tryz.func132, Tryz.ntmps132
      go_wp2_with fail
      refine bodyPost_ret (results_cell_row rfl _ _ w.heap.size _ _ (0, 0) _ rfl (heap_alloc_new w _) Tryz.underlying144 rfl (by kernel_rfl)) rfl ?_
      rw [hw.out]
      refine ⟨?_, (Below.refl _ _).alloc (Nat.le_refl _) _⟩
      first | rfl | (unfold spanV; rw [Int.mul_comm])
theorem dRead_err {d : Dsk} {x y : Int} (h : (dRead d x y).2 ≠ 0) : (dRead d x y).1 = [] := by
  unfold dRead at h ⊢
  split
  · rename_i h1
    rw [if_pos h1] at h
    exact rseq_err h
  · rfl
def img (d : Dsk) : List UInt8 := (dRead d 0 (secs d)).1
section
variable {w : World} {p g mb c : Nat} {d : Dsk}
theorem c_ExtentE (h : Dk w p g mb c d) (x : Int) (hx : -9223372036854775808 ≤ x ∧ x ≤ 9223372036854775807) : Calls Tryz.prog 75 #[.pointer (some ⟨p, 0, none⟩), .int .i64 x] w fun e w' => ∃ A2 c2, e = .returned (.tuple #[.slice A2 (dRead d (whole x).1 (whole x).2).1.length c2, .int .i64 ((dRead d (whole x).1 (whole x).2).2 : Int)]) ∧ Tw.Own w' w.heap.size 5 1 A2 (dRead d (whole x).1 (whole x).2).1.length c2 (bytesV (dRead d (whole x).1 (whole x).2).1) ∧ Below w.heap.size w w' := by
  have H := Lib.hid h
  clear h
  go_enter Tryz.func75, Tryz.ntmps75
  go_wp2_with (first
    | (go_at_call 132
       (with_reducible refine (c_WholeE x _ hx).mono ?_)
       rintro e w1 ⟨rfl, hb1⟩
       have H := Lib.hid (H.out.bel hb1)
       have HB := Lib.hid hb1
       unfold spanV
       clear hb1)
    | (go_at_call 72
       (with_reducible refine (c_Read H.out _ _).mono ?_)
       rintro e w2 ⟨A2, c2, rfl, ho2, hb2⟩
       have HO := Lib.hid (Tw.Own.mono ho2 HB.out.size)
       have HB := Lib.hid (HB.out.trans (hb2.mono HB.out.size))
       clear ho2 hb2))
  go_ret2
  exact ⟨A2, c2, rfl, HO.out, HB.out⟩
theorem c_SetExtentE (h : Dk w p g mb c d) (ho : d.ops + 1024 < 1000000000) (x : Int) (hx : -9223372036854775808 ≤ x ∧ x ≤ 9223372036854775807) (A : Option Addr) (n cb : Nat) (b : List UInt8) (hb : Byt w A n cb b) (hA : ∀ ad, A = some ad → 0 < n → ad.block ≠ p ∧ ad.block ≠ mb) : Calls Tryz.prog 87 #[.pointer (some ⟨p, 0, none⟩), .int .i64 x, .slice A n cb] w fun e w' => e = .returned (.int .i64 ((dWrite d (whole x).1 (whole x).2 b).2 : Int)) ∧ Dk w' p g mb c (dWrite d (whole x).1 (whole x).2 b).1 ∧ Fr (fun k => k = p ∨ k = mb) w w' := by
  have H := Lib.hid h
  have Hb := Lib.hid hb
  have HA := Lib.hid hA
  clear h hb hA
  go_enter Tryz.func87, Tryz.ntmps87
  go_wp2_with (first
    | (go_at_call 132
       (with_reducible refine (c_WholeE x _ hx).mono ?_)
       rintro e w1 ⟨rfl, hb1⟩
       have H := Lib.hid (H.out.bel hb1)
       have Hb := Lib.hid (Hb.out.bel hb1)
       have HB := Lib.hid hb1
       unfold spanV
       clear hb1)
    | (go_at_call 70
       (with_reducible refine (c_Write H.out ho _ _ A n cb b Hb.out HA.out).mono ?_)
       rintro e w2 ⟨rfl, h2, f2⟩
       have H2 := Lib.hid h2
       have F2 := Lib.hid ((Fr.of_bel HB.out).trans f2 (fun _ _ e => e))
       clear h2 f2))
  go_ret
  exact ⟨rfl, H2.out, F2.out⟩
theorem c_ImageE (h : Dk w p g mb c d) : Calls Tryz.prog 31 #[.pointer (some ⟨p, 0, none⟩)] w fun e w' => ∃ A2 c2, e = .returned (.slice A2 (img d).length c2) ∧ Tw.Own w' w.heap.size 5 1 A2 (img d).length c2 (bytesV (img d)) ∧ Below w.heap.size w w' := by
  have H := Lib.hid h
  clear h
  by_cases he : (dRead d 0 (secs d)).2 = 0
  · have He := Lib.hid he
    clear he
    go_enter Tryz.func31, Tryz.ntmps31
    go_wp2_with (first
      | (go_at_call 73
         (with_reducible refine (c_Sectors H.out).mono ?_)
         rintro e w' ⟨rfl, rfl⟩)
      | (go_at_call 72
         refine (c_Read H.out 0 (secs d)).mono ?_
         rintro e w1 ⟨A2, c2, rfl, ho, hb⟩
         rw [He.out]))
    go_ret
    exact ⟨A2, c2, rfl, ho, hb⟩
  · have hne : (((dRead d 0 (secs d)).2 : Int) != 0) = true := by simp; omega
    have hi : Hid (img d = []) := Lib.hid (dRead_err he)
    clear he
    go_enter Tryz.func31, Tryz.ntmps31
    go_wp2_with (first
      | (go_at_call 73
         (with_reducible refine (c_Sectors H.out).mono ?_)
         rintro e w' ⟨rfl, rfl⟩)
      | (go_at_call 72
         refine (c_Read H.out 0 (secs d)).mono ?_
         rintro e w1 ⟨A2, c2, rfl, ho, hb⟩))
    go_ret
    rw [hi.out]
    exact ⟨none, 0, rfl, World.ownsRow_nil _ _ _ _, hb⟩
end
end Go.Proofs.YtaldlapnhhhclaaGreat.Data
