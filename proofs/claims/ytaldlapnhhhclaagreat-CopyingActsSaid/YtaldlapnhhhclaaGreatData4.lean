/- Contracts of data.Read (any span), Image, and of a disk that no call made. Conditions: none. -/
import Derived.Test.YtaldlapnhhhclaaGreatData3
import Derived.Test.YtaldlapnhhhclaaGreatDataPlain
set_option linter.unusedVariables false
set_option linter.unusedSimpArgs false
namespace Go.Proofs.YtaldlapnhhhclaaGreat.Data
open Go.RowKit Tw Disk
set_option maxHeartbeats 4000000
set_option maxRecDepth 100000

section
variable {w : World} {p g mb c : Nat} {d : Dsk}
theorem c_Read (h : Dk w p g mb c d) (x y : Int) :
    Calls Tryz.prog 72 #[.pointer (some ⟨p, 0, none⟩), .agg #[.int .i64 x, .int .i64 y]] w fun e w' => ∃ A2 c2, e = .returned (.tuple #[.slice A2 (dRead d x y).1.length c2, .int .i64 ((dRead d x y).2 : Int)]) ∧ Tw.Own w' w.heap.size 5 1 A2 (dRead d x y).1.length c2 (bytesV (dRead d x y).1) ∧ Below w.heap.size w w' := by
  by_cases hg : Span.Good x y (secs d)
  · obtain ⟨o, rfl⟩ : ∃ o : Nat, x = (o : Int) := ⟨x.toNat, by unfold Span.Good at hg; omega⟩
    obtain ⟨L, rfl⟩ : ∃ L : Nat, y = (L : Int) := ⟨y.toNat, by unfold Span.Good at hg; omega⟩
    have hw : dRead d (o : Int) (L : Int) = rseq o d (List.replicate (L * 16) 0) (List.range L) := by unfold dRead; rw [if_pos hg]; rfl
    rw [hw]
    exact callsIn_wide.1 (Read_in h o L hg)
  · have hw : Hid (dRead d x y = ([], 13)) := Lib.hid (by unfold dRead; rw [if_neg hg])
    have HBX := Lib.hid ((((((Below.refl w.heap.size w).alloc (Nat.le_refl _) (.cells #[.pointer (some ⟨p, 0, none⟩)] 29)).alloc (by simp) (.cells #[.int .i64 x, .int .i64 y] 144)).alloc (by simp; omega) (.cells #[.slice none 0 0] 23)).alloc (by simp; omega) (.cells #[.int .i64 0] 34)))
    obtain ⟨x0, x1, x2, x3⟩ := boxes4 w (.cells #[.pointer (some ⟨p, 0, none⟩)] 29) (.cells #[.int .i64 x, .int .i64 y] 144) (.cells #[.slice none 0 0] 23) (.cells #[.int .i64 0] 34)
    have X2 := Lib.hid x2
    have X3 := Lib.hid x3
    have H := Lib.hid h
    have Hg := Lib.hid hg
    clear h hg x0 x1 x2 x3
    go_enter Tryz.func72, Tryz.ntmps72
    go_wp2_with (first
      | (go_at_call 126
         refine (c_check (H.out.bel HBX.out) x y).mono ?_
         rintro e w1 ⟨rfl, hb1⟩
         rw [if_neg Hg.out]
         have B1 := Lib.hid (HBX.out.trans (hb1.mono HBX.out.size))
         have Y2 := Lib.hid ((hb1.block _ (heap_lt X2.out)).trans X2.out)
         have Y3 := Lib.hid ((hb1.block _ (heap_lt X3.out)).trans X3.out)
         have c4 : w1.cell? ⟨w.heap.size + 1 + 1, 0, none⟩ = some (.slice none 0 0) := cells_of Y2.out 0 _ rfl
         have c5 : w1.cell? ⟨w.heap.size + 1 + 1 + 1, 0, none⟩ = some (.int .i64 0) := cells_of Y3.out 0 _ rfl
         have fz4 : w1.frozen? ⟨w.heap.size + 1 + 1, 0, none⟩ = false := by have h := Y2.out; simp [World.frozen?, h]
         have fz5 : w1.frozen? ⟨w.heap.size + 1 + 1 + 1, 0, none⟩ = false := by have h := Y3.out; simp [World.frozen?, h]
         clear X2 X3 hb1))
    have fa : Fr (fun k => k = w.heap.size + 1 + 1) w1 (w1.setCell ⟨w.heap.size + 1 + 1, 0, none⟩ (.slice none 0 0)) := Fr.setCell (S := fun k => k = w.heap.size + 1 + 1) (p := ⟨w.heap.size + 1 + 1, 0, none⟩) rfl _
    have fb : Fr (fun k => k = w.heap.size + 1 + 1 + 1) (w1.setCell ⟨w.heap.size + 1 + 1, 0, none⟩ (.slice none 0 0)) ((w1.setCell ⟨w.heap.size + 1 + 1, 0, none⟩ (.slice none 0 0)).setCell ⟨w.heap.size + 1 + 1 + 1, 0, none⟩ (.int .i64 13)) := Fr.setCell (S := fun k => k = w.heap.size + 1 + 1 + 1) (p := ⟨w.heap.size + 1 + 1 + 1, 0, none⟩) rfl _
    have r6 := heap_fr (heap_setCell_same _ _ 0 _ _ (.slice none 0 0) Y2.out) fb (by omega)
    have r7 := heap_setCell_same _ _ 0 _ _ (.int .i64 13) (heap_fr Y3.out fa (by omega))
    have rB := (B1.out.trans (fa.bel (fun k e => by omega) B1.out.size)).trans (fb.bel (fun k e => by omega) (B1.out.trans (fa.bel (fun k e => by omega) B1.out.size)).size)
    refine bodyPost_ret (results_two rfl _ _ ⟨w.heap.size + 1 + 1, 0, none⟩ ⟨w.heap.size + 1 + 1 + 1, 0, none⟩ _ _ (.slice none 0 0) (.int .i64 13) rfl rfl Tryz.underlying23 rfl (cells_of r6 0 _ (by simp)) Tryz.underlying34 rfl (cells_of r7 0 _ (by simp))) rfl ?_
    rw [hw.out]
    exact ⟨none, 0, rfl, World.ownsRow_nil _ _ _ _, rB⟩
theorem c_Read_nil (x y : Int) (w : World) : Calls Tryz.prog 72 #[.pointer none, .agg #[.int .i64 x, .int .i64 y]] w fun e w' => e = .returned (.tuple #[.slice none 0 0, .int .i64 1]) ∧ Below w.heap.size w w' := by
  have HBX := Lib.hid ((((((Below.refl w.heap.size w).alloc (Nat.le_refl _) (.cells #[.pointer none] 29)).alloc (by simp) (.cells #[.int .i64 x, .int .i64 y] 144)).alloc (by simp; omega) (.cells #[.slice none 0 0] 23)).alloc (by simp; omega) (.cells #[.int .i64 0] 34)))
  obtain ⟨x0, x1, x2, x3⟩ := boxes4 w (.cells #[.pointer none] 29) (.cells #[.int .i64 x, .int .i64 y] 144) (.cells #[.slice none 0 0] 23) (.cells #[.int .i64 0] 34)
  have X2 := Lib.hid x2
  have X3 := Lib.hid x3
  clear x0 x1 x2 x3
  go_enter Tryz.func72, Tryz.ntmps72
  go_wp2_with (first
    | (go_at_call 126
       refine (c_check_nil (.bool true) x y _).mono ?_
       rintro e w1 ⟨rfl, hb1⟩
       skip
       have B1 := Lib.hid (HBX.out.trans (hb1.mono HBX.out.size))
       have Y2 := Lib.hid ((hb1.block _ (heap_lt X2.out)).trans X2.out)
       have Y3 := Lib.hid ((hb1.block _ (heap_lt X3.out)).trans X3.out)
       have c4 : w1.cell? ⟨w.heap.size + 1 + 1, 0, none⟩ = some (.slice none 0 0) := cells_of Y2.out 0 _ rfl
       have c5 : w1.cell? ⟨w.heap.size + 1 + 1 + 1, 0, none⟩ = some (.int .i64 0) := cells_of Y3.out 0 _ rfl
       have fz4 : w1.frozen? ⟨w.heap.size + 1 + 1, 0, none⟩ = false := by have h := Y2.out; simp [World.frozen?, h]
       have fz5 : w1.frozen? ⟨w.heap.size + 1 + 1 + 1, 0, none⟩ = false := by have h := Y3.out; simp [World.frozen?, h]
       clear X2 X3 hb1))
  have fa : Fr (fun k => k = w.heap.size + 1 + 1) w1 (w1.setCell ⟨w.heap.size + 1 + 1, 0, none⟩ (.slice none 0 0)) := Fr.setCell (S := fun k => k = w.heap.size + 1 + 1) (p := ⟨w.heap.size + 1 + 1, 0, none⟩) rfl _
  have fb : Fr (fun k => k = w.heap.size + 1 + 1 + 1) (w1.setCell ⟨w.heap.size + 1 + 1, 0, none⟩ (.slice none 0 0)) ((w1.setCell ⟨w.heap.size + 1 + 1, 0, none⟩ (.slice none 0 0)).setCell ⟨w.heap.size + 1 + 1 + 1, 0, none⟩ (.int .i64 1)) := Fr.setCell (S := fun k => k = w.heap.size + 1 + 1 + 1) (p := ⟨w.heap.size + 1 + 1 + 1, 0, none⟩) rfl _
  have r6 := heap_fr (heap_setCell_same _ _ 0 _ _ (.slice none 0 0) Y2.out) fb (by omega)
  have r7 := heap_setCell_same _ _ 0 _ _ (.int .i64 1) (heap_fr Y3.out fa (by omega))
  have rB := (B1.out.trans (fa.bel (fun k e => by omega) B1.out.size)).trans (fb.bel (fun k e => by omega) (B1.out.trans (fa.bel (fun k e => by omega) B1.out.size)).size)
  refine bodyPost_ret (results_two rfl _ _ ⟨w.heap.size + 1 + 1, 0, none⟩ ⟨w.heap.size + 1 + 1 + 1, 0, none⟩ _ _ (.slice none 0 0) (.int .i64 1) rfl rfl Tryz.underlying23 rfl (cells_of r6 0 _ (by simp)) Tryz.underlying34 rfl (cells_of r7 0 _ (by simp))) rfl ?_
  exact ⟨rfl, rB⟩
theorem c_Write_nil (x y : Int) (A : Option Addr) (n cb : Nat) (w : World) :
    Calls Tryz.prog 70 #[.pointer none, .agg #[.int .i64 x, .int .i64 y], .slice A n cb] w fun e w' => e = .returned (.int .i64 1) ∧ Below w.heap.size w w' := by
  have HBX := Lib.hid ((((((Below.refl w.heap.size w).alloc (Nat.le_refl _) (.cells #[.pointer none] 29)).alloc (by simp) (.cells #[.int .i64 x, .int .i64 y] 144)).alloc (by simp; omega) (.cells #[.slice A n cb] 23)).alloc (by simp; omega) (.cells #[.int .i64 0] 34)))
  obtain ⟨x0, x1, x2, x3⟩ := boxes4 w (.cells #[.pointer none] 29) (.cells #[.int .i64 x, .int .i64 y] 144) (.cells #[.slice A n cb] 23) (.cells #[.int .i64 0] 34)
  have X3 := Lib.hid x3
  clear x0 x1 x2 x3
  go_enter Tryz.func70, Tryz.ntmps70
  go_wp2_with (first
    | (go_at_call 126
       refine (c_check_nil (.bool true) x y _).mono ?_
       rintro e w1 ⟨rfl, hb1⟩
       have B1 := Lib.hid (HBX.out.trans (hb1.mono HBX.out.size))
       have Y3 := Lib.hid ((hb1.block _ (heap_lt X3.out)).trans X3.out)
       have c5 : w1.cell? ⟨w.heap.size + 1 + 1 + 1, 0, none⟩ = some (.int .i64 0) := cells_of Y3.out 0 _ rfl
       have fz : w1.frozen? ⟨w.heap.size + 1 + 1 + 1, 0, none⟩ = false := by have h := Y3.out; simp [World.frozen?, h]
       clear X3 hb1))
  have fs : Fr (fun k => k = w.heap.size + 1 + 1 + 1) w1 (w1.setCell ⟨w.heap.size + 1 + 1 + 1, 0, none⟩ (.int .i64 1)) := Fr.setCell (S := fun k => k = w.heap.size + 1 + 1 + 1) (p := ⟨w.heap.size + 1 + 1 + 1, 0, none⟩) rfl _
  have h5 := heap_setCell_same _ _ 0 _ _ (.int .i64 1) Y3.out
  refine bodyPost_ret (results_one rfl _ _ ⟨w.heap.size + 1 + 1 + 1, 0, none⟩ _ (.int .i64 1) rfl Tryz.underlying34 rfl (cells_of h5 0 _ (by simp))) rfl ?_
  exact ⟨rfl, B1.out.trans (fs.bel (fun k e => by omega) B1.out.size)⟩
theorem c_Image (h : Dk w p g mb c d) (hf : Fine d) (hn : 8 < d.cells.length) : Calls Tryz.prog 31 #[.pointer (some ⟨p, 0, none⟩)] w fun e w' => ∃ A2 c2, e = .returned (.slice A2 (area d).length c2) ∧ Tw.Own w' w.heap.size 5 1 A2 (area d).length c2 (bytesV (area d)) ∧ Below w.heap.size w w' := by
  have hr := c_Read h 0 (secs d)
  rw [fine_image hf hn] at hr
  have H := Lib.hid h
  have Hr := Lib.hid hr
  clear h hf hr
  go_enter Tryz.func31, Tryz.ntmps31
  go_wp2_with (first
    | (go_at_call 73
       (with_reducible refine (c_Sectors H.out).mono ?_)
       rintro e w' ⟨rfl, rfl⟩)
    | (go_at_call 72
       refine Hr.out.mono ?_
       rintro e w1 ⟨A2, c2, rfl, ho, hb⟩))
  go_ret
  exact ⟨A2, c2, rfl, ho, hb⟩
end
theorem c_Image_nil (w : World) : Calls Tryz.prog 31 #[.pointer none] w fun e w' => e = .returned (.slice none 0 0) ∧ Below w.heap.size w w' := by
  go_enter Tryz.func31, Tryz.ntmps31
  go_wp2_with (first
    | (go_at_call 73
       (with_reducible refine (c_Sectors_nil _).mono ?_)
       rintro e w' ⟨rfl, rfl⟩)
    | (go_at_call 72
       refine (c_Read_nil _ _ _).mono ?_
       rintro e w1 ⟨rfl, hb⟩))
  go_ret
  exact ⟨rfl, hb⟩
end Go.Proofs.YtaldlapnhhhclaaGreat.Data
