/- Contracts of the package table: New, Full. Conditions: none. -/
import Derived.Test.YtplemdgihlabgaaTable
set_option linter.unusedVariables false
set_option linter.unusedSimpArgs false
namespace Go.Proofs.Ytplemdgihlabgaa.Table
open Go.RowKit Tw Go.Maps Go.ChangeMaps
set_option maxHeartbeats 1000000
set_option maxRecDepth 100000

theorem c_New (m : Int) (hm : 1 ≤ m ∧ m ≤ 16) (w : World) :
    Calls Try.prog 39 #[.int .i64 m] w fun e w' => e = .returned (.tuple #[.pointer (some ⟨w.heap.size + 1, 0, none⟩), .int .i64 0]) ∧ Tab w' (w.heap.size + 1) w.heap.size m 0 (.map []) ∧ Below w.heap.size w w' := by
  have hmm := @run_makeMap Try.prog
  go_enter Try.func39, Try.ntmps39
  go_wp2_with fail
  go_ret2
  refine ⟨rfl, ⟨?_, (World.ownsMap_made w Try.prog 185 R).alloc _, by omega⟩, ((Below.refl _ _).alloc (Nat.le_refl _) _).alloc (by simp) _⟩
  have h := heap_alloc_new (w.alloc (.map #[] 0)) (.cells #[.int .i64 m, .map (some w.heap.size)] 70)
  simpa using h

theorem c_Full {w : World} {tb mb : Nat} {most : Int} {n : Nat} {D : DataW Value} (h : Tab w tb mb most n D) :
    Calls Try.prog 35 #[.pointer (some ⟨tb, 0, none⟩)] w fun e w' => e = .returned (.bool (decide (most ≤ (Maps.size D : Int)))) ∧ Below w.heap.size w w' := by
  have Ht := Lib.hid h
  go_enter Try.func35, Try.ntmps35
  go_wp2_with fail
  refine wp_region_phi (by kernel_rfl) 14 none (fun _ => false) (fun i_ v wz => match i_ with
    | 0 => v = .pointer (some ⟨tb, 0, none⟩)
    | 1 => v = .bool true
    | 2 => v = .bool true
    | 3 => v = .pointer (some ⟨tb, 0, none⟩)
    | 4 => v = .pointer (some ⟨tb, 0, none⟩)
    | 5 => v = .pointer (some ⟨tb, 1, none⟩)
    | 6 => v = .map (some mb)
    | 7 => v = .int .i64 (Maps.size D : Int)
    | 8 => v = .pointer (some ⟨tb, 0, none⟩)
    | 9 => v = .pointer (some ⟨tb, 0, none⟩)
    | 10 => v = .pointer (some ⟨tb, 0, none⟩)
    | 11 => v = .int .i64 most
    | 12 => v = .bool (decide (most ≤ (Maps.size D : Int)))
    | 13 => v = .bool (decide (most ≤ (Maps.size D : Int)))
    | _ => True) (by kernel_rfl) ?_ ?_ ?_
  · (repeat' (first | exact allLt_zero | refine allLt_succ ?_ ?_))
    · exact fun _ _ _ h _ => h
    · exact fun _ _ _ h _ => h
    · exact fun _ _ _ h _ => h
    · exact fun _ _ _ h _ => h
    · exact fun _ _ _ h _ => h
    · exact fun _ _ _ h _ => h
    · exact fun _ _ _ h _ => h
    · exact fun _ _ _ h _ => h
    · exact fun _ _ _ h _ => h
    · exact fun _ _ _ h _ => h
    · exact fun _ _ _ h _ => h
    · exact fun _ _ _ h _ => h
    · exact fun _ _ _ h _ => h
    · exact fun _ _ _ h _ => h
  · (repeat' (first | exact allLt_zero | refine allLt_succ ?_ ?_))
    · intro a w' hf he
      have k0 : a.tmps.getD 0 undef = .pointer (some ⟨tb, 0, none⟩) := hf.var (by kernel_rfl) rfl
      refine wpOp_step rfl (fun K hK => ?_)
      go_simp
      exact hK _ _ ⟨_, rfl, rfl, World.grownBy.refl _ _⟩
    · intro a w' hf he
      have f0 : a.tmps.getD 3 undef = .pointer (some ⟨tb, 0, none⟩) := he 0 (by kernel_rfl)
      rw [show kindRow _ _ = none from by kernel_rfl] at hf
      refine wpOp_step rfl (fun K hK => ?_)
      go_simp
      refine (c_is (Ht.out.bel hf.bel)).mono ?_
      rintro e w2 ⟨rfl, rfl⟩
      exact hK _ _ ⟨_, rfl, rfl, World.grownBy.refl _ _⟩
    · intro a w' hf he
      have f1 : a.tmps.getD 4 undef = .bool true := he 1 (by kernel_rfl)
      refine wpOp_step rfl (fun K hK => ?_)
      go_simp
      exact hK _ _ ⟨_, rfl, rfl, World.grownBy.refl _ _⟩
    · intro a w' hf he
      have k0 : a.tmps.getD 0 undef = .pointer (some ⟨tb, 0, none⟩) := hf.var (by kernel_rfl) rfl
      have f2 : a.tmps.getD 5 undef = .bool true := he 2 (by kernel_rfl)
      refine wpOp_run rfl rfl rfl f2 (fun K hK => ?_)
      go_simp
      exact hK _ _ ⟨_, rfl, rfl, World.grownBy.refl _ _⟩
    · intro a w' hf he
      have f3 : a.tmps.getD 6 undef = .pointer (some ⟨tb, 0, none⟩) := he 3 (by kernel_rfl)
      have f2 : a.tmps.getD 5 undef = .bool true := he 2 (by kernel_rfl)
      refine wpOp_run rfl rfl rfl f2 (fun K hK => ?_)
      go_simp
      exact hK _ _ ⟨_, rfl, rfl, World.grownBy.refl _ _⟩
    · intro a w' hf he
      have f4 : a.tmps.getD 7 undef = .pointer (some ⟨tb, 0, none⟩) := he 4 (by kernel_rfl)
      have f2 : a.tmps.getD 5 undef = .bool true := he 2 (by kernel_rfl)
      refine wpOp_run rfl rfl rfl f2 (fun K hK => ?_)
      go_simp
      exact hK _ _ ⟨_, rfl, rfl, World.grownBy.refl _ _⟩
    · intro a w' hf he
      have f5 : a.tmps.getD 8 undef = .pointer (some ⟨tb, 1, none⟩) := he 5 (by kernel_rfl)
      have f2 : a.tmps.getD 5 undef = .bool true := he 2 (by kernel_rfl)
      rw [show kindRow _ _ = none from by kernel_rfl] at hf
      have hb := (Ht.out.bel hf.bel).blk
      have c1 : w'.cell? ⟨tb, 1, none⟩ = some (.map (some mb)) := by simp [World.cell?, hb]
      clear hb
      refine wpOp_run rfl rfl rfl f2 (fun K hK => ?_)
      go_simp
      exact hK _ _ ⟨_, rfl, rfl, World.grownBy.refl _ _⟩
    · intro a w' hf he
      have f6 : a.tmps.getD 9 undef = .map (some mb) := he 6 (by kernel_rfl)
      have f2 : a.tmps.getD 5 undef = .bool true := he 2 (by kernel_rfl)
      rw [show kindRow _ _ = none from by kernel_rfl] at hf
      have hl := (Ht.out.bel hf.bel).own.len Try.underlying68 3
      refine wpOp_run rfl rfl rfl f2 (fun K hK => ?_)
      go_simp
      exact hK _ _ ⟨_, rfl, rfl, World.grownBy.refl _ _⟩
    · intro a w' hf he
      have k0 : a.tmps.getD 0 undef = .pointer (some ⟨tb, 0, none⟩) := hf.var (by kernel_rfl) rfl
      have f2 : a.tmps.getD 5 undef = .bool true := he 2 (by kernel_rfl)
      refine wpOp_run rfl rfl rfl f2 (fun K hK => ?_)
      go_simp
      exact hK _ _ ⟨_, rfl, rfl, World.grownBy.refl _ _⟩
    · intro a w' hf he
      have f8 : a.tmps.getD 11 undef = .pointer (some ⟨tb, 0, none⟩) := he 8 (by kernel_rfl)
      have f2 : a.tmps.getD 5 undef = .bool true := he 2 (by kernel_rfl)
      refine wpOp_run rfl rfl rfl f2 (fun K hK => ?_)
      go_simp
      exact hK _ _ ⟨_, rfl, rfl, World.grownBy.refl _ _⟩
    · intro a w' hf he
      have f9 : a.tmps.getD 12 undef = .pointer (some ⟨tb, 0, none⟩) := he 9 (by kernel_rfl)
      have f2 : a.tmps.getD 5 undef = .bool true := he 2 (by kernel_rfl)
      refine wpOp_run rfl rfl rfl f2 (fun K hK => ?_)
      go_simp
      exact hK _ _ ⟨_, rfl, rfl, World.grownBy.refl _ _⟩
    · intro a w' hf he
      have f10 : a.tmps.getD 13 undef = .pointer (some ⟨tb, 0, none⟩) := he 10 (by kernel_rfl)
      have f2 : a.tmps.getD 5 undef = .bool true := he 2 (by kernel_rfl)
      rw [show kindRow _ _ = none from by kernel_rfl] at hf
      have hb := (Ht.out.bel hf.bel).blk
      have c0 : w'.cell? ⟨tb, 0, none⟩ = some (.int .i64 most) := by simp [World.cell?, hb]
      clear hb
      refine wpOp_run rfl rfl rfl f2 (fun K hK => ?_)
      go_simp
      exact hK _ _ ⟨_, rfl, rfl, World.grownBy.refl _ _⟩
    · intro a w' hf he
      have f7 : a.tmps.getD 10 undef = .int .i64 (Maps.size D : Int) := he 7 (by kernel_rfl)
      have f11 : a.tmps.getD 14 undef = .int .i64 most := he 11 (by kernel_rfl)
      have f2 : a.tmps.getD 5 undef = .bool true := he 2 (by kernel_rfl)
      refine wpOp_run rfl rfl rfl f2 (fun K hK => ?_)
      go_simp
      exact hK _ _ ⟨_, rfl, rfl, World.grownBy.refl _ _⟩
    · intro a w' hf he
      have f2 : a.tmps.getD 5 undef = .bool true := he 2 (by kernel_rfl)
      have f12 : a.tmps.getD 15 undef = .bool (decide (most ≤ (Maps.size D : Int))) := he 12 (by kernel_rfl)
      refine wpOp_step rfl (fun K hK => ?_)
      go_simp
      exact hK _ _ ⟨_, rfl, rfl, World.grownBy.refl _ _⟩
  · intro a w' hf he
    obtain ⟨u3, f0⟩ : ∃ u, a.tmps.getD 3 undef = u := ⟨_, rfl⟩
    obtain ⟨u4, f1⟩ : ∃ u, a.tmps.getD 4 undef = u := ⟨_, rfl⟩
    obtain ⟨u5, f2⟩ : ∃ u, a.tmps.getD 5 undef = u := ⟨_, rfl⟩
    obtain ⟨u6, f3⟩ : ∃ u, a.tmps.getD 6 undef = u := ⟨_, rfl⟩
    obtain ⟨u7, f4⟩ : ∃ u, a.tmps.getD 7 undef = u := ⟨_, rfl⟩
    obtain ⟨u8, f5⟩ : ∃ u, a.tmps.getD 8 undef = u := ⟨_, rfl⟩
    obtain ⟨u9, f6⟩ : ∃ u, a.tmps.getD 9 undef = u := ⟨_, rfl⟩
    obtain ⟨u10, f7⟩ : ∃ u, a.tmps.getD 10 undef = u := ⟨_, rfl⟩
    obtain ⟨u11, f8⟩ : ∃ u, a.tmps.getD 11 undef = u := ⟨_, rfl⟩
    obtain ⟨u12, f9⟩ : ∃ u, a.tmps.getD 12 undef = u := ⟨_, rfl⟩
    obtain ⟨u13, f10⟩ : ∃ u, a.tmps.getD 13 undef = u := ⟨_, rfl⟩
    obtain ⟨u14, f11⟩ : ∃ u, a.tmps.getD 14 undef = u := ⟨_, rfl⟩
    obtain ⟨u15, f12⟩ : ∃ u, a.tmps.getD 15 undef = u := ⟨_, rfl⟩
    have f13 : a.tmps.getD 16 undef = .bool (decide (most ≤ (Maps.size D : Int))) := he 13 (by decide)
    have hlit := hf.lit ((3, u3) :: (4, u4) :: (5, u5) :: (6, u6) :: (7, u7) :: (8, u8) :: (9, u9) :: (10, u10) :: (11, u11) :: (12, u12) :: (13, u13) :: (14, u14) :: (15, u15) :: (16, .bool (decide (most ≤ (Maps.size D : Int)))) :: []) (by kernel_rfl) ⟨f0, f1, f2, f3, f4, f5, f6, f7, f8, f9, f10, f11, f12, f13, trivial⟩
    have hB := hf.bel
    clear he hf f0 f1 f2 f3 f4 f5 f6 f7 f8 f9 f10 f11 f12 f13 
    subst hlit
    simp only [putAll_nil, putAll_cons, Act.put, List.setIfInBounds_toArray, List.set_cons_zero, List.set_cons_succ]
    simp only [List.drop_succ_cons, List.drop_zero]
    have hB0 : Below w.heap.size w w' := hB
    go_wp2_with fail
    go_ret
    exact ⟨rfl, hB0⟩
end Go.Proofs.Ytplemdgihlabgaa.Table
