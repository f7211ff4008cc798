/- Contracts of the package outbox, what a number stands for. Conditions: at most 2^20 bodies. -/
import Derived.Test.YtlfphoablloodaaOutbox
namespace Go.Proofs.Ytlfphoablloodaa.Outbox
open Go.RowKit Tw
set_option maxHeartbeats 400000
section
variable {w : World} {B : Nat} {F : Nat → Prop} {p : Nat} {win first : Int} {bs : List (List UInt8)}
theorem c_Body_no (ho : OutR w B F p win first bs) (hw : 0 < win) (hb : bs.length ≤ 1048576) (hf0 : 1 ≤ first) (hf1 : first ≤ 2199023255552) (n : Int) (hn : n < first ∨ first + bs.length - 1 < n) :
    Calls Try.prog 54 #[.pointer (some ⟨p, 0, none⟩), .int .i64 n] w fun e w' => e = .returned (.tuple #[.slice none 0 0, .bool false]) ∧ ∃ m, w' = w.drewN m := by
  have Ho := Lib.hid ho
  obtain ⟨A, c, vs, h⟩ := ho
  have c1 := cell_of_row w p 1 _ _ _ h.blk
  have c2 := cell_of_row w p 2 _ _ _ h.blk
  simp at c1 c2
  clear h
  by_cases h0 : n < first
  · have h0' : decide (n < first) = true := by simpa using h0
    clear hn
    go_enter Try.func54, Try.ntmps54
    go_wp2_with fail
    go_quiet ((go_at_call 96; exact quiet_same (c_is (Ho.out.drewN _) hw)))
    go_wp2
    go_ret2
    exact ⟨rfl, _, rfl⟩
  · have h0' : decide (n < first) = false := by simpa using h0
    have hn' : decide (first + (bs.length : Int) - 1 < n) = true := by simp; omega
    have w1 : IntKind.i64.wrap (first + (bs.length : Int)) = first + (bs.length : Int) := IntWalk.i64_in _ (by omega)
    have w2 : IntKind.i64.wrap (first + (bs.length : Int) - 1) = first + (bs.length : Int) - 1 := IntWalk.i64_in _ (by omega)
    clear hn
    go_enter Try.func54, Try.ntmps54
    go_wp2_with fail
    go_quiet ((go_at_call 96; exact quiet_same (c_is (Ho.out.drewN _) hw)))
    go_wp2
    go_ret2
    exact ⟨rfl, _, rfl⟩

theorem c_Body (ho : OutR w B F p win first bs) (hw : 0 < win) (hb : bs.length ≤ 1048576) (hf0 : 1 ≤ first) (hf1 : first ≤ 2199023255552) (n : Int) (i : Nat) (body : List UInt8) (hn : n = first + i) (hi : bs[i]? = some body) (hbl : body.length ≤ 140737488351232) :
    Calls Try.prog 54 #[.pointer (some ⟨p, 0, none⟩), .int .i64 n] w fun e w' => ∃ A2 c2, e = .returned (.tuple #[.slice A2 body.length c2, .bool true]) ∧ Own w' w.heap.size 5 1 A2 body.length c2 (bytesV body) ∧ Below w.heap.size w w' := by
  subst hn
  have hil : i < bs.length := (List.getElem?_eq_some_iff.1 hi).1
  have Ho := Lib.hid ho
  obtain ⟨A, c, vs, h⟩ := ho
  have c1 := cell_of_row w p 1 _ _ _ h.blk
  have c2 := cell_of_row w p 2 _ _ _ h.blk
  simp at c1 c2
  have Hat := Lib.hid h
  have Hi := Lib.hid hi
  clear h hi
  have h0' : decide (first + (i : Int) < first) = false := by simp; omega
  have hn' : decide (first + (bs.length : Int) - 1 < first + (i : Int)) = false := by simp; omega
  have w1 : IntKind.i64.wrap (first + (bs.length : Int)) = first + (bs.length : Int) := IntWalk.i64_in _ (by omega)
  have w2 : IntKind.i64.wrap (first + (bs.length : Int) - 1) = first + (bs.length : Int) - 1 := IntWalk.i64_in _ (by omega)
  go_enter Try.func54, Try.ntmps54
  go_wp2_with fail
  go_quiet ((go_at_call 96; exact quiet_same (c_is (Ho.out.drewN _) hw)))
  clear h0' hn' w1 w2
  have hplt : p < w.heap.size := heap_lt Hat.out.blk
  obtain ⟨vi, hvi, A3, n3, c3, rfl, hb3, _⟩ := Hat.out.bod.2 i body Hi.out
  obtain ⟨ad, u, hA, hu, hcell⟩ := Hat.out.row.rd.at1 hil
  rw [hvi] at hu
  injection hu with hu
  subst hu hA
  have hl3 := hb3.blen
  subst hl3
  have hadl := block_lt_of_cell hcell
  have ws : IntKind.i64.wrap (first + (i : Int) - first) = (i : Int) := by rw [IntWalk.i64_in _ (by omega)]; omega
  clear hvi Hi
  go_wp2_with fail
  have hb0 : Below w.heap.size w (w.drewN nq) := ⟨rfl, rfl, rfl, Nat.le_refl _, fun _ _ => rfl⟩
  have hcell0 : (w.drewN nq).cell? (ad.add i) = some (.slice A3 body.length c3) := hcell
  have c10 : (w.drewN nq).cell? ⟨p, 1, none⟩ = some (.int .i64 first) := c1
  have c20 : (w.drewN nq).cell? ⟨p, 2, none⟩ = some (.slice (some ad) bs.length c) := c2
  have hb30 := hb3.drewN nq
  have hplt0 : p < (w.drewN nq).heap.size := hplt
  have hadl0 : (ad.add i).block < (w.drewN nq).heap.size := hadl
  clear hcell c1 c2 hb3 hplt hadl Ho Hat
  generalize w.drewN nq = W0 at *
  refine wp_region_phi (by kernel_rfl) 13 none (fun _ => false) (fun i_ v wz => match i_ with
    | 0 => v = .pointer (some ⟨p, 0, none⟩)
    | 1 => v = .pointer (some ⟨p, 0, none⟩)
    | 2 => v = .pointer (some ⟨p, 2, none⟩)
    | 3 => v = .slice (some ad) bs.length c
    | 4 => v = .int .i64 (first + (i : Int))
    | 5 => v = .pointer (some ⟨p, 0, none⟩)
    | 6 => v = .pointer (some ⟨p, 0, none⟩)
    | 7 => v = .pointer (some ⟨p, 1, none⟩)
    | 8 => v = .int .i64 first
    | 9 => v = .int .i64 (i : Int)
    | 10 => v = .pointer (some (ad.add i))
    | 11 => v = .slice A3 body.length c3
    | 12 => ∃ A4 c4, v = .slice A4 body.length c4 ∧ Own wz W0.heap.size 5 1 A4 body.length c4 (bytesV body)
    | _ => True) (by kernel_rfl) ?_ ?_ ?_
  · (repeat' (first | exact allLt_zero | refine allLt_succ ?_ ?_))
    · exact fun _ _ _ h _ => h
    · exact fun _ _ _ h _ => h
    · exact fun _ _ _ h _ => h
    · exact fun _ _ _ h _ => h
    · exact fun _ _ _ h _ => h
    · exact fun _ _ _ h _ => h
    · exact fun _ _ _ h _ => h
    · exact fun _ _ _ h _ => h
    · exact fun _ _ _ h _ => h
    · exact fun _ _ _ h _ => h
    · exact fun _ _ _ h _ => h
    · exact fun _ _ _ h _ => h
    · intro v w1 w2 h hg
      rw [show kindRow _ _ = none from by kernel_rfl] at hg
      obtain ⟨A4, c4, rfl, hr⟩ := h
      exact ⟨A4, c4, rfl, hr.bel (bel_grown hg)⟩
  · (repeat' (first | exact allLt_zero | refine allLt_succ ?_ ?_))
    · intro a w' hf he
      have k0 : a.tmps.getD 0 undef = .pointer (some ⟨p, 0, none⟩) := hf.var (by kernel_rfl) rfl
      refine wpOp_step rfl (fun K hK => ?_)
      go_simp
      exact hK _ _ ⟨_, rfl, rfl, World.grownBy.refl _ _⟩
    · intro a w' hf he
      have f0 : a.tmps.getD 32 undef = .pointer (some ⟨p, 0, none⟩) := he 0 (by kernel_rfl)
      refine wpOp_step rfl (fun K hK => ?_)
      go_simp
      exact hK _ _ ⟨_, rfl, rfl, World.grownBy.refl _ _⟩
    · intro a w' hf he
      have f1 : a.tmps.getD 33 undef = .pointer (some ⟨p, 0, none⟩) := he 1 (by kernel_rfl)
      refine wpOp_step rfl (fun K hK => ?_)
      go_simp
      exact hK _ _ ⟨_, rfl, rfl, World.grownBy.refl _ _⟩
    · intro a w' hf he
      have f2 : a.tmps.getD 34 undef = .pointer (some ⟨p, 2, none⟩) := he 2 (by kernel_rfl)
      rw [show kindRow _ _ = none from by kernel_rfl] at hf
      have q := hf.bel.cell (p := ⟨p, 2, none⟩) hplt0
      rw [show W0.cell? ⟨p, 2, none⟩ = _ from c20] at q
      refine wpOp_step rfl (fun K hK => ?_)
      go_simp
      exact hK _ _ ⟨_, rfl, rfl, World.grownBy.refl _ _⟩
    · intro a w' hf he
      have k1 : a.tmps.getD 1 undef = .int .i64 (first + (i : Int)) := hf.var (by kernel_rfl) rfl
      refine wpOp_step rfl (fun K hK => ?_)
      go_simp
      exact hK _ _ ⟨_, rfl, rfl, World.grownBy.refl _ _⟩
    · intro a w' hf he
      have k0 : a.tmps.getD 0 undef = .pointer (some ⟨p, 0, none⟩) := hf.var (by kernel_rfl) rfl
      refine wpOp_step rfl (fun K hK => ?_)
      go_simp
      exact hK _ _ ⟨_, rfl, rfl, World.grownBy.refl _ _⟩
    · intro a w' hf he
      have f5 : a.tmps.getD 37 undef = .pointer (some ⟨p, 0, none⟩) := he 5 (by kernel_rfl)
      refine wpOp_step rfl (fun K hK => ?_)
      go_simp
      exact hK _ _ ⟨_, rfl, rfl, World.grownBy.refl _ _⟩
    · intro a w' hf he
      have f6 : a.tmps.getD 38 undef = .pointer (some ⟨p, 0, none⟩) := he 6 (by kernel_rfl)
      refine wpOp_step rfl (fun K hK => ?_)
      go_simp
      exact hK _ _ ⟨_, rfl, rfl, World.grownBy.refl _ _⟩
    · intro a w' hf he
      have f7 : a.tmps.getD 39 undef = .pointer (some ⟨p, 1, none⟩) := he 7 (by kernel_rfl)
      rw [show kindRow _ _ = none from by kernel_rfl] at hf
      have q := hf.bel.cell (p := ⟨p, 1, none⟩) hplt0
      rw [show W0.cell? ⟨p, 1, none⟩ = _ from c10] at q
      refine wpOp_step rfl (fun K hK => ?_)
      go_simp
      exact hK _ _ ⟨_, rfl, rfl, World.grownBy.refl _ _⟩
    · intro a w' hf he
      have f4 : a.tmps.getD 36 undef = .int .i64 (first + (i : Int)) := he 4 (by kernel_rfl)
      have f8 : a.tmps.getD 40 undef = .int .i64 first := he 8 (by kernel_rfl)
      refine wpOp_step rfl (fun K hK => ?_)
      go_simp
      exact hK _ _ ⟨_, rfl, rfl, World.grownBy.refl _ _⟩
    · intro a w' hf he
      have f3 : a.tmps.getD 35 undef = .slice (some ad) bs.length c := he 3 (by kernel_rfl)
      have f9 : a.tmps.getD 41 undef = .int .i64 (i : Int) := he 9 (by kernel_rfl)
      refine wpOp_step rfl (fun K hK => ?_)
      go_simp
      exact hK _ _ ⟨_, rfl, rfl, World.grownBy.refl _ _⟩
    · intro a w' hf he
      have f10 : a.tmps.getD 42 undef = .pointer (some (ad.add i)) := he 10 (by kernel_rfl)
      rw [show kindRow _ _ = none from by kernel_rfl] at hf
      have q := hf.bel.cell hadl0
      rw [hcell0] at q
      refine wpOp_step rfl (fun K hK => ?_)
      go_simp
      exact hK _ _ ⟨_, rfl, rfl, World.grownBy.refl _ _⟩
    · intro a w' hf he
      have f11 : a.tmps.getD 43 undef = .slice A3 body.length c3 := he 11 (by kernel_rfl)
      rw [show kindRow _ _ = none from by kernel_rfl] at hf
      refine wpOp_step rfl (fun K hK => ?_)
      go_simp
      refine (c_Clone _ _ _ body _ (hb30.bel hf.bel) hbl).mono ?_
      rintro e w2 ⟨A4, c4, rfl, hown, hb2⟩
      exact hK _ _ ⟨_, rfl, ⟨A4, c4, rfl, hown.mono hf.bel.size⟩, grown_bel hb2⟩
  · intro a w' hf he
    obtain ⟨u32, f0⟩ : ∃ u, a.tmps.getD 32 undef = u := ⟨_, rfl⟩
    obtain ⟨u33, f1⟩ : ∃ u, a.tmps.getD 33 undef = u := ⟨_, rfl⟩
    obtain ⟨u34, f2⟩ : ∃ u, a.tmps.getD 34 undef = u := ⟨_, rfl⟩
    obtain ⟨u35, f3⟩ : ∃ u, a.tmps.getD 35 undef = u := ⟨_, rfl⟩
    obtain ⟨u36, f4⟩ : ∃ u, a.tmps.getD 36 undef = u := ⟨_, rfl⟩
    obtain ⟨u37, f5⟩ : ∃ u, a.tmps.getD 37 undef = u := ⟨_, rfl⟩
    obtain ⟨u38, f6⟩ : ∃ u, a.tmps.getD 38 undef = u := ⟨_, rfl⟩
    obtain ⟨u39, f7⟩ : ∃ u, a.tmps.getD 39 undef = u := ⟨_, rfl⟩
    obtain ⟨u40, f8⟩ : ∃ u, a.tmps.getD 40 undef = u := ⟨_, rfl⟩
    obtain ⟨u41, f9⟩ : ∃ u, a.tmps.getD 41 undef = u := ⟨_, rfl⟩
    obtain ⟨u42, f10⟩ : ∃ u, a.tmps.getD 42 undef = u := ⟨_, rfl⟩
    obtain ⟨u43, f11⟩ : ∃ u, a.tmps.getD 43 undef = u := ⟨_, rfl⟩
    obtain ⟨A12, c12, hv12, hb12⟩ := he 12 (by decide)
    have f12 : a.tmps.getD 44 undef = _ := hv12
    have hlit := hf.lit ((32, u32) :: (33, u33) :: (34, u34) :: (35, u35) :: (36, u36) :: (37, u37) :: (38, u38) :: (39, u39) :: (40, u40) :: (41, u41) :: (42, u42) :: (43, u43) :: (44, _) :: []) (by kernel_rfl) ⟨f0, f1, f2, f3, f4, f5, f6, f7, f8, f9, f10, f11, f12, trivial⟩
    have hB := hf.bel
    clear he hf f0 f1 f2 f3 f4 f5 f6 f7 f8 f9 f10 f11 f12 hv12
    subst hlit
    simp only [putAll_nil, putAll_cons, Act.put, List.setIfInBounds_toArray, List.set_cons_zero, List.set_cons_succ]
    simp only [List.drop_succ_cons, List.drop_zero]
    go_wp2
    go_ret2
    exact ⟨A12, c12, rfl, hb12.mono hb0.size, hb0.trans (hB.mono hb0.size)⟩
end
end Go.Proofs.Ytlfphoablloodaa.Outbox
