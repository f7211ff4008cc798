/- Contracts of the package session: ping, all. Conditions: none. -/
import Derived.Test.YtplemdgihlabgaaSession3
import Derived.Test.YtplemdgihlabgaaWire6
set_option linter.unusedVariables false
set_option linter.unusedSimpArgs false
namespace Go.Proofs.Ytplemdgihlabgaa.Session
open Go.RowKit Tw Bx
set_option maxHeartbeats 2000000
set_option maxRecDepth 100000
section
variable {w : World} {S ob ib kp : Nat} {win lim miss : Int} {m p : Nat}
theorem c_iIs (h : In0 w ib) : Calls Try.prog 161 #[.pointer (some ⟨ib, 0, none⟩)] w fun e w' => e = .returned (.bool true) ∧ w = w' := by
  unfold In0 at h
  have c0 : w.cell? ⟨ib, 0, none⟩ = some (.bool true) := by simp [World.cell?, h]
  clear h
  go_enter Try.func161, Try.ntmps161
  go_wp2_with fail
  go_ret
  exact ⟨rfl, rfl⟩
theorem c_Ack (h : In0 w ib) : Calls Try.prog 154 #[.pointer (some ⟨ib, 0, none⟩)] w fun e w' => e = .returned (.int .i64 0) ∧ w = w' := by
  have H := Lib.hid h
  unfold In0 at h
  have c1 : w.cell? ⟨ib, 1, none⟩ = some (.int .i64 0) := by simp [World.cell?, h]
  clear h
  go_enter Try.func154, Try.ntmps154
  go_wp2_with (first
    | (go_at_call 161; (with_reducible refine (c_iIs H.out).mono ?_); rintro e w' ⟨rfl, rfl⟩))
  go_ret
  exact ⟨rfl, rfl⟩
theorem c_ping (h : Se w S ob ib kp (m : Int) (p : Int) win lim miss) (hm : m < 4294967296) (hp : p < 4294967296) (q : Int) : Calls Try.prog 103 #[.pointer (some ⟨S, 0, none⟩), .int .i64 q] w fun e w' => (∃ A n c, e = .returned (.slice A n c)) ∧ Below w.heap.size w w' := by
  have H := Lib.hid h
  clear h
  go_enter Try.func103, Try.ntmps103
  go_wp2_with fail
  refine wp_region_phi (by kernel_rfl) 16 none (fun _ => false) (fun i_ v wz => match i_ with
    | 0 => v = .pointer (some ⟨S, 0, none⟩)
    | 1 => v = .pointer (some ⟨S, 0, none⟩)
    | 2 => v = .pointer (some ⟨S, 0, none⟩)
    | 3 => v = .int .u32 (m : Int)
    | 4 => v = .pointer (some ⟨S, 0, none⟩)
    | 5 => v = .pointer (some ⟨S, 0, none⟩)
    | 6 => v = .pointer (some ⟨S, 1, none⟩)
    | 7 => v = .int .u32 (p : Int)
    | 8 => v = .pointer (some ⟨S, 0, none⟩)
    | 9 => v = .pointer (some ⟨S, 0, none⟩)
    | 10 => v = .pointer (some ⟨S, 3, none⟩)
    | 11 => v = .pointer (some ⟨S, 4, none⟩)
    | 12 => v = .pointer (some ⟨ib, 0, none⟩)
    | 13 => v = .int .i64 0
    | 14 => v = .agg #[.int .u32 (m : Int), .int .u32 (p : Int), .int .i64 2, .int .i64 0, .int .i64 0, .slice none 0 0]
    | 15 => ∃ A n c, v = .slice A n c
    | _ => True) (by kernel_rfl) ?_ ?_ ?_
  · (repeat' (first | exact allLt_zero | refine allLt_succ ?_ ?_))
    · exact fun _ _ _ h _ => h
    · exact fun _ _ _ h _ => h
    · exact fun _ _ _ h _ => h
    · exact fun _ _ _ h _ => h
    · exact fun _ _ _ h _ => h
    · exact fun _ _ _ h _ => h
    · exact fun _ _ _ h _ => h
    · exact fun _ _ _ h _ => h
    · exact fun _ _ _ h _ => h
    · exact fun _ _ _ h _ => h
    · exact fun _ _ _ h _ => h
    · exact fun _ _ _ h _ => h
    · exact fun _ _ _ h _ => h
    · exact fun _ _ _ h _ => h
    · exact fun _ _ _ h _ => h
    · intro v w1 w2 h hg
      rw [show kindRow _ _ = none from by kernel_rfl] at hg
      exact h
  · (repeat' (first | exact allLt_zero | refine allLt_succ ?_ ?_))
    · intro a w' hf he
      have k0 : a.tmps.getD 0 undef = .pointer (some ⟨S, 0, none⟩) := hf.var (by kernel_rfl) rfl
      refine wpOp_step rfl (fun K hK => ?_)
      go_simp
      exact hK _ _ ⟨_, rfl, rfl, World.grownBy.refl _ _⟩
    · intro a w' hf he
      have f0 : a.tmps.getD 5 undef = .pointer (some ⟨S, 0, none⟩) := he 0 (by kernel_rfl)
      refine wpOp_step rfl (fun K hK => ?_)
      go_simp
      exact hK _ _ ⟨_, rfl, rfl, World.grownBy.refl _ _⟩
    · intro a w' hf he
      have f1 : a.tmps.getD 6 undef = .pointer (some ⟨S, 0, none⟩) := he 1 (by kernel_rfl)
      refine wpOp_step rfl (fun K hK => ?_)
      go_simp
      exact hK _ _ ⟨_, rfl, rfl, World.grownBy.refl _ _⟩
    · intro a w' hf he
      have f2 : a.tmps.getD 7 undef = .pointer (some ⟨S, 0, none⟩) := he 2 (by kernel_rfl)
      rw [show kindRow _ _ = none from by kernel_rfl] at hf
      have dd := (H.out.bel hf.bel).cells.1
      refine wpOp_step rfl (fun K hK => ?_)
      go_simp
      exact hK _ _ ⟨_, rfl, rfl, World.grownBy.refl _ _⟩
    · intro a w' hf he
      have k0 : a.tmps.getD 0 undef = .pointer (some ⟨S, 0, none⟩) := hf.var (by kernel_rfl) rfl
      refine wpOp_step rfl (fun K hK => ?_)
      go_simp
      exact hK _ _ ⟨_, rfl, rfl, World.grownBy.refl _ _⟩
    · intro a w' hf he
      have f4 : a.tmps.getD 9 undef = .pointer (some ⟨S, 0, none⟩) := he 4 (by kernel_rfl)
      refine wpOp_step rfl (fun K hK => ?_)
      go_simp
      exact hK _ _ ⟨_, rfl, rfl, World.grownBy.refl _ _⟩
    · intro a w' hf he
      have f5 : a.tmps.getD 10 undef = .pointer (some ⟨S, 0, none⟩) := he 5 (by kernel_rfl)
      refine wpOp_step rfl (fun K hK => ?_)
      go_simp
      exact hK _ _ ⟨_, rfl, rfl, World.grownBy.refl _ _⟩
    · intro a w' hf he
      have f6 : a.tmps.getD 11 undef = .pointer (some ⟨S, 1, none⟩) := he 6 (by kernel_rfl)
      rw [show kindRow _ _ = none from by kernel_rfl] at hf
      have dd := (H.out.bel hf.bel).cells.2.1
      refine wpOp_step rfl (fun K hK => ?_)
      go_simp
      exact hK _ _ ⟨_, rfl, rfl, World.grownBy.refl _ _⟩
    · intro a w' hf he
      have k0 : a.tmps.getD 0 undef = .pointer (some ⟨S, 0, none⟩) := hf.var (by kernel_rfl) rfl
      refine wpOp_step rfl (fun K hK => ?_)
      go_simp
      exact hK _ _ ⟨_, rfl, rfl, World.grownBy.refl _ _⟩
    · intro a w' hf he
      have f8 : a.tmps.getD 13 undef = .pointer (some ⟨S, 0, none⟩) := he 8 (by kernel_rfl)
      refine wpOp_step rfl (fun K hK => ?_)
      go_simp
      exact hK _ _ ⟨_, rfl, rfl, World.grownBy.refl _ _⟩
    · intro a w' hf he
      have f9 : a.tmps.getD 14 undef = .pointer (some ⟨S, 0, none⟩) := he 9 (by kernel_rfl)
      refine wpOp_step rfl (fun K hK => ?_)
      go_simp
      exact hK _ _ ⟨_, rfl, rfl, World.grownBy.refl _ _⟩
    · intro a w' hf he
      have f10 : a.tmps.getD 15 undef = .pointer (some ⟨S, 3, none⟩) := he 10 (by kernel_rfl)
      refine wpOp_step rfl (fun K hK => ?_)
      go_simp
      exact hK _ _ ⟨_, rfl, rfl, World.grownBy.refl _ _⟩
    · intro a w' hf he
      have f11 : a.tmps.getD 16 undef = .pointer (some ⟨S, 4, none⟩) := he 11 (by kernel_rfl)
      rw [show kindRow _ _ = none from by kernel_rfl] at hf
      have dd := (H.out.bel hf.bel).cells.2.2.2.2.1
      refine wpOp_step rfl (fun K hK => ?_)
      go_simp
      exact hK _ _ ⟨_, rfl, rfl, World.grownBy.refl _ _⟩
    · intro a w' hf he
      have f12 : a.tmps.getD 17 undef = .pointer (some ⟨ib, 0, none⟩) := he 12 (by kernel_rfl)
      rw [show kindRow _ _ = none from by kernel_rfl] at hf
      refine wpOp_step rfl (fun K hK => ?_)
      go_simp
      refine (c_Ack (H.out.bel hf.bel).inb).mono ?_
      rintro e w2 ⟨rfl, rfl⟩
      exact hK _ _ ⟨_, rfl, rfl, World.grownBy.refl _ _⟩
    · intro a w' hf he
      have f3 : a.tmps.getD 8 undef = .int .u32 (m : Int) := he 3 (by kernel_rfl)
      have f7 : a.tmps.getD 12 undef = .int .u32 (p : Int) := he 7 (by kernel_rfl)
      have f13 : a.tmps.getD 18 undef = .int .i64 0 := he 13 (by kernel_rfl)
      have e3 : a.tmps[8]?.getD undef = _ := Array.getD_eq_getD_getElem? .. ▸ f3
      have e7 : a.tmps[12]?.getD undef = _ := Array.getD_eq_getD_getElem? .. ▸ f7
      have e13 : a.tmps[18]?.getD undef = _ := Array.getD_eq_getD_getElem? .. ▸ f13
      refine wpOp_step rfl (fun K hK => ?_)
      go_simp
      exact hK _ _ ⟨_, rfl, rfl, World.grownBy.refl _ _⟩
    · intro a w' hf he
      have f14 : a.tmps.getD 19 undef = .agg #[.int .u32 (m : Int), .int .u32 (p : Int), .int .i64 2, .int .i64 0, .int .i64 0, .slice none 0 0] := he 14 (by kernel_rfl)
      rw [show kindRow _ _ = none from by kernel_rfl] at hf
      refine wpOp_step rfl (fun K hK => ?_)
      go_simp
      refine (Wire.c_BytesO m p 2 0 0 none 0 0 [] w' hm hp Rd.nil_).mono ?_
      rintro e w2 ⟨A9, n9, c9, rfl, _, hb9⟩
      exact hK _ _ ⟨_, rfl, ⟨_, _, _, rfl⟩, grown_bel hb9⟩
  · intro a w' hf he
    obtain ⟨u5, f0⟩ : ∃ u, a.tmps.getD 5 undef = u := ⟨_, rfl⟩
    obtain ⟨u6, f1⟩ : ∃ u, a.tmps.getD 6 undef = u := ⟨_, rfl⟩
    obtain ⟨u7, f2⟩ : ∃ u, a.tmps.getD 7 undef = u := ⟨_, rfl⟩
    obtain ⟨u8, f3⟩ : ∃ u, a.tmps.getD 8 undef = u := ⟨_, rfl⟩
    obtain ⟨u9, f4⟩ : ∃ u, a.tmps.getD 9 undef = u := ⟨_, rfl⟩
    obtain ⟨u10, f5⟩ : ∃ u, a.tmps.getD 10 undef = u := ⟨_, rfl⟩
    obtain ⟨u11, f6⟩ : ∃ u, a.tmps.getD 11 undef = u := ⟨_, rfl⟩
    obtain ⟨u12, f7⟩ : ∃ u, a.tmps.getD 12 undef = u := ⟨_, rfl⟩
    obtain ⟨u13, f8⟩ : ∃ u, a.tmps.getD 13 undef = u := ⟨_, rfl⟩
    obtain ⟨u14, f9⟩ : ∃ u, a.tmps.getD 14 undef = u := ⟨_, rfl⟩
    obtain ⟨u15, f10⟩ : ∃ u, a.tmps.getD 15 undef = u := ⟨_, rfl⟩
    obtain ⟨u16, f11⟩ : ∃ u, a.tmps.getD 16 undef = u := ⟨_, rfl⟩
    obtain ⟨u17, f12⟩ : ∃ u, a.tmps.getD 17 undef = u := ⟨_, rfl⟩
    obtain ⟨u18, f13⟩ : ∃ u, a.tmps.getD 18 undef = u := ⟨_, rfl⟩
    obtain ⟨u19, f14⟩ : ∃ u, a.tmps.getD 19 undef = u := ⟨_, rfl⟩
    obtain ⟨A15, n15, c15, hv15⟩ := he 15 (by decide)
    have f15 : a.tmps.getD 20 undef = _ := hv15
    have hlit := hf.lit ((5, u5) :: (6, u6) :: (7, u7) :: (8, u8) :: (9, u9) :: (10, u10) :: (11, u11) :: (12, u12) :: (13, u13) :: (14, u14) :: (15, u15) :: (16, u16) :: (17, u17) :: (18, u18) :: (19, u19) :: (20, _) :: []) (by kernel_rfl) ⟨f0, f1, f2, f3, f4, f5, f6, f7, f8, f9, f10, f11, f12, f13, f14, f15, trivial⟩
    have hB := hf.bel
    clear he hf f0 f1 f2 f3 f4 f5 f6 f7 f8 f9 f10 f11 f12 f13 f14 f15 hv15
    subst hlit
    simp only [putAll_nil, putAll_cons, Act.put, List.setIfInBounds_toArray, List.set_cons_zero, List.set_cons_succ]
    simp only [List.drop_succ_cons, List.drop_zero]
    have hB0 : Below w.heap.size w w' := hB
    clear hB
    go_wp2_with fail
    go_ret
    exact ⟨⟨_, _, _, rfl⟩, hB0⟩
end
end Go.Proofs.Ytplemdgihlabgaa.Session
