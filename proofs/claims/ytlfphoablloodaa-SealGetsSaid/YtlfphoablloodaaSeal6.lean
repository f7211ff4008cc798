/- The law SealPuts, walked. Conditions: none. -/
import Derived.Test.YtlfphoablloodaaSeal5
namespace Go.Proofs.Ytlfphoablloodaa.Seal
open Go.RowKit Tw
open Crc (le sealed le_length sealed_length)
set_option maxHeartbeats 400000

theorem rd_lit (w : World) (e : TypeId) (xs : List Value) (n : Nat) (hl : xs.length = n) (hm : n ≤ maxLen) : Rd (w.alloc (.cells xs.toArray e)) 1 (some ⟨w.heap.size, 0, none⟩) n n xs :=
  rd_of_heap (heap_alloc_new w _) hl hm
theorem c_Get_is (l : List UInt8) (k : Nat) (A : Option Addr) (n c : Nat) (b : List UInt8) (w : World) (hb : Byt w A n c b) (hn : n ≤ 140737488351000) (hg : get b = (l, k)) :
    Calls Try.prog 71 #[.slice A n c] w fun e w' => ∃ A2 c2, e = .returned (.tuple #[.slice A2 l.length c2, .int .i64 (k : Int)]) ∧ Byt w' A2 l.length c2 l ∧ Below w.heap.size w w' := by
  have h := c_Get A n c b w hb hn
  rw [hg] at h
  exact h
theorem c_rGet_is (l : List UInt8) (k : Nat) (A : Option Addr) (n c : Nat) (b : List UInt8) (w : World) (hb : Byt w A n c b) (hn : n ≤ 140737488351000) (hg : get b = (l, k)) :
    Calls Try.prog 72 #[.slice A n c] w fun e w' => ∃ A2 c2, e = .returned (.tuple #[.slice A2 l.length c2, .int .i64 (k : Int)]) ∧ Byt w' A2 l.length c2 l ∧ Below w.heap.size w w' := by
  have h := c_rGet A n c b w hb hn
  rw [hg] at h
  exact h
theorem c_lives (w : World) : Calls Try.prog 60 #[] w fun e w' => e = .returned (.bool true) ∧ Below w.heap.size w w' := by
  have hrd : Byt (w.alloc (.cells #[.int .u8 1, .int .u8 2, .int .u8 3] 5)) (some ⟨w.heap.size, 0, none⟩) 3 3 [1, 2, 3] := rd_lit w 5 (bytesV [1, 2, 3]) 3 rfl (by simp [maxLen])
  have hs0 : sealed [] = [0, 0, 0, 0] := by decide +kernel
  have Hs0 := Lib.hid hs0
  have Hrd := Lib.hid hrd
  clear hs0 hrd
  go_enter Try.func60, Try.ntmps60
  go_wp2_with (first
    | (go_at_call 71
       (with_reducible refine (c_Get_is [] 8 _ 3 _ [1, 2, 3] _ Hrd.out (by omega) (get_short (by simp))).mono ?_)
       rintro e w1 ⟨A1, c1, rfl, h1, hb1⟩
       have B1 : Below w.heap.size w w1 := ((Below.refl _ _).alloc (Nat.le_refl _) _).trans (hb1.mono (size_alloc_le (Nat.le_refl _) _)))
    | (go_at_call 61
       (with_reducible refine (c_Put none 0 0 [] _ Rd.nil_ (by omega)).mono ?_)
       rintro e w2 ⟨A2, c2, rfl, h2, hb2⟩
       have B2 : Below w.heap.size w w2 := B1.trans (hb2.mono B1.size)
       rw [Hs0.out] at h2
       have hcv := run_str (P := Try.prog) w2 22 9 5 A2 4 c2 [0, 0, 0, 0] Try.underlying22 Try.underlying5 Try.underlying9 h2.rd))
  go_ret
  exact ⟨rfl, B2⟩

set_option maxRecDepth 100000 in
theorem w_SealPuts (A : Option Addr) (n c : Nat) (b : List UInt8) (x y : Nat) (w : World) (hb : Byt w A n c b) (hx : x < 4294967296) (hy : y < 18446744073709551616) :
    Calls Try.prog 12 #[.slice A n c, .int .u32 (x : Int), .int .u64 (y : Int)] w fun e w' => e = .returned (.bool true) ∧ Below w.heap.size w w' := by
  have Hb := Lib.hid hb
  by_cases hn : n ≤ 2000
  · obtain ⟨S, hS⟩ : ∃ S, S = sealed b := ⟨_, rfl⟩
    have HS := Lib.hid hS.symm
    clear hS
    have hRl := rec_length x y
    obtain ⟨R, hR⟩ : ∃ R, R = rec x y := ⟨_, rfl⟩
    rw [← hR] at hRl
    have HR := Lib.hid hR.symm
    have HRl := Lib.hid hRl
    clear hR hRl
    have heg : Try.prog.eqGuardType Try.prog.depth 98 = false := by kernel_rfl
    go_enter Try.func12, Try.ntmps12
    go_wp2_with fail
    refine wp_region_phi (by kernel_rfl) 19 none (fun _ => false) (fun i_ v wz => match i_ with
      | 0 => v = .slice A n c
      | 1 => ∃ A3 c3, v = .slice A3 (n + 4) c3 ∧ Byt wz A3 (n + 4) c3 S
      | 2 => v = .string ⟨S.toArray⟩
      | 3 => v = .slice A n c
      | 4 => ∃ A3 c3, v = .slice A3 (n + 4) c3 ∧ Byt wz A3 (n + 4) c3 S
      | 5 => v = .string ⟨S.toArray⟩
      | 6 => v = .bool true
      | 7 => v = .bool true
      | 8 => v = .int .u32 (x : Int)
      | 9 => v = .int .u64 (y : Int)
      | 10 => v = .agg (bytesV R).toArray
      | 11 => v = .int .u32 (x : Int)
      | 12 => v = .int .u64 (y : Int)
      | 13 => v = .agg (bytesV R).toArray
      | 14 => v = .bool true
      | 15 => v = .bool true
      | 16 => v = .bool true
      | 17 => v = .bool true
      | 18 => v = .bool true
      | _ => True) (by kernel_rfl) ?_ ?_ ?_
    · (repeat' (first | exact allLt_zero | refine allLt_succ ?_ ?_))
      · exact fun _ _ _ h _ => h
      · intro v w1 w2 h hg
        rw [show kindRow _ _ = none from by kernel_rfl] at hg
        obtain ⟨A3, c3, rfl, hr⟩ := h
        exact ⟨A3, c3, rfl, hr.bel (bel_grown hg)⟩
      · exact fun _ _ _ h _ => h
      · exact fun _ _ _ h _ => h
      · intro v w1 w2 h hg
        rw [show kindRow _ _ = none from by kernel_rfl] at hg
        obtain ⟨A3, c3, rfl, hr⟩ := h
        exact ⟨A3, c3, rfl, hr.bel (bel_grown hg)⟩
      · exact fun _ _ _ h _ => h
      · exact fun _ _ _ h _ => h
      · exact fun _ _ _ h _ => h
      · exact fun _ _ _ h _ => h
      · exact fun _ _ _ h _ => h
      · exact fun _ _ _ h _ => h
      · exact fun _ _ _ h _ => h
      · exact fun _ _ _ h _ => h
      · exact fun _ _ _ h _ => h
      · exact fun _ _ _ h _ => h
      · exact fun _ _ _ h _ => h
      · exact fun _ _ _ h _ => h
      · exact fun _ _ _ h _ => h
      · exact fun _ _ _ h _ => h
    · (repeat' (first | exact allLt_zero | refine allLt_succ ?_ ?_))
      · intro a w' hf he
        have k0 : a.tmps.getD 0 undef = .slice A n c := hf.var (by kernel_rfl) rfl
        refine wpOp_step rfl (fun K hK => ?_)
        go_simp
        exact hK _ _ ⟨_, rfl, rfl, World.grownBy.refl _ _⟩
      · intro a w' hf he
        have f0 : a.tmps.getD 11 undef = .slice A n c := he 0 (by kernel_rfl)
        rw [show kindRow _ _ = none from by kernel_rfl] at hf
        refine wpOp_step rfl (fun K hK => ?_)
        go_simp
        refine (c_Put _ n _ _ _ (Hb.out.bel hf.bel) (by omega)).mono ?_
        rintro e w2 ⟨A3, c3, rfl, hown, hb2⟩
        rw [HS.out] at hown
        exact hK _ _ ⟨_, rfl, ⟨A3, c3, rfl, hown.rd⟩, grown_bel hb2⟩
      · intro a w' hf he
        obtain ⟨A1, c1, hv1, hr1⟩ := he 1 (by kernel_rfl)
        have f1 : a.tmps.getD 12 undef = _ := hv1
        rw [show kindRow _ _ = none from by kernel_rfl] at hf
        have hcv := run_str (P := Try.prog) w' 22 9 5 A1 (n + 4) c1 S Try.underlying22 Try.underlying5 Try.underlying9 hr1
        refine wpOp_step rfl (fun K hK => ?_)
        go_simp
        exact hK _ _ ⟨_, rfl, rfl, World.grownBy.refl _ _⟩
      · intro a w' hf he
        have k0 : a.tmps.getD 0 undef = .slice A n c := hf.var (by kernel_rfl) rfl
        refine wpOp_step rfl (fun K hK => ?_)
        go_simp
        exact hK _ _ ⟨_, rfl, rfl, World.grownBy.refl _ _⟩
      · intro a w' hf he
        have f3 : a.tmps.getD 14 undef = .slice A n c := he 3 (by kernel_rfl)
        rw [show kindRow _ _ = none from by kernel_rfl] at hf
        refine wpOp_step rfl (fun K hK => ?_)
        go_simp
        refine (c_rPut _ n _ _ _ (Hb.out.bel hf.bel) (by omega)).mono ?_
        rintro e w2 ⟨A3, c3, rfl, hown, hb2⟩
        rw [HS.out] at hown
        exact hK _ _ ⟨_, rfl, ⟨A3, c3, rfl, hown.rd⟩, grown_bel hb2⟩
      · intro a w' hf he
        obtain ⟨A4, c4, hv4, hr4⟩ := he 4 (by kernel_rfl)
        have f4 : a.tmps.getD 15 undef = _ := hv4
        rw [show kindRow _ _ = none from by kernel_rfl] at hf
        have hcv := run_str (P := Try.prog) w' 22 9 5 A4 (n + 4) c4 S Try.underlying22 Try.underlying5 Try.underlying9 hr4
        refine wpOp_step rfl (fun K hK => ?_)
        go_simp
        exact hK _ _ ⟨_, rfl, rfl, World.grownBy.refl _ _⟩
      · intro a w' hf he
        have f2 : a.tmps.getD 13 undef = .string ⟨S.toArray⟩ := he 2 (by kernel_rfl)
        have f5 : a.tmps.getD 16 undef = .string ⟨S.toArray⟩ := he 5 (by kernel_rfl)
        refine wpOp_step rfl (fun K hK => ?_)
        go_simp
        exact hK _ _ ⟨_, rfl, rfl, World.grownBy.refl _ _⟩
      · intro a w' hf he
        have f6 : a.tmps.getD 17 undef = .bool true := he 6 (by kernel_rfl)
        refine wpOp_step rfl (fun K hK => ?_)
        go_simp
        exact hK _ _ ⟨_, rfl, rfl, World.grownBy.refl _ _⟩
      · intro a w' hf he
        have k1 : a.tmps.getD 1 undef = .int .u32 (x : Int) := hf.var (by kernel_rfl) rfl
        have f7 : a.tmps.getD 18 undef = .bool true := he 7 (by kernel_rfl)
        refine wpOp_run rfl rfl rfl f7 (fun K hK => ?_)
        go_simp
        exact hK _ _ ⟨_, rfl, rfl, World.grownBy.refl _ _⟩
      · intro a w' hf he
        have k2 : a.tmps.getD 2 undef = .int .u64 (y : Int) := hf.var (by kernel_rfl) rfl
        have f7 : a.tmps.getD 18 undef = .bool true := he 7 (by kernel_rfl)
        refine wpOp_run rfl rfl rfl f7 (fun K hK => ?_)
        go_simp
        exact hK _ _ ⟨_, rfl, rfl, World.grownBy.refl _ _⟩
      · intro a w' hf he
        have f8 : a.tmps.getD 19 undef = .int .u32 (x : Int) := he 8 (by kernel_rfl)
        have f9 : a.tmps.getD 20 undef = .int .u64 (y : Int) := he 9 (by kernel_rfl)
        have f7 : a.tmps.getD 18 undef = .bool true := he 7 (by kernel_rfl)
        rw [show kindRow _ _ = none from by kernel_rfl] at hf
        refine wpOp_run rfl rfl rfl f7 (fun K hK => ?_)
        go_simp
        refine (c_Record x y _ hx hy).mono ?_
        rintro e w2 ⟨rfl, hb2⟩
        rw [HR.out]
        exact hK _ _ ⟨_, rfl, rfl, grown_bel hb2⟩
      · intro a w' hf he
        have k1 : a.tmps.getD 1 undef = .int .u32 (x : Int) := hf.var (by kernel_rfl) rfl
        have f7 : a.tmps.getD 18 undef = .bool true := he 7 (by kernel_rfl)
        refine wpOp_run rfl rfl rfl f7 (fun K hK => ?_)
        go_simp
        exact hK _ _ ⟨_, rfl, rfl, World.grownBy.refl _ _⟩
      · intro a w' hf he
        have k2 : a.tmps.getD 2 undef = .int .u64 (y : Int) := hf.var (by kernel_rfl) rfl
        have f7 : a.tmps.getD 18 undef = .bool true := he 7 (by kernel_rfl)
        refine wpOp_run rfl rfl rfl f7 (fun K hK => ?_)
        go_simp
        exact hK _ _ ⟨_, rfl, rfl, World.grownBy.refl _ _⟩
      · intro a w' hf he
        have f11 : a.tmps.getD 22 undef = .int .u32 (x : Int) := he 11 (by kernel_rfl)
        have f12 : a.tmps.getD 23 undef = .int .u64 (y : Int) := he 12 (by kernel_rfl)
        have f7 : a.tmps.getD 18 undef = .bool true := he 7 (by kernel_rfl)
        rw [show kindRow _ _ = none from by kernel_rfl] at hf
        refine wpOp_run rfl rfl rfl f7 (fun K hK => ?_)
        go_simp
        refine (c_rRecord x y _ hx hy).mono ?_
        rintro e w2 ⟨rfl, hb2⟩
        rw [HR.out]
        exact hK _ _ ⟨_, rfl, rfl, grown_bel hb2⟩
      · intro a w' hf he
        have f10 : a.tmps.getD 21 undef = .agg (bytesV R).toArray := he 10 (by kernel_rfl)
        have f13 : a.tmps.getD 24 undef = .agg (bytesV R).toArray := he 13 (by kernel_rfl)
        have f7 : a.tmps.getD 18 undef = .bool true := he 7 (by kernel_rfl)
        rw [show kindRow _ _ = none from by kernel_rfl] at hf
        have hne := run_eql_barr (P := Try.prog) w' R R HRl.out HRl.out Try.underlying98 Try.underlying5 (by kernel_rfl)
        rw [decide_eq_true rfl] at hne
        refine wpOp_run rfl rfl rfl f7 (fun K hK => ?_)
        go_simp
        exact hK _ _ ⟨_, rfl, rfl, World.grownBy.refl _ _⟩
      · intro a w' hf he
        have f7 : a.tmps.getD 18 undef = .bool true := he 7 (by kernel_rfl)
        have f14 : a.tmps.getD 25 undef = .bool true := he 14 (by kernel_rfl)
        refine wpOp_step rfl (fun K hK => ?_)
        go_simp
        exact hK _ _ ⟨_, rfl, rfl, World.grownBy.refl _ _⟩
      · intro a w' hf he
        have f15 : a.tmps.getD 26 undef = .bool true := he 15 (by kernel_rfl)
        refine wpOp_step rfl (fun K hK => ?_)
        go_simp
        exact hK _ _ ⟨_, rfl, rfl, World.grownBy.refl _ _⟩
      · intro a w' hf he
        have f16 : a.tmps.getD 27 undef = .bool true := he 16 (by kernel_rfl)
        rw [show kindRow _ _ = none from by kernel_rfl] at hf
        refine wpOp_run rfl rfl rfl f16 (fun K hK => ?_)
        go_simp
        refine (c_lives _).mono ?_
        rintro e w2 ⟨rfl, hb2⟩
        exact hK _ _ ⟨_, rfl, rfl, grown_bel hb2⟩
      · intro a w' hf he
        have f16 : a.tmps.getD 27 undef = .bool true := he 16 (by kernel_rfl)
        have f17 : a.tmps.getD 28 undef = .bool true := he 17 (by kernel_rfl)
        refine wpOp_step rfl (fun K hK => ?_)
        go_simp
        exact hK _ _ ⟨_, rfl, rfl, World.grownBy.refl _ _⟩
    · intro a w' hf he
      obtain ⟨u11, f0⟩ : ∃ u, a.tmps.getD 11 undef = u := ⟨_, rfl⟩
      obtain ⟨u12, f1⟩ : ∃ u, a.tmps.getD 12 undef = u := ⟨_, rfl⟩
      obtain ⟨u13, f2⟩ : ∃ u, a.tmps.getD 13 undef = u := ⟨_, rfl⟩
      obtain ⟨u14, f3⟩ : ∃ u, a.tmps.getD 14 undef = u := ⟨_, rfl⟩
      obtain ⟨u15, f4⟩ : ∃ u, a.tmps.getD 15 undef = u := ⟨_, rfl⟩
      obtain ⟨u16, f5⟩ : ∃ u, a.tmps.getD 16 undef = u := ⟨_, rfl⟩
      obtain ⟨u17, f6⟩ : ∃ u, a.tmps.getD 17 undef = u := ⟨_, rfl⟩
      obtain ⟨u18, f7⟩ : ∃ u, a.tmps.getD 18 undef = u := ⟨_, rfl⟩
      obtain ⟨u19, f8⟩ : ∃ u, a.tmps.getD 19 undef = u := ⟨_, rfl⟩
      obtain ⟨u20, f9⟩ : ∃ u, a.tmps.getD 20 undef = u := ⟨_, rfl⟩
      obtain ⟨u21, f10⟩ : ∃ u, a.tmps.getD 21 undef = u := ⟨_, rfl⟩
      obtain ⟨u22, f11⟩ : ∃ u, a.tmps.getD 22 undef = u := ⟨_, rfl⟩
      obtain ⟨u23, f12⟩ : ∃ u, a.tmps.getD 23 undef = u := ⟨_, rfl⟩
      obtain ⟨u24, f13⟩ : ∃ u, a.tmps.getD 24 undef = u := ⟨_, rfl⟩
      obtain ⟨u25, f14⟩ : ∃ u, a.tmps.getD 25 undef = u := ⟨_, rfl⟩
      obtain ⟨u26, f15⟩ : ∃ u, a.tmps.getD 26 undef = u := ⟨_, rfl⟩
      obtain ⟨u27, f16⟩ : ∃ u, a.tmps.getD 27 undef = u := ⟨_, rfl⟩
      obtain ⟨u28, f17⟩ : ∃ u, a.tmps.getD 28 undef = u := ⟨_, rfl⟩
      have f18 : a.tmps.getD 29 undef = .bool true := he 18 (by decide)
      have hlit := hf.lit ((11, u11) :: (12, u12) :: (13, u13) :: (14, u14) :: (15, u15) :: (16, u16) :: (17, u17) :: (18, u18) :: (19, u19) :: (20, u20) :: (21, u21) :: (22, u22) :: (23, u23) :: (24, u24) :: (25, u25) :: (26, u26) :: (27, u27) :: (28, u28) :: (29, .bool true) :: []) (by kernel_rfl) ⟨f0, f1, f2, f3, f4, f5, f6, f7, f8, f9, f10, f11, f12, f13, f14, f15, f16, f17, f18, trivial⟩
      have hB := hf.bel
      clear he hf f0 f1 f2 f3 f4 f5 f6 f7 f8 f9 f10 f11 f12 f13 f14 f15 f16 f17 f18 
      subst hlit
      simp only [putAll_nil, putAll_cons, Act.put, List.setIfInBounds_toArray, List.set_cons_zero, List.set_cons_succ]
      simp only [List.drop_succ_cons, List.drop_zero]
      have hB0 : Below w.heap.size w w' := hB
      go_wp2_with fail
      go_ret
      exact ⟨rfl, hB0⟩
  · go_enter Try.func12, Try.ntmps12
    go_wp2_with (first
      | (go_at_call 60; (with_reducible refine (c_lives _).mono ?_); rintro e w' ⟨rfl, hb1⟩))
    go_ret
    exact ⟨rfl, hb1⟩
end Go.Proofs.Ytlfphoablloodaa.Seal
