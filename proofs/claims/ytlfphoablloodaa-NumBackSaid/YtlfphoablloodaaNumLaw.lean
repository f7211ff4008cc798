/- The laws of num, walked: for every input the law returns true and old memory is as it was. Conditions: each slice takes at most 2^47 bytes. -/
import Derived.Test.YtlfphoablloodaaNum2
import Derived.Test.YtlfphoablloodaaRegion
import Derived.Test.YtlfphoablloodaaRows
import Derived.ProofKit
import Derived.SizedLaws
namespace Go.Proofs.Ytlfphoablloodaa.Num
open Go.RowKit Tw
set_option maxHeartbeats 400000

theorem w_NumTickets (b : Nat) (n : Int) (x : Nat) (w : World) (hb : b < 4294967296) (hx : x < 18446744073709551616) :
    Calls Try.prog 4 #[.int .u32 b, .int .i64 n, .int .u64 x] w fun e w' => e = .returned (.bool true) ∧ Below w.heap.size w w' := by
  go_enter Try.func4, Try.ntmps4
  go_wp2_with (first
    | (go_at_call 25; (with_reducible refine (c_Ticket _ b n _ rfl hb).mono ?_); rintro e w' ⟨rfl, rfl⟩)
    | (go_at_call 26; (with_reducible refine (c_rTicket _ b n _ rfl hb).mono ?_); rintro e w' ⟨rfl, rfl⟩)
    | (go_at_call 27; (with_reducible refine (c_Boot n _).mono ?_); rintro e w' ⟨rfl, rfl⟩)
    | (go_at_call 28; (with_reducible refine (c_rBoot n _).mono ?_); rintro e w' ⟨rfl, rfl⟩)
    | (go_at_call 29; (with_reducible refine (c_Small x _ hx).mono ?_); rintro e w' ⟨rfl, rfl⟩)
    | (go_at_call 30; (with_reducible refine (c_rSmall x _ hx).mono ?_); rintro e w' ⟨rfl, rfl⟩)
    | (go_at_call 18; (with_reducible refine (c_lives _).mono ?_); rintro e w' ⟨rfl, hb1⟩))
  go_ret
  exact ⟨rfl, hb1⟩

theorem w_NumGets (A : Option Addr) (n c : Nat) (b : List UInt8) (w : World) (hb : Byt w A n c b) :
    Calls Try.prog 5 #[.slice A n c] w fun e w' => e = .returned (.bool true) ∧ Below w.heap.size w w' := by
  have h2 := gv_lt 2 b
  have h4 := gv_lt 4 b
  have h8 := gv_lt 8 b
  go_enter Try.func5, Try.ntmps5
  go_wp2_with (first
    | (go_at_call 31; (with_reducible refine (c_Get16 _ _ _ b _ hb).mono ?_); rintro e w' ⟨rfl, rfl⟩)
    | (go_at_call 32; (with_reducible refine (c_Get32 _ _ _ b _ hb).mono ?_); rintro e w' ⟨rfl, rfl⟩)
    | (go_at_call 33; (with_reducible refine (c_Get64 _ _ _ b _ hb).mono ?_); rintro e w' ⟨rfl, rfl⟩)
    | (go_at_call 34; (with_reducible refine (c_rGetAll _ _ _ b 2 2 _ rfl (by omega) hb).mono ?_); rintro e w' ⟨rfl, rfl⟩)
    | (go_at_call 34; (with_reducible refine (c_rGetAll _ _ _ b 4 4 _ rfl (by omega) hb).mono ?_); rintro e w' ⟨rfl, rfl⟩)
    | (go_at_call 34; (with_reducible refine (c_rGetAll _ _ _ b 8 8 _ rfl (by omega) hb).mono ?_); rintro e w' ⟨rfl, rfl⟩)
    | (go_at_call 18; (with_reducible refine (c_lives _).mono ?_); rintro e w' ⟨rfl, hb1⟩))
  go_ret
  exact ⟨rfl, hb1⟩

theorem w_NumPuts (A : Option Addr) (n c : Nat) (b : List UInt8) (x : Int) (y : Nat) (w : World) (hb : Byt w A n c b) (hy : y < 18446744073709551616) :
    Calls Try.prog 3 #[.slice A n c, .int .i64 x, .int .u64 y] w fun e w' => e = .returned (.bool true) ∧ Below w.heap.size w w' := by
  by_cases hn : n ≤ 1000
  · go_enter Try.func3, Try.ntmps3
    go_wp2_with (first
      | (at_builtin
         refine wpL_append _ rfl (.tmp 13) (.tmp 14) _ rfl w w.heap.size (bel_alloc (Below.refl _ _) (Nat.le_refl _) _) (size_alloc_le (Nat.le_refl _) _) 5 _ 1 1 Try.underlying22 info_u8 rfl (by omega) _ _ _ [] rfl (own_empty _ _ _ _ (Nat.le_refl _)) _ _ _ _ rfl (hb.alloc _) bytesV_one n (bytesV b) (by omega) rfl (by unfold maxLen; omega) (by omega) ?_
         intro A1 c1 w1 hown1 hb1 hg1 ho1))
    have hr0 := hb.bel hb1
    have hr1 := hown1.rd
    clear hg1 ho1
    obtain ⟨L2, hL2⟩ : ∃ L, L = b ++ be 2 (x % 65536).toNat := ⟨_, rfl⟩
    obtain ⟨L4, hL4⟩ : ∃ L, L = b ++ be 4 (y % 4294967296) := ⟨_, rfl⟩
    obtain ⟨L8, hL8⟩ : ∃ L, L = b ++ be 8 y := ⟨_, rfl⟩
    have HL2 := Lib.hid hL2
    have HL4 := Lib.hid hL4
    have HL8 := Lib.hid hL8
    clear hL2 hL4 hL8
    refine wp_region_phi (by kernel_rfl) 33 none (fun i v w => match i with
      | 0 => v = .slice A1 n c1
      | 1 => v = .int .i64 x
      | 2 => ∃ A' c', v = .slice A' (n + 2) c' ∧ Byt w A' (n + 2) c' L2
      | 3 => v = .string ⟨L2.toArray⟩
      | 4 => v = .slice A n c
      | 5 => v = .int .i64 x
      | 6 => ∃ A' c', v = .slice A' (n + 2) c' ∧ Byt w A' (n + 2) c' L2
      | 7 => v = .string ⟨L2.toArray⟩
      | 8 => v = .bool true
      | 9 => v = .bool true
      | 10 => v = .slice A1 n c1
      | 11 => v = .int .u64 y
      | 12 => v = .int .u32 ((y : Int) % 4294967296)
      | 13 => ∃ A' c', v = .slice A' (n + 4) c' ∧ Byt w A' (n + 4) c' L4
      | 14 => v = .string ⟨L4.toArray⟩
      | 15 => v = .slice A n c
      | 16 => v = .int .u64 y
      | 17 => v = .int .u32 ((y : Int) % 4294967296)
      | 18 => ∃ A' c', v = .slice A' (n + 4) c' ∧ Byt w A' (n + 4) c' L4
      | 19 => v = .string ⟨L4.toArray⟩
      | 20 => v = .bool true
      | 21 => v = .bool true
      | 22 => v = .bool true
      | 23 => v = .slice A1 n c1
      | 24 => v = .int .u64 y
      | 25 => ∃ A' c', v = .slice A' (n + 8) c' ∧ Byt w A' (n + 8) c' L8
      | 26 => v = .string ⟨L8.toArray⟩
      | 27 => v = .slice A n c
      | 28 => v = .int .u64 y
      | 29 => ∃ A' c', v = .slice A' (n + 8) c' ∧ Byt w A' (n + 8) c' L8
      | 30 => v = .string ⟨L8.toArray⟩
      | 31 => v = .bool true
      | 32 => v = .bool true
      | _ => True) (by kernel_rfl) ?_ ?_ ?_
    · (repeat' (first | exact allLt_zero | refine allLt_succ ?_ ?_))
      · exact fun _ _ _ h _ => h
      · exact fun _ _ _ h _ => h
      · intro v w1 w2 h hg
        obtain ⟨A', c', rfl, hr⟩ := h
        exact ⟨A', c', rfl, hr.bel (bel_grown hg)⟩
      · exact fun _ _ _ h _ => h
      · exact fun _ _ _ h _ => h
      · exact fun _ _ _ h _ => h
      · intro v w1 w2 h hg
        obtain ⟨A', c', rfl, hr⟩ := h
        exact ⟨A', c', rfl, hr.bel (bel_grown hg)⟩
      · exact fun _ _ _ h _ => h
      · exact fun _ _ _ h _ => h
      · exact fun _ _ _ h _ => h
      · exact fun _ _ _ h _ => h
      · exact fun _ _ _ h _ => h
      · exact fun _ _ _ h _ => h
      · intro v w1 w2 h hg
        obtain ⟨A', c', rfl, hr⟩ := h
        exact ⟨A', c', rfl, hr.bel (bel_grown hg)⟩
      · exact fun _ _ _ h _ => h
      · exact fun _ _ _ h _ => h
      · exact fun _ _ _ h _ => h
      · exact fun _ _ _ h _ => h
      · intro v w1 w2 h hg
        obtain ⟨A', c', rfl, hr⟩ := h
        exact ⟨A', c', rfl, hr.bel (bel_grown hg)⟩
      · exact fun _ _ _ h _ => h
      · exact fun _ _ _ h _ => h
      · exact fun _ _ _ h _ => h
      · exact fun _ _ _ h _ => h
      · exact fun _ _ _ h _ => h
      · exact fun _ _ _ h _ => h
      · intro v w1 w2 h hg
        obtain ⟨A', c', rfl, hr⟩ := h
        exact ⟨A', c', rfl, hr.bel (bel_grown hg)⟩
      · exact fun _ _ _ h _ => h
      · exact fun _ _ _ h _ => h
      · exact fun _ _ _ h _ => h
      · intro v w1 w2 h hg
        obtain ⟨A', c', rfl, hr⟩ := h
        exact ⟨A', c', rfl, hr.bel (bel_grown hg)⟩
      · exact fun _ _ _ h _ => h
      · exact fun _ _ _ h _ => h
      · exact fun _ _ _ h _ => h
    · (repeat' (first | exact allLt_zero | refine allLt_succ ?_ ?_))
      · intro a w' hf he
        have k7 : a.tmps.getD 7 undef = .slice A1 n c1 := hf.var (by kernel_rfl) rfl
        refine wpOp_step rfl (fun K hK => ?_)
        go_simp
        exact hK _ _ ⟨_, rfl, rfl, World.grownBy.refl _ _⟩
      · intro a w' hf he
        have k1 : a.tmps.getD 1 undef = .int .i64 x := hf.var (by kernel_rfl) rfl
        refine wpOp_step rfl (fun K hK => ?_)
        go_simp
        exact hK _ _ ⟨_, rfl, rfl, World.grownBy.refl _ _⟩
      · intro a w' hf he
        have f0 : a.tmps.getD 16 undef = .slice A1 n c1 := he 0 (by kernel_rfl)
        have f1 : a.tmps.getD 17 undef = .int .i64 x := he 1 (by kernel_rfl)
        refine wpOp_step rfl (fun K hK => ?_)
        go_simp
        refine (c_Put16 _ _ _ b x (n + 2) _ (hr1.bel hf.bel) rfl (by omega)).mono ?_
        rintro e w2 ⟨A', c', rfl, hown, hb2⟩
        rw [← HL2.out] at hown
        exact hK _ _ ⟨_, rfl, ⟨A', c', rfl, hown.rd⟩, grown_bel hb2⟩
      · intro a w' hf he
        obtain ⟨A2, c2, hv2, hb2⟩ := he 2 (by kernel_rfl)
        have f2 : a.tmps.getD 18 undef = _ := hv2
        have hcv := run_str (P := Try.prog) w' 22 9 5 A2 (n + 2) c2 L2 Try.underlying22 Try.underlying5 Try.underlying9 hb2
        refine wpOp_step rfl (fun K hK => ?_)
        go_simp
        exact hK _ _ ⟨_, rfl, rfl, World.grownBy.refl _ _⟩
      · intro a w' hf he
        have k0 : a.tmps.getD 0 undef = .slice A n c := hf.var (by kernel_rfl) rfl
        refine wpOp_step rfl (fun K hK => ?_)
        go_simp
        exact hK _ _ ⟨_, rfl, rfl, World.grownBy.refl _ _⟩
      · intro a w' hf he
        have k1 : a.tmps.getD 1 undef = .int .i64 x := hf.var (by kernel_rfl) rfl
        refine wpOp_step rfl (fun K hK => ?_)
        go_simp
        exact hK _ _ ⟨_, rfl, rfl, World.grownBy.refl _ _⟩
      · intro a w' hf he
        have f4 : a.tmps.getD 20 undef = .slice A n c := he 4 (by kernel_rfl)
        have f5 : a.tmps.getD 21 undef = .int .i64 x := he 5 (by kernel_rfl)
        refine wpOp_step rfl (fun K hK => ?_)
        go_simp
        refine (c_rPut16 _ _ _ b x (n + 2) _ (hr0.bel hf.bel) rfl (by omega)).mono ?_
        rintro e w2 ⟨A', c', rfl, hown, hb2⟩
        rw [← HL2.out] at hown
        exact hK _ _ ⟨_, rfl, ⟨A', c', rfl, hown.rd⟩, grown_bel hb2⟩
      · intro a w' hf he
        obtain ⟨A6, c6, hv6, hb6⟩ := he 6 (by kernel_rfl)
        have f6 : a.tmps.getD 22 undef = _ := hv6
        have hcv := run_str (P := Try.prog) w' 22 9 5 A6 (n + 2) c6 L2 Try.underlying22 Try.underlying5 Try.underlying9 hb6
        refine wpOp_step rfl (fun K hK => ?_)
        go_simp
        exact hK _ _ ⟨_, rfl, rfl, World.grownBy.refl _ _⟩
      · intro a w' hf he
        have f3 : a.tmps.getD 19 undef = .string ⟨L2.toArray⟩ := he 3 (by kernel_rfl)
        have f7 : a.tmps.getD 23 undef = .string ⟨L2.toArray⟩ := he 7 (by kernel_rfl)
        refine wpOp_step rfl (fun K hK => ?_)
        go_simp
        exact hK _ _ ⟨_, rfl, rfl, World.grownBy.refl _ _⟩
      · intro a w' hf he
        have f8 : a.tmps.getD 24 undef = .bool true := he 8 (by kernel_rfl)
        refine wpOp_step rfl (fun K hK => ?_)
        go_simp
        exact hK _ _ ⟨_, rfl, rfl, World.grownBy.refl _ _⟩
      · intro a w' hf he
        have k7 : a.tmps.getD 7 undef = .slice A1 n c1 := hf.var (by kernel_rfl) rfl
        have f9 : a.tmps.getD 25 undef = .bool true := he 9 (by kernel_rfl)
        refine wpOp_run rfl rfl rfl f9 (fun K hK => ?_)
        go_simp
        exact hK _ _ ⟨_, rfl, rfl, World.grownBy.refl _ _⟩
      · intro a w' hf he
        have k2 : a.tmps.getD 2 undef = .int .u64 y := hf.var (by kernel_rfl) rfl
        have f9 : a.tmps.getD 25 undef = .bool true := he 9 (by kernel_rfl)
        refine wpOp_run rfl rfl rfl f9 (fun K hK => ?_)
        go_simp
        exact hK _ _ ⟨_, rfl, rfl, World.grownBy.refl _ _⟩
      · intro a w' hf he
        have f11 : a.tmps.getD 27 undef = .int .u64 y := he 11 (by kernel_rfl)
        have f9 : a.tmps.getD 25 undef = .bool true := he 9 (by kernel_rfl)
        refine wpOp_run rfl rfl rfl f9 (fun K hK => ?_)
        go_simp
        exact hK _ _ ⟨_, rfl, rfl, World.grownBy.refl _ _⟩
      · intro a w' hf he
        have f10 : a.tmps.getD 26 undef = .slice A1 n c1 := he 10 (by kernel_rfl)
        have f12 : a.tmps.getD 28 undef = .int .u32 ((y : Int) % 4294967296) := he 12 (by kernel_rfl)
        have f9 : a.tmps.getD 25 undef = .bool true := he 9 (by kernel_rfl)
        refine wpOp_run rfl rfl rfl f9 (fun K hK => ?_)
        go_simp
        refine (c_Put32 _ _ _ b _ (y % 4294967296) (n + 4) _ (hr1.bel hf.bel) (by omega) (by omega) rfl (by omega)).mono ?_
        rintro e w2 ⟨A', c', rfl, hown, hb2⟩
        rw [← HL4.out] at hown
        exact hK _ _ ⟨_, rfl, ⟨A', c', rfl, hown.rd⟩, grown_bel hb2⟩
      · intro a w' hf he
        obtain ⟨A13, c13, hv13, hb13⟩ := he 13 (by kernel_rfl)
        have f13 : a.tmps.getD 29 undef = _ := hv13
        have f9 : a.tmps.getD 25 undef = .bool true := he 9 (by kernel_rfl)
        have hcv := run_str (P := Try.prog) w' 22 9 5 A13 (n + 4) c13 L4 Try.underlying22 Try.underlying5 Try.underlying9 hb13
        refine wpOp_run rfl rfl rfl f9 (fun K hK => ?_)
        go_simp
        exact hK _ _ ⟨_, rfl, rfl, World.grownBy.refl _ _⟩
      · intro a w' hf he
        have k0 : a.tmps.getD 0 undef = .slice A n c := hf.var (by kernel_rfl) rfl
        have f9 : a.tmps.getD 25 undef = .bool true := he 9 (by kernel_rfl)
        refine wpOp_run rfl rfl rfl f9 (fun K hK => ?_)
        go_simp
        exact hK _ _ ⟨_, rfl, rfl, World.grownBy.refl _ _⟩
      · intro a w' hf he
        have k2 : a.tmps.getD 2 undef = .int .u64 y := hf.var (by kernel_rfl) rfl
        have f9 : a.tmps.getD 25 undef = .bool true := he 9 (by kernel_rfl)
        refine wpOp_run rfl rfl rfl f9 (fun K hK => ?_)
        go_simp
        exact hK _ _ ⟨_, rfl, rfl, World.grownBy.refl _ _⟩
      · intro a w' hf he
        have f16 : a.tmps.getD 32 undef = .int .u64 y := he 16 (by kernel_rfl)
        have f9 : a.tmps.getD 25 undef = .bool true := he 9 (by kernel_rfl)
        refine wpOp_run rfl rfl rfl f9 (fun K hK => ?_)
        go_simp
        exact hK _ _ ⟨_, rfl, rfl, World.grownBy.refl _ _⟩
      · intro a w' hf he
        have f15 : a.tmps.getD 31 undef = .slice A n c := he 15 (by kernel_rfl)
        have f17 : a.tmps.getD 33 undef = .int .u32 ((y : Int) % 4294967296) := he 17 (by kernel_rfl)
        have f9 : a.tmps.getD 25 undef = .bool true := he 9 (by kernel_rfl)
        refine wpOp_run rfl rfl rfl f9 (fun K hK => ?_)
        go_simp
        refine (c_rPut32 _ _ _ b _ (y % 4294967296) (n + 4) _ (hr0.bel hf.bel) (by omega) (by omega) rfl (by omega)).mono ?_
        rintro e w2 ⟨A', c', rfl, hown, hb2⟩
        rw [← HL4.out] at hown
        exact hK _ _ ⟨_, rfl, ⟨A', c', rfl, hown.rd⟩, grown_bel hb2⟩
      · intro a w' hf he
        obtain ⟨A18, c18, hv18, hb18⟩ := he 18 (by kernel_rfl)
        have f18 : a.tmps.getD 34 undef = _ := hv18
        have f9 : a.tmps.getD 25 undef = .bool true := he 9 (by kernel_rfl)
        have hcv := run_str (P := Try.prog) w' 22 9 5 A18 (n + 4) c18 L4 Try.underlying22 Try.underlying5 Try.underlying9 hb18
        refine wpOp_run rfl rfl rfl f9 (fun K hK => ?_)
        go_simp
        exact hK _ _ ⟨_, rfl, rfl, World.grownBy.refl _ _⟩
      · intro a w' hf he
        have f14 : a.tmps.getD 30 undef = .string ⟨L4.toArray⟩ := he 14 (by kernel_rfl)
        have f19 : a.tmps.getD 35 undef = .string ⟨L4.toArray⟩ := he 19 (by kernel_rfl)
        have f9 : a.tmps.getD 25 undef = .bool true := he 9 (by kernel_rfl)
        refine wpOp_run rfl rfl rfl f9 (fun K hK => ?_)
        go_simp
        exact hK _ _ ⟨_, rfl, rfl, World.grownBy.refl _ _⟩
      · intro a w' hf he
        have f9 : a.tmps.getD 25 undef = .bool true := he 9 (by kernel_rfl)
        have f20 : a.tmps.getD 36 undef = .bool true := he 20 (by kernel_rfl)
        refine wpOp_step rfl (fun K hK => ?_)
        go_simp
        exact hK _ _ ⟨_, rfl, rfl, World.grownBy.refl _ _⟩
      · intro a w' hf he
        have f21 : a.tmps.getD 37 undef = .bool true := he 21 (by kernel_rfl)
        refine wpOp_step rfl (fun K hK => ?_)
        go_simp
        exact hK _ _ ⟨_, rfl, rfl, World.grownBy.refl _ _⟩
      · intro a w' hf he
        have k7 : a.tmps.getD 7 undef = .slice A1 n c1 := hf.var (by kernel_rfl) rfl
        have f22 : a.tmps.getD 38 undef = .bool true := he 22 (by kernel_rfl)
        refine wpOp_run rfl rfl rfl f22 (fun K hK => ?_)
        go_simp
        exact hK _ _ ⟨_, rfl, rfl, World.grownBy.refl _ _⟩
      · intro a w' hf he
        have k2 : a.tmps.getD 2 undef = .int .u64 y := hf.var (by kernel_rfl) rfl
        have f22 : a.tmps.getD 38 undef = .bool true := he 22 (by kernel_rfl)
        refine wpOp_run rfl rfl rfl f22 (fun K hK => ?_)
        go_simp
        exact hK _ _ ⟨_, rfl, rfl, World.grownBy.refl _ _⟩
      · intro a w' hf he
        have f23 : a.tmps.getD 39 undef = .slice A1 n c1 := he 23 (by kernel_rfl)
        have f24 : a.tmps.getD 40 undef = .int .u64 y := he 24 (by kernel_rfl)
        have f22 : a.tmps.getD 38 undef = .bool true := he 22 (by kernel_rfl)
        refine wpOp_run rfl rfl rfl f22 (fun K hK => ?_)
        go_simp
        refine (c_Put64 _ _ _ b _ y (n + 8) _ (hr1.bel hf.bel) rfl hy rfl (by omega)).mono ?_
        rintro e w2 ⟨A', c', rfl, hown, hb2⟩
        rw [← HL8.out] at hown
        exact hK _ _ ⟨_, rfl, ⟨A', c', rfl, hown.rd⟩, grown_bel hb2⟩
      · intro a w' hf he
        obtain ⟨A25, c25, hv25, hb25⟩ := he 25 (by kernel_rfl)
        have f25 : a.tmps.getD 41 undef = _ := hv25
        have f22 : a.tmps.getD 38 undef = .bool true := he 22 (by kernel_rfl)
        have hcv := run_str (P := Try.prog) w' 22 9 5 A25 (n + 8) c25 L8 Try.underlying22 Try.underlying5 Try.underlying9 hb25
        refine wpOp_run rfl rfl rfl f22 (fun K hK => ?_)
        go_simp
        exact hK _ _ ⟨_, rfl, rfl, World.grownBy.refl _ _⟩
      · intro a w' hf he
        have k0 : a.tmps.getD 0 undef = .slice A n c := hf.var (by kernel_rfl) rfl
        have f22 : a.tmps.getD 38 undef = .bool true := he 22 (by kernel_rfl)
        refine wpOp_run rfl rfl rfl f22 (fun K hK => ?_)
        go_simp
        exact hK _ _ ⟨_, rfl, rfl, World.grownBy.refl _ _⟩
      · intro a w' hf he
        have k2 : a.tmps.getD 2 undef = .int .u64 y := hf.var (by kernel_rfl) rfl
        have f22 : a.tmps.getD 38 undef = .bool true := he 22 (by kernel_rfl)
        refine wpOp_run rfl rfl rfl f22 (fun K hK => ?_)
        go_simp
        exact hK _ _ ⟨_, rfl, rfl, World.grownBy.refl _ _⟩
      · intro a w' hf he
        have f27 : a.tmps.getD 43 undef = .slice A n c := he 27 (by kernel_rfl)
        have f28 : a.tmps.getD 44 undef = .int .u64 y := he 28 (by kernel_rfl)
        have f22 : a.tmps.getD 38 undef = .bool true := he 22 (by kernel_rfl)
        refine wpOp_run rfl rfl rfl f22 (fun K hK => ?_)
        go_simp
        refine (c_rPut64 _ _ _ b _ y (n + 8) _ (hr0.bel hf.bel) rfl hy rfl (by omega)).mono ?_
        rintro e w2 ⟨A', c', rfl, hown, hb2⟩
        rw [← HL8.out] at hown
        exact hK _ _ ⟨_, rfl, ⟨A', c', rfl, hown.rd⟩, grown_bel hb2⟩
      · intro a w' hf he
        obtain ⟨A29, c29, hv29, hb29⟩ := he 29 (by kernel_rfl)
        have f29 : a.tmps.getD 45 undef = _ := hv29
        have f22 : a.tmps.getD 38 undef = .bool true := he 22 (by kernel_rfl)
        have hcv := run_str (P := Try.prog) w' 22 9 5 A29 (n + 8) c29 L8 Try.underlying22 Try.underlying5 Try.underlying9 hb29
        refine wpOp_run rfl rfl rfl f22 (fun K hK => ?_)
        go_simp
        exact hK _ _ ⟨_, rfl, rfl, World.grownBy.refl _ _⟩
      · intro a w' hf he
        have f26 : a.tmps.getD 42 undef = .string ⟨L8.toArray⟩ := he 26 (by kernel_rfl)
        have f30 : a.tmps.getD 46 undef = .string ⟨L8.toArray⟩ := he 30 (by kernel_rfl)
        have f22 : a.tmps.getD 38 undef = .bool true := he 22 (by kernel_rfl)
        refine wpOp_run rfl rfl rfl f22 (fun K hK => ?_)
        go_simp
        exact hK _ _ ⟨_, rfl, rfl, World.grownBy.refl _ _⟩
      · intro a w' hf he
        have f22 : a.tmps.getD 38 undef = .bool true := he 22 (by kernel_rfl)
        have f31 : a.tmps.getD 47 undef = .bool true := he 31 (by kernel_rfl)
        refine wpOp_step rfl (fun K hK => ?_)
        go_simp
        exact hK _ _ ⟨_, rfl, rfl, World.grownBy.refl _ _⟩
    · intro a w' hf he
      obtain ⟨u16, f0⟩ : ∃ u, a.tmps.getD 16 undef = u := ⟨_, rfl⟩
      obtain ⟨u17, f1⟩ : ∃ u, a.tmps.getD 17 undef = u := ⟨_, rfl⟩
      obtain ⟨u18, f2⟩ : ∃ u, a.tmps.getD 18 undef = u := ⟨_, rfl⟩
      obtain ⟨u19, f3⟩ : ∃ u, a.tmps.getD 19 undef = u := ⟨_, rfl⟩
      obtain ⟨u20, f4⟩ : ∃ u, a.tmps.getD 20 undef = u := ⟨_, rfl⟩
      obtain ⟨u21, f5⟩ : ∃ u, a.tmps.getD 21 undef = u := ⟨_, rfl⟩
      obtain ⟨u22, f6⟩ : ∃ u, a.tmps.getD 22 undef = u := ⟨_, rfl⟩
      obtain ⟨u23, f7⟩ : ∃ u, a.tmps.getD 23 undef = u := ⟨_, rfl⟩
      obtain ⟨u24, f8⟩ : ∃ u, a.tmps.getD 24 undef = u := ⟨_, rfl⟩
      obtain ⟨u25, f9⟩ : ∃ u, a.tmps.getD 25 undef = u := ⟨_, rfl⟩
      obtain ⟨u26, f10⟩ : ∃ u, a.tmps.getD 26 undef = u := ⟨_, rfl⟩
      obtain ⟨u27, f11⟩ : ∃ u, a.tmps.getD 27 undef = u := ⟨_, rfl⟩
      obtain ⟨u28, f12⟩ : ∃ u, a.tmps.getD 28 undef = u := ⟨_, rfl⟩
      obtain ⟨u29, f13⟩ : ∃ u, a.tmps.getD 29 undef = u := ⟨_, rfl⟩
      obtain ⟨u30, f14⟩ : ∃ u, a.tmps.getD 30 undef = u := ⟨_, rfl⟩
      obtain ⟨u31, f15⟩ : ∃ u, a.tmps.getD 31 undef = u := ⟨_, rfl⟩
      obtain ⟨u32, f16⟩ : ∃ u, a.tmps.getD 32 undef = u := ⟨_, rfl⟩
      obtain ⟨u33, f17⟩ : ∃ u, a.tmps.getD 33 undef = u := ⟨_, rfl⟩
      obtain ⟨u34, f18⟩ : ∃ u, a.tmps.getD 34 undef = u := ⟨_, rfl⟩
      obtain ⟨u35, f19⟩ : ∃ u, a.tmps.getD 35 undef = u := ⟨_, rfl⟩
      obtain ⟨u36, f20⟩ : ∃ u, a.tmps.getD 36 undef = u := ⟨_, rfl⟩
      obtain ⟨u37, f21⟩ : ∃ u, a.tmps.getD 37 undef = u := ⟨_, rfl⟩
      obtain ⟨u38, f22⟩ : ∃ u, a.tmps.getD 38 undef = u := ⟨_, rfl⟩
      obtain ⟨u39, f23⟩ : ∃ u, a.tmps.getD 39 undef = u := ⟨_, rfl⟩
      obtain ⟨u40, f24⟩ : ∃ u, a.tmps.getD 40 undef = u := ⟨_, rfl⟩
      obtain ⟨u41, f25⟩ : ∃ u, a.tmps.getD 41 undef = u := ⟨_, rfl⟩
      obtain ⟨u42, f26⟩ : ∃ u, a.tmps.getD 42 undef = u := ⟨_, rfl⟩
      obtain ⟨u43, f27⟩ : ∃ u, a.tmps.getD 43 undef = u := ⟨_, rfl⟩
      obtain ⟨u44, f28⟩ : ∃ u, a.tmps.getD 44 undef = u := ⟨_, rfl⟩
      obtain ⟨u45, f29⟩ : ∃ u, a.tmps.getD 45 undef = u := ⟨_, rfl⟩
      obtain ⟨u46, f30⟩ : ∃ u, a.tmps.getD 46 undef = u := ⟨_, rfl⟩
      obtain ⟨u47, f31⟩ : ∃ u, a.tmps.getD 47 undef = u := ⟨_, rfl⟩
      have f32 : a.tmps.getD 48 undef = .bool true := he 32 (by decide)
      have hlit := hf.lit ((16, u16) :: (17, u17) :: (18, u18) :: (19, u19) :: (20, u20) :: (21, u21) :: (22, u22) :: (23, u23) :: (24, u24) :: (25, u25) :: (26, u26) :: (27, u27) :: (28, u28) :: (29, u29) :: (30, u30) :: (31, u31) :: (32, u32) :: (33, u33) :: (34, u34) :: (35, u35) :: (36, u36) :: (37, u37) :: (38, u38) :: (39, u39) :: (40, u40) :: (41, u41) :: (42, u42) :: (43, u43) :: (44, u44) :: (45, u45) :: (46, u46) :: (47, u47) :: (48, .bool true) :: []) (by kernel_rfl) ⟨f0, f1, f2, f3, f4, f5, f6, f7, f8, f9, f10, f11, f12, f13, f14, f15, f16, f17, f18, f19, f20, f21, f22, f23, f24, f25, f26, f27, f28, f29, f30, f31, f32, trivial⟩
      have hB := hf.bel
      clear he hf f0 f1 f2 f3 f4 f5 f6 f7 f8 f9 f10 f11 f12 f13 f14 f15 f16 f17 f18 f19 f20 f21 f22 f23 f24 f25 f26 f27 f28 f29 f30 f31 f32 
      subst hlit
      simp only [putAll_nil, putAll_cons, Act.put, List.setIfInBounds_toArray, List.set_cons_zero, List.set_cons_succ]
      simp only [List.drop_succ_cons, List.drop_zero]
      have hb2 : Below w.heap.size w w' := hb1.trans (hB.mono hb1.size)
      have hcv1 := run_str (P := Try.prog) w' 22 9 5 A1 n c1 b Try.underlying22 Try.underlying5 Try.underlying9 (hr1.bel hB)
      have hcv2 := run_str (P := Try.prog) w' 22 9 5 A n c b Try.underlying22 Try.underlying5 Try.underlying9 (hr0.bel hB)
      go_wp2_with (first
        | (go_at_call 18; (with_reducible refine (c_lives _).mono ?_); rintro e w3 ⟨rfl, hb3⟩))
      go_ret
      exact ⟨rfl, hb2.trans (hb3.mono hb2.size)⟩
  · go_enter Try.func3, Try.ntmps3
    go_wp2_with (first
      | (go_at_call 18; (with_reducible refine (c_lives _).mono ?_); rintro e w' ⟨rfl, hb1⟩))
    go_ret
    exact ⟨rfl, hb1⟩

theorem val_be (k n : Nat) : ∀ a, (be k n).foldl (fun n (c : UInt8) => n * 256 + c.toNat) a = a * 256 ^ k + n % 256 ^ k := by
  induction k with
  | zero => intro a; simp [be, Nat.mod_one]
  | succ k ih =>
    intro a
    rw [be, List.foldl_cons, ih]
    have h1 : (UInt8.ofNat (n / 256 ^ k)).toNat = n / 256 ^ k % 256 := by simp [UInt8.toNat_ofNat']
    rw [h1]
    have h2 : n % 256 ^ (k + 1) = n / 256 ^ k % 256 * 256 ^ k + n % 256 ^ k := by
      rw [Nat.pow_succ, Nat.mod_mul, Nat.mul_comm (256 ^ k), Nat.add_comm]
    rw [h2, Nat.pow_succ]
    rw [Nat.add_mul, Nat.mul_assoc, Nat.mul_comm 256, Nat.add_assoc]
theorem gv_be8 (y : Nat) (hy : y < 18446744073709551616) : gv 8 (be 8 y) = y := by
  rw [gv_yes (by rw [be_length]; omega), List.take_of_length_le (by rw [be_length]; omega)]
  unfold val
  rw [val_be]
  simp
  omega
theorem gok_be8 (y : Nat) : gok 8 (be 8 y) = true := gok_yes (by rw [be_length]; omega)
theorem boot_tk {b : Nat} {n : Int} (hb : b < 4294967296) (h : tkOk n = true) : bootOf (tk b n) = b := by
  unfold bootOf tk
  rw [if_pos h]
  simp [tkOk] at h
  rw [if_pos (by omega)]
  omega
theorem cnt_tk {b : Nat} {n : Int} (hb : b < 4294967296) (h : tkOk n = true) : cntOf (tk b n) = n := by
  unfold cntOf tk
  rw [if_pos h]
  simp [tkOk] at h
  rw [if_pos (by omega)]
  omega
theorem tk_later {b : Nat} {n k : Int} (h : tkOk n = true) (hk : tkOk k = true) : tk b n < tk (b + 1) k := by
  unfold tk
  rw [if_pos h, if_pos hk]
  simp [tkOk] at h hk
  omega

theorem bel_box {w w2 : World} {o : Obj} {m : Nat} (h : Below ((w.alloc o).drewN m).heap.size ((w.alloc o).drewN m) w2) : Below w.heap.size w w2 := by
  have h1 : Below w.heap.size w ((w.alloc o).drewN m) := (bel_alloc (Below.refl _ _) (Nat.le_refl _) o).trans ⟨rfl, rfl, rfl, Nat.le_refl _, fun _ _ => rfl⟩
  exact h1.trans (h.mono (by simp))

theorem w_NumBack (y : Nat) (bt : Nat) (n k : Int) (w : World) (hy : y < 18446744073709551616) (hb : bt < 4294967296) :
    Calls Try.prog 7 #[.int .u64 y, .agg #[.int .u32 bt, .int .i64 n, .int .i64 k]] w fun e w' => e = .returned (.bool true) ∧ Below w.heap.size w w' := by
  cases hok : tkOk n with
  | false =>
    go_enter Try.func7, Try.ntmps7
    go_wp2_with fail
    go_quiet (fail)
    go_wp2_with (first
      | (go_at_call 25; (with_reducible refine (c_Ticket _ bt n _ rfl hb).mono ?_); rintro e w' ⟨rfl, rfl⟩)
      | (go_at_call 25; (with_reducible refine (c_Ticket _ (bt + 1) k _ (by omega) (by omega)).mono ?_); rintro e w' ⟨rfl, rfl⟩)
      | (go_at_call 27; (with_reducible refine (c_Boot (tk bt n) _).mono ?_); rintro e w' ⟨rfl, rfl⟩)
      | (go_at_call 23; (with_reducible refine (c_Put64 none 0 0 [] _ y 8 _ Rd.nil_ rfl hy rfl (by omega)).mono ?_); rintro e w2 ⟨A2, c2, rfl, hown, hb2⟩; rw [List.nil_append] at hown)
      | (go_at_call 33; (with_reducible refine (c_Get64 _ _ _ (be 8 y) _ hown.rd).mono ?_); rintro e w' ⟨rfl, rfl⟩; rw [gv_be8 y hy, gok_be8])
      | (go_at_call 18; (with_reducible refine (c_lives _).mono ?_); rintro e w3 ⟨rfl, hb3⟩))
    go_ret
    exact ⟨rfl, bel_box hb3⟩
  | true =>
    have e1 := boot_tk hb hok
    have e2 := cnt_tk hb hok
    by_cases hlast : bt = 4294967295
    · have hl2 : ((bt : Int) == 4294967295) = true := by simp; omega
      clear hlast
      go_enter Try.func7, Try.ntmps7
      go_wp2_with fail
      go_quiet (fail)
      go_wp2_with (first
        | (go_at_call 25; (with_reducible refine (c_Ticket _ bt n _ rfl hb).mono ?_); rintro e w' ⟨rfl, rfl⟩)
        | (go_at_call 25; (with_reducible refine (c_Ticket _ (bt + 1) k _ (by omega) (by omega)).mono ?_); rintro e w' ⟨rfl, rfl⟩)
        | (go_at_call 27; (with_reducible refine (c_Boot (tk bt n) _).mono ?_); rintro e w' ⟨rfl, rfl⟩)
        | (go_at_call 23; (with_reducible refine (c_Put64 none 0 0 [] _ y 8 _ Rd.nil_ rfl hy rfl (by omega)).mono ?_); rintro e w2 ⟨A2, c2, rfl, hown, hb2⟩; rw [List.nil_append] at hown)
        | (go_at_call 33; (with_reducible refine (c_Get64 _ _ _ (be 8 y) _ hown.rd).mono ?_); rintro e w' ⟨rfl, rfl⟩; rw [gv_be8 y hy, gok_be8])
        | (go_at_call 18; (with_reducible refine (c_lives _).mono ?_); rintro e w3 ⟨rfl, hb3⟩))
      go_ret
      exact ⟨rfl, bel_box (hb2.trans (hb3.mono hb2.size))⟩
    · have hl2 : ((bt : Int) == 4294967295) = false := by simp; omega
      cases hkk : tkOk k with
      | false =>
        go_enter Try.func7, Try.ntmps7
        go_wp2_with fail
        go_quiet (fail)
        go_wp2_with (first
          | (go_at_call 25; (with_reducible refine (c_Ticket _ bt n _ rfl hb).mono ?_); rintro e w' ⟨rfl, rfl⟩)
          | (go_at_call 25; (with_reducible refine (c_Ticket _ (bt + 1) k _ (by omega) (by omega)).mono ?_); rintro e w' ⟨rfl, rfl⟩)
          | (go_at_call 27; (with_reducible refine (c_Boot (tk bt n) _).mono ?_); rintro e w' ⟨rfl, rfl⟩)
          | (go_at_call 23; (with_reducible refine (c_Put64 none 0 0 [] _ y 8 _ Rd.nil_ rfl hy rfl (by omega)).mono ?_); rintro e w2 ⟨A2, c2, rfl, hown, hb2⟩; rw [List.nil_append] at hown)
          | (go_at_call 33; (with_reducible refine (c_Get64 _ _ _ (be 8 y) _ hown.rd).mono ?_); rintro e w' ⟨rfl, rfl⟩; rw [gv_be8 y hy, gok_be8])
          | (go_at_call 18; (with_reducible refine (c_lives _).mono ?_); rintro e w3 ⟨rfl, hb3⟩))
        go_ret
        exact ⟨rfl, bel_box (hb2.trans (hb3.mono hb2.size))⟩
      | true =>
        have hgt := tk_later (b := bt) hok hkk
        go_enter Try.func7, Try.ntmps7
        go_wp2_with fail
        go_quiet (fail)
        go_wp2_with (first
          | (go_at_call 25; (with_reducible refine (c_Ticket _ bt n _ rfl hb).mono ?_); rintro e w' ⟨rfl, rfl⟩)
          | (go_at_call 25; (with_reducible refine (c_Ticket _ (bt + 1) k _ (by omega) (by omega)).mono ?_); rintro e w' ⟨rfl, rfl⟩)
          | (go_at_call 27; (with_reducible refine (c_Boot (tk bt n) _).mono ?_); rintro e w' ⟨rfl, rfl⟩)
          | (go_at_call 23; (with_reducible refine (c_Put64 none 0 0 [] _ y 8 _ Rd.nil_ rfl hy rfl (by omega)).mono ?_); rintro e w2 ⟨A2, c2, rfl, hown, hb2⟩; rw [List.nil_append] at hown)
          | (go_at_call 33; (with_reducible refine (c_Get64 _ _ _ (be 8 y) _ hown.rd).mono ?_); rintro e w' ⟨rfl, rfl⟩; rw [gv_be8 y hy, gok_be8])
          | (go_at_call 18; (with_reducible refine (c_lives _).mono ?_); rintro e w3 ⟨rfl, hb3⟩))
        go_ret
        exact ⟨rfl, bel_box (hb2.trans (hb3.mono hb2.size))⟩
end Go.Proofs.Ytlfphoablloodaa.Num
