/- Contracts of the package seal, and of its reference: Open. Conditions: none. -/
import Derived.Test.YtpbcmghfhflkbaaSeal6
import Derived.Test.YtpbcmghfhflkbaaNum2
set_option linter.unusedVariables false
set_option linter.unusedSimpArgs false
namespace Go.Proofs.Ytpbcmghfhflkbaa.Seal
open Go.RowKit Tw
open Crc (le sealed le_length sealed_length)
set_option maxHeartbeats 400000
set_option maxRecDepth 100000

/-- what a sector tells: a number, a word, and whether it is a record -/
def opened (s : List UInt8) : Nat × Nat × Bool := if rec (Num.gv 4 s) (Num.gv 8 (s.drop 4)) = s then (Num.gv 4 s, Num.gv 8 (s.drop 4), true) else (0, 0, false)
theorem opened_yes {s : List UInt8} (h : rec (Num.gv 4 s) (Num.gv 8 (s.drop 4)) = s) : opened s = (Num.gv 4 s, Num.gv 8 (s.drop 4), true) := if_pos h
theorem opened_no {s : List UInt8} (h : rec (Num.gv 4 s) (Num.gv 8 (s.drop 4)) ≠ s) : opened s = (0, 0, false) := if_neg h

theorem c_Open (s : List UInt8) (w : World) (hs : s.length = 16) :
    Calls Try.prog 216 #[.agg (bytesV s).toArray] w fun e w' => e = .returned (.tuple #[.int .u32 ((opened s).1 : Nat), .int .u64 ((opened s).2.1 : Nat), .bool (opened s).2.2]) ∧ Below w.heap.size w w' := by
  have Hs := Lib.hid hs
  have hv4 := Num.gv_lt 4 s
  have hv8 := Num.gv_lt 8 (s.drop 4)
  have hr1 : Byt (w.alloc (.cells (bytesV s).toArray 35)) (some ⟨w.heap.size, 0, none⟩) 16 16 s := rd_lit w _ _ 16 (by rw [bytesV_length, hs]) (by simp [maxLen])
  have hr2 : Byt (w.alloc (.cells (bytesV s).toArray 35)) (some ⟨w.heap.size, 4, none⟩) 12 12 (s.drop 4) := by
    have h := hr1.cutB (k := 4) (by omega)
    simpa [Addr.add] using h
  have hRl := rec_length (Num.gv 4 s) (Num.gv 8 (s.drop 4))
  have Hop : Hid (opened s = if rec (Num.gv 4 s) (Num.gv 8 (s.drop 4)) = s then (Num.gv 4 s, Num.gv 8 (s.drop 4), true) else (0, 0, false)) := Lib.hid rfl
  have Hr1 := Lib.hid hr1
  have Hr2 := Lib.hid hr2
  have hB : Below w.heap.size w (w.alloc (.cells (bytesV s).toArray 35)) := (Below.refl _ _).alloc (Nat.le_refl _) _
  have HB := Lib.hid hB
  clear hr1 hr2 hB
  go_enter Try.func216, Try.ntmps216
  go_wp2_with (first
    | (go_at_call 244
       (with_reducible refine (Num.c_Get32 _ 16 _ s _ Hr1.out).mono ?_)
       rintro e w1 ⟨rfl, rfl⟩)
    | (go_at_call 245
       (with_reducible refine (Num.c_Get64 _ 12 _ (s.drop 4) _ Hr2.out).mono ?_)
       rintro e w1 ⟨rfl, rfl⟩))
  generalize (w.alloc (.cells (bytesV s).toArray 35)) = W1 at *
  generalize Num.gv 4 s = x at *
  generalize Num.gv 8 (s.drop 4) = y at *
  obtain ⟨R, hR⟩ : ∃ R, R = rec x y := ⟨_, rfl⟩
  rw [← hR] at hRl
  have HR := Lib.hid hR.symm
  have HRl := Lib.hid hRl
  clear hR hRl
  have heg : Try.prog.eqGuardType Try.prog.depth 35 = false := by kernel_rfl
  obtain ⟨q, hq⟩ : ∃ q, q = decide (s = R) := ⟨_, rfl⟩
  have Hq := Lib.hid hq
  clear hq
  refine wp_region_phi (by kernel_rfl) 5 none (fun _ => false) (fun i_ v wz => match i_ with
    | 0 => v = .agg (bytesV s).toArray
    | 1 => v = .int .u32 (x : Int)
    | 2 => v = .int .u64 (y : Int)
    | 3 => v = .agg (bytesV R).toArray
    | 4 => v = .bool (!q)
    | _ => True) (by kernel_rfl) ?_ ?_ ?_
  · (repeat' (first | exact allLt_zero | refine allLt_succ ?_ ?_))
    · exact fun _ _ _ h _ => h
    · exact fun _ _ _ h _ => h
    · exact fun _ _ _ h _ => h
    · exact fun _ _ _ h _ => h
    · exact fun _ _ _ h _ => h
  · (repeat' (first | exact allLt_zero | refine allLt_succ ?_ ?_))
    · intro a w' hf he
      have k1 : a.tmps.getD 1 undef = .pointer (some ⟨w.heap.size, 0, none⟩) := hf.var (by kernel_rfl) rfl
      rw [show kindRow _ _ = none from by kernel_rfl] at hf
      refine wpOp_step rfl (fun K hK => ?_)
      refine wp_load_rd 35 (.tmp 1) rfl ⟨w.heap.size, 0, none⟩ k1 (bytesV s) _ ((Hr1.out.bel hf.bel).cell _ rfl) Try.underlying35 rfl (by rw [bytesV_length, Hs.out]; kernel_rfl) ?_
      exact hK _ _ ⟨_, rfl, rfl, World.grownBy.refl _ _⟩
    · intro a w' hf he
      have k5 : a.tmps.getD 5 undef = .int .u32 (x : Int) := hf.var (by kernel_rfl) rfl
      refine wpOp_step rfl (fun K hK => ?_)
      go_simp
      exact hK _ _ ⟨_, rfl, rfl, World.grownBy.refl _ _⟩
    · intro a w' hf he
      have k7 : a.tmps.getD 7 undef = .int .u64 (y : Int) := hf.var (by kernel_rfl) rfl
      refine wpOp_step rfl (fun K hK => ?_)
      go_simp
      exact hK _ _ ⟨_, rfl, rfl, World.grownBy.refl _ _⟩
    · intro a w' hf he
      have f1 : a.tmps.getD 20 undef = .int .u32 (x : Int) := he 1 (by kernel_rfl)
      have f2 : a.tmps.getD 21 undef = .int .u64 (y : Int) := he 2 (by kernel_rfl)
      rw [show kindRow _ _ = none from by kernel_rfl] at hf
      refine wpOp_step rfl (fun K hK => ?_)
      go_simp
      refine (c_Record x y _ hv4 hv8).mono ?_
      rintro e w2 ⟨rfl, hb2⟩
      rw [HR.out]
      exact hK _ _ ⟨_, rfl, rfl, grown_bel hb2⟩
    · intro a w' hf he
      have f0 : a.tmps.getD 19 undef = .agg (bytesV s).toArray := he 0 (by kernel_rfl)
      have f3 : a.tmps.getD 22 undef = .agg (bytesV R).toArray := he 3 (by kernel_rfl)
      rw [show kindRow _ _ = none from by kernel_rfl] at hf
      have hne := run_eql_barr (P := Try.prog) w' s R Hs.out HRl.out Try.underlying35 Try.underlying5 (by kernel_rfl)
      rw [← Hq.out] at hne
      refine wpOp_step rfl (fun K hK => ?_)
      go_simp
      exact hK _ _ ⟨_, rfl, rfl, World.grownBy.refl _ _⟩
  · intro a w' hf he
    obtain ⟨u19, f0⟩ : ∃ u, a.tmps.getD 19 undef = u := ⟨_, rfl⟩
    obtain ⟨u20, f1⟩ : ∃ u, a.tmps.getD 20 undef = u := ⟨_, rfl⟩
    obtain ⟨u21, f2⟩ : ∃ u, a.tmps.getD 21 undef = u := ⟨_, rfl⟩
    obtain ⟨u22, f3⟩ : ∃ u, a.tmps.getD 22 undef = u := ⟨_, rfl⟩
    have f4 : a.tmps.getD 23 undef = .bool (!q) := he 4 (by decide)
    have hlit := hf.lit ((19, u19) :: (20, u20) :: (21, u21) :: (22, u22) :: (23, .bool (!q)) :: []) (by kernel_rfl) ⟨f0, f1, f2, f3, f4, trivial⟩
    have hB := hf.bel
    clear he hf f0 f1 f2 f3 f4 
    subst hlit
    simp only [putAll_nil, putAll_cons, Act.put, List.setIfInBounds_toArray, List.set_cons_zero, List.set_cons_succ]
    simp only [List.drop_succ_cons, List.drop_zero]
    have hB0 : Below w.heap.size w w' := HB.out.trans (hB.mono HB.out.size)
    clear hB
    cases q with
    | true =>
      have hop : Hid (opened s = (x, y, true)) := Lib.hid (by rw [Hop.out, if_pos (by rw [HR.out]; exact (of_decide_eq_true Hq.out.symm).symm)])
      go_wp2_with fail
      go_ret3
      rw [hop.out]
      exact ⟨rfl, hB0⟩
    | false =>
      have hop : Hid (opened s = (0, 0, false)) := Lib.hid (by rw [Hop.out, if_neg (by rw [HR.out]; exact fun h => of_decide_eq_false Hq.out.symm h.symm)])
      go_wp2_with fail
      go_ret3
      rw [hop.out]
      exact ⟨rfl, hB0⟩

theorem c_rGet32 (A : Option Addr) (n c : Nat) (b : List UInt8) (w : World) (hb : Byt w A n c b) (hn : 4 ≤ n) :
    Calls Try.prog 172 #[.slice A n c] w fun e w' => e = .returned (.tuple #[.int .u32 (Num.gv 4 b : Nat), .bool true]) ∧ w = w' := by
  have hv4 := Num.gv_lt 4 b
  have hok := Num.gok_yes (k := 4) (b := b) (by rw [hb.blen]; exact hn)
  go_enter Try.func172, Try.ntmps172
  go_wp2_with (first
    | (go_at_call 173
       (with_reducible refine (Num.c_rGetAll _ n _ b 4 4 _ rfl (by omega) hb).mono ?_)
       rintro e w1 ⟨rfl, rfl⟩
       rw [hok]))
  go_ret2
  exact ⟨rfl, rfl⟩

theorem c_rOpen (s : List UInt8) (w : World) (hs : s.length = 16) :
    Calls Try.prog 107 #[.agg (bytesV s).toArray] w fun e w' => e = .returned (.tuple #[.int .u32 ((opened s).1 : Nat), .int .u64 ((opened s).2.1 : Nat), .bool (opened s).2.2]) ∧ Below w.heap.size w w' := by
  have Hs := Lib.hid hs
  have hv4 := Num.gv_lt 4 s
  have hv8 := Num.gv_lt 8 (s.drop 4)
  have hr1 : Byt (w.alloc (.cells (bytesV s).toArray 35)) (some ⟨w.heap.size, 0, none⟩) 16 16 s := rd_lit w _ _ 16 (by rw [bytesV_length, hs]) (by simp [maxLen])
  have hRl := rec_length (Num.gv 4 s) (Num.gv 8 (s.drop 4))
  have Hop : Hid (opened s = if rec (Num.gv 4 s) (Num.gv 8 (s.drop 4)) = s then (Num.gv 4 s, Num.gv 8 (s.drop 4), true) else (0, 0, false)) := Lib.hid rfl
  have Hr1 := Lib.hid hr1
  have hB : Below w.heap.size w (w.alloc (.cells (bytesV s).toArray 35)) := (Below.refl _ _).alloc (Nat.le_refl _) _
  have HB := Lib.hid hB
  have Ho2 : Hid (Own ((w.alloc (.cells (bytesV s).toArray 35)).alloc (.cells #[] 5)) w.heap.size 5 1 (some ⟨w.heap.size + 1, 0, none⟩) 0 0 []) := Lib.hid (by
    have h := own_empty (w.alloc (.cells (bytesV s).toArray 35)) w.heap.size 5 1 hB.size
    simpa using h)
  clear hr1 hB
  go_enter Try.func107, Try.ntmps107
  go_wp2_with (first
    | (at_builtin
       refine wpL_append _ rfl (.tmp 10) (.tmp 11) _ rfl w w.heap.size (bel_alloc HB.out HB.out.size _) (size_alloc_le HB.out.size _) 5 _ 1 1 Try.underlying96 Num.info_u8 rfl (by omega) _ _ _ [] rfl Ho2.out _ _ _ _ rfl (Hr1.out.alloc _) bytesV_one 16 (bytesV s) (by omega) rfl (by unfold maxLen; omega) (by omega) ?_
       intro A1 c1 w1 hown1 hb1 hg1 ho1
       have hd1 := hown1.rd
       have hdc := hd1.le
       have hk1 : Byt w1 (some ⟨w.heap.size, 0, none⟩) 16 16 s := (Hr1.out.alloc _).grown hg1 (by rintro ad ⟨⟩; simp [Value.ownBlock])
       obtain ⟨ad, rfl, -⟩ := hd1.src (by omega)
       have hc4 : ¬ c1 = 4 := by omega
       have hd2 := hd1.cutB (k := 4) (by omega)
       rw [if_neg hc4] at hd2
       replace hd2 : Byt w1 (some ⟨ad.block, ad.off + 4, none⟩) 12 (c1 - 4) (s.drop 4) := by simpa [Addr.add] using hd2
       have Hd1 := Lib.hid hd1
       have Hd2 := Lib.hid hd2
       have Hk1 := Lib.hid hk1
       clear hg1 ho1 hown1 hd1 hd2 hk1)
    | (go_at_call 172
       (with_reducible refine (c_rGet32 _ 16 _ s _ Hd1.out (by omega)).mono ?_)
       rintro e w2 ⟨rfl, rfl⟩)
    | (go_at_call 173
       (with_reducible refine (Num.c_rGetAll _ 12 _ (s.drop 4) 8 8 _ rfl (by omega) Hd2.out).mono ?_)
       rintro e w2 ⟨rfl, rfl⟩))
  generalize Num.gv 4 s = x at *
  generalize Num.gv 8 (s.drop 4) = y at *
  obtain ⟨R, hR⟩ : ∃ R, R = rec x y := ⟨_, rfl⟩
  rw [← hR] at hRl
  have HR := Lib.hid hR.symm
  have HRl := Lib.hid hRl
  clear hR hRl HB Ho2 Hr1
  have heg : Try.prog.eqGuardType Try.prog.depth 35 = false := by kernel_rfl
  obtain ⟨q, hq⟩ : ∃ q, q = decide (R = s) := ⟨_, rfl⟩
  have Hq := Lib.hid hq
  clear hq
  refine wp_region_phi (by kernel_rfl) 5 none (fun _ => false) (fun i_ v wz => match i_ with
    | 0 => v = .int .u32 (x : Int)
    | 1 => v = .int .u64 (y : Int)
    | 2 => v = .agg (bytesV R).toArray
    | 3 => v = .agg (bytesV s).toArray
    | 4 => v = .bool (!q)
    | _ => True) (by kernel_rfl) ?_ ?_ ?_
  · (repeat' (first | exact allLt_zero | refine allLt_succ ?_ ?_))
    · exact fun _ _ _ h _ => h
    · exact fun _ _ _ h _ => h
    · exact fun _ _ _ h _ => h
    · exact fun _ _ _ h _ => h
    · exact fun _ _ _ h _ => h
  · (repeat' (first | exact allLt_zero | refine allLt_succ ?_ ?_))
    · intro a w' hf he
      have k6 : a.tmps.getD 6 undef = .int .u32 (x : Int) := hf.var (by kernel_rfl) rfl
      refine wpOp_step rfl (fun K hK => ?_)
      go_simp
      exact hK _ _ ⟨_, rfl, rfl, World.grownBy.refl _ _⟩
    · intro a w' hf he
      have k8 : a.tmps.getD 8 undef = .int .u64 (y : Int) := hf.var (by kernel_rfl) rfl
      refine wpOp_step rfl (fun K hK => ?_)
      go_simp
      exact hK _ _ ⟨_, rfl, rfl, World.grownBy.refl _ _⟩
    · intro a w' hf he
      have f0 : a.tmps.getD 24 undef = .int .u32 (x : Int) := he 0 (by kernel_rfl)
      have f1 : a.tmps.getD 25 undef = .int .u64 (y : Int) := he 1 (by kernel_rfl)
      rw [show kindRow _ _ = none from by kernel_rfl] at hf
      refine wpOp_step rfl (fun K hK => ?_)
      go_simp
      refine (c_rRecord x y _ hv4 hv8).mono ?_
      rintro e w2 ⟨rfl, hb2⟩
      rw [HR.out]
      exact hK _ _ ⟨_, rfl, rfl, grown_bel hb2⟩
    · intro a w' hf he
      have k1 : a.tmps.getD 1 undef = .pointer (some ⟨w.heap.size, 0, none⟩) := hf.var (by kernel_rfl) rfl
      rw [show kindRow _ _ = none from by kernel_rfl] at hf
      refine wpOp_step rfl (fun K hK => ?_)
      refine wp_load_rd 35 (.tmp 1) rfl ⟨w.heap.size, 0, none⟩ k1 (bytesV s) _ ((Hk1.out.bel hf.bel).cell _ rfl) Try.underlying35 rfl (by rw [bytesV_length, Hs.out]; kernel_rfl) ?_
      exact hK _ _ ⟨_, rfl, rfl, World.grownBy.refl _ _⟩
    · intro a w' hf he
      have f2 : a.tmps.getD 26 undef = .agg (bytesV R).toArray := he 2 (by kernel_rfl)
      have f3 : a.tmps.getD 27 undef = .agg (bytesV s).toArray := he 3 (by kernel_rfl)
      rw [show kindRow _ _ = none from by kernel_rfl] at hf
      have hne := run_eql_barr (P := Try.prog) w' R s HRl.out Hs.out Try.underlying35 Try.underlying5 (by kernel_rfl)
      rw [← Hq.out] at hne
      refine wpOp_step rfl (fun K hK => ?_)
      go_simp
      exact hK _ _ ⟨_, rfl, rfl, World.grownBy.refl _ _⟩
  · intro a w' hf he
    obtain ⟨u24, f0⟩ : ∃ u, a.tmps.getD 24 undef = u := ⟨_, rfl⟩
    obtain ⟨u25, f1⟩ : ∃ u, a.tmps.getD 25 undef = u := ⟨_, rfl⟩
    obtain ⟨u26, f2⟩ : ∃ u, a.tmps.getD 26 undef = u := ⟨_, rfl⟩
    obtain ⟨u27, f3⟩ : ∃ u, a.tmps.getD 27 undef = u := ⟨_, rfl⟩
    have f4 : a.tmps.getD 28 undef = .bool (!q) := he 4 (by decide)
    have hlit := hf.lit ((24, u24) :: (25, u25) :: (26, u26) :: (27, u27) :: (28, .bool (!q)) :: []) (by kernel_rfl) ⟨f0, f1, f2, f3, f4, trivial⟩
    have hB := hf.bel
    clear he hf f0 f1 f2 f3 f4 
    subst hlit
    simp only [putAll_nil, putAll_cons, Act.put, List.setIfInBounds_toArray, List.set_cons_zero, List.set_cons_succ]
    simp only [List.drop_succ_cons, List.drop_zero]
    have hB0 : Below w.heap.size w w' := hb1.trans (hB.mono hb1.size)
    clear hB
    cases q with
    | true =>
      have hop : Hid (opened s = (x, y, true)) := Lib.hid (by rw [Hop.out, if_pos (by rw [HR.out]; exact of_decide_eq_true Hq.out.symm)])
      go_wp2_with fail
      go_ret3
      rw [hop.out]
      exact ⟨rfl, hB0⟩
    | false =>
      have hop : Hid (opened s = (0, 0, false)) := Lib.hid (by rw [Hop.out, if_neg (by rw [HR.out]; exact of_decide_eq_false Hq.out.symm)])
      go_wp2_with fail
      go_ret3
      rw [hop.out]
      exact ⟨rfl, hB0⟩
end Go.Proofs.Ytpbcmghfhflkbaa.Seal
