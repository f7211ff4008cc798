/- Contracts of the package slots: good, place, on, Place. Conditions: none. -/
import Derived.Test.YtpbcmghfhflkbaaProg
import Derived.Test.YtpbcmghfhflkbaaSlotLaw
import Derived.Test.YtpbcmghfhflkbaaDisk4
import Derived.Test.YtpbcmghfhflkbaaSpan
import Derived.Test.YtpbcmghfhflkbaaRegion
set_option linter.unusedVariables false
set_option linter.unusedSimpArgs false
namespace Go.Proofs.Ytpbcmghfhflkbaa.Slots
open Go.RowKit Tw Disk
set_option maxHeartbeats 2000000
set_option maxRecDepth 100000

theorem ret_int {v : Value} {a b : Int} (hv : v = .int .i64 a) (h : a = b) : Ending.returned v = .returned (.int .i64 b) := by rw [hv, h]
theorem c_good (b s : Int) (w : World) :
    Calls Try.prog 161 #[.agg #[.int .i64 b, .int .i64 s]] w fun e w' => e = .returned (.bool (decide (RingOk b s))) ∧ Below w.heap.size w w' := by
  have HB := Lib.hid ((Below.refl _ _).alloc (Nat.le_refl w.heap.size) (.cells #[.int .i64 b, .int .i64 s] 182))
  go_enter Try.func161, Try.ntmps161
  go_wp2
  all_goals
    go_ret
    refine ⟨Span.ret_bool rfl ?_, HB.out⟩
    rw [Bool.eq_iff_iff]
    simp only [decide_eq_true_eq, Bool.false_eq_true, Bool.true_eq_false, Bool.and_eq_true, true_iff, false_iff]
    simp only [RingOk]
    omega
theorem c_place (b s : Int) (n : Nat) (w : World) (h : RingOk b s) (hn : n < 4294967296) :
    Calls Try.prog 94 #[.agg #[.int .i64 b, .int .i64 s], .int .u32 (n : Int)] w fun e w' => e = .returned (.int .i64 (place b s n)) ∧ Below w.heap.size w w' := by
  have HB := Lib.hid ((Below.refl _ _).alloc (Nat.le_refl w.heap.size) (.cells #[.int .i64 b, .int .i64 s] 182))
  obtain ⟨k, rfl⟩ : ∃ k : Nat, s = (k : Int) := ⟨s.toNat, by unfold RingOk at h; omega⟩
  obtain ⟨h1, h2, h3, h4⟩ := h
  go_enter Try.func94, Try.ntmps94
  go_wp2_with fail
  go_quiet (fail)
  go_wp2
  go_ret
  refine ⟨ret_int rfl ?_, HB.out.trans ((Fr.drewN (S := fun _ => False) nq).bel (fun _ e => e.elim) HB.out.size)⟩
  unfold place
  rw [Int.toNat_natCast]
  have h5 : n % k < k := Nat.mod_lt _ (by omega)
  have h6 : ((n % k : Nat) : Int) = (n : Int) % (k : Int) := by omega
  rw [h6]
  have h8 : 0 ≤ (n : Int) % (k : Int) ∧ (n : Int) % (k : Int) < (k : Int) := by omega
  generalize (n : Int) % (k : Int) = q at *
  have h7 : wrap64 q = q := by unfold wrap64; omega
  rw [h7]
  unfold wrap64
  omega
theorem c_rring (b s : Int) (w : World) :
    Calls Try.prog 96 #[.int .i64 b, .int .i64 s] w fun e w' => e = .returned (.bool (decide (RingOk b s))) ∧ w = w' := by
  go_enter Try.func96, Try.ntmps96
  go_wp2
  all_goals
    go_ret
    refine ⟨Span.ret_bool rfl ?_, rfl⟩
    rw [Bool.eq_iff_iff]
    simp only [decide_eq_true_eq, Bool.false_eq_true, Bool.true_eq_false, Bool.and_eq_true, true_iff, false_iff]
    simp only [RingOk]
    omega
theorem two_puts : (sput (Dsk.new 4) 1 2 7).2 = 0 ∧ (sput (sput (Dsk.new 4) 1 2 7).1 1 2 9).2 = 0 ∧ latest (sput (sput (Dsk.new 4) 1 2 7).1 1 2 9).1 1 2 = (2, 9) := by decide +kernel
theorem c_Place (b s : Int) (n : Nat) (w : World) (hn : n < 4294967296) :
    Calls Try.prog 89 #[.int .u32 (n : Int), .int .i64 b, .int .i64 s] w fun e w' => e = .returned (.int .i64 (if RingOk b s then place b s n else 0)) ∧ Below w.heap.size w w' := by
  have HB := Lib.hid ((Below.refl _ _).alloc (Nat.le_refl w.heap.size) (.cells #[.int .i64 b, .int .i64 s] 182))
  have hg := c_good b s
  by_cases h : RingOk b s
  · have hd := Lib.hid (decide_eq_true h)
    have hp := fun w => c_place b s n w h hn
    rw [if_pos h]
    clear h
    go_enter Try.func89, Try.ntmps89
    go_wp2_with (first
      | (go_at_call 161
         (with_reducible refine (hg _).mono ?_)
         rintro e w1 ⟨rfl, hb1⟩
         rw [hd.out]
         have B1 := Lib.hid (HB.out.trans (hb1.mono HB.out.size))
         have d0 := (hb1.block _ (heap_lt (heap_alloc_new w (.cells #[.int .i64 b, .int .i64 s] 182)))).trans (heap_alloc_new w (.cells #[.int .i64 b, .int .i64 s] 182))
         have d1 : w1.cell? ⟨w.heap.size, 0, none⟩ = some (.int .i64 b) := by simp [World.cell?, d0]
         have d2 : w1.cell? ⟨w.heap.size, 1, none⟩ = some (.int .i64 s) := by simp [World.cell?, d0]
         clear d0 hb1 hg)
      | (go_at_call 94
         (with_reducible refine (hp _).mono ?_)
         rintro e w2 ⟨rfl, hb2⟩
         have B2 := Lib.hid (B1.out.trans (hb2.mono B1.out.size))
         clear hb2 hp))
    go_ret
    exact ⟨rfl, B2.out⟩
  · have hd := Lib.hid (decide_eq_false h)
    rw [if_neg h]
    clear h
    go_enter Try.func89, Try.ntmps89
    go_wp2_with (first
      | (go_at_call 161
         (with_reducible refine (hg _).mono ?_)
         rintro e w1 ⟨rfl, hb1⟩
         rw [hd.out]
         have B1 := Lib.hid (HB.out.trans (hb1.mono HB.out.size))
         clear hb1 hg))
    go_ret
    exact ⟨rfl, B1.out⟩
theorem c_rPlace (b s : Int) (n : Nat) (w : World) (hn : n < 4294967296) :
    Calls Try.prog 97 #[.int .u32 (n : Int), .int .i64 b, .int .i64 s] w fun e w' => e = .returned (.int .i64 (if RingOk b s then place b s n else 0)) ∧ w = w' := by
  have hg := c_rring b s
  by_cases h : RingOk b s
  · have hd := Lib.hid (decide_eq_true h)
    rw [if_pos h]
    obtain ⟨k, rfl⟩ : ∃ k : Nat, s = (k : Int) := ⟨s.toNat, by unfold RingOk at h; omega⟩
    obtain ⟨h1, h2, h3, h4⟩ := h
    go_enter Try.func97, Try.ntmps97
    go_wp2_with (first
      | (go_at_call 96
         (with_reducible refine (hg _).mono ?_)
         rintro e w1 ⟨rfl, rfl⟩
         rw [hd.out]))
    go_ret
    refine ⟨ret_int rfl ?_, rfl⟩
    unfold place
    rw [Int.toNat_natCast]
    have h5 : n % k < k := Nat.mod_lt _ (by omega)
    have h6 : ((n % k : Nat) : Int) = (n : Int) % (k : Int) := by omega
    rw [h6]
    have h8 : 0 ≤ (n : Int) % (k : Int) ∧ (n : Int) % (k : Int) < (k : Int) := by omega
    generalize (n : Int) % (k : Int) = q at *
    unfold wrap64
    omega
  · have hd := Lib.hid (decide_eq_false h)
    rw [if_neg h]
    go_enter Try.func97, Try.ntmps97
    go_wp2_with (first
      | (go_at_call 96
         (with_reducible refine (hg _).mono ?_)
         rintro e w1 ⟨rfl, rfl⟩
         rw [hd.out]))
    go_ret
    exact ⟨rfl, rfl⟩
/-- a disk, or none: how many sectors it has -/
def DV (w : World) (v : Value) (N : Nat) : Prop := (∃ p g mb c d, v = .pointer (some ⟨p, 0, none⟩) ∧ Dk w p g mb c d ∧ d.cells.length = N) ∨ (v = .pointer none ∧ N = 0)
theorem DV.bel {w w' : World} {v : Value} {N : Nat} (h : DV w v N) (hb : Below w.heap.size w w') : DV w' v N := by
  rcases h with ⟨p, g, mb, c, d, rfl, hk, hN⟩ | ⟨rfl, rfl⟩
  · exact .inl ⟨p, g, mb, c, d, rfl, hk.bel hb, hN⟩
  · exact .inr ⟨rfl, rfl⟩
theorem c_SizeV {w : World} {v : Value} {N : Nat} (h : DV w v N) : Calls Try.prog 162 #[v] w fun e w' => e = .returned (.int .i64 (N : Int)) ∧ w = w' := by
  rcases h with ⟨p, g, mb, c, d, rfl, hk, rfl⟩ | ⟨rfl, rfl⟩
  · exact c_Size hk
  · exact c_Size_nil w
theorem DV.lt {w : World} {v : Value} {N : Nat} (h : DV w v N) : N ≤ 1024 := by
  rcases h with ⟨p, g, mb, c, d, rfl, hk, rfl⟩ | ⟨rfl, rfl⟩
  · exact hk.ok.n.2
  · omega
theorem c_on (b s : Int) (u : Value) (N : Nat) (w : World) (h : DV w u N) :
    Calls Try.prog 91 #[.agg #[.int .i64 b, .int .i64 s], u] w fun e w' => e = .returned (.bool (decide (On b s N))) ∧ Below w.heap.size w w' := by
  have HB := Lib.hid ((Below.refl _ _).alloc (Nat.le_refl w.heap.size) (.cells #[.int .i64 b, .int .i64 s] 182))
  have HX := Lib.hid (heap_alloc_new w (.cells #[.int .i64 b, .int .i64 s] 182))
  have hN := h.lt
  have HV := Lib.hid (h.bel HB.out)
  have hg := c_good b s
  clear h
  by_cases h : RingOk b s
  · have hd := Lib.hid (decide_eq_true h)
    obtain ⟨h1, h2, h3, h4⟩ := Lib.hid h |>.out
    have hon : Hid (decide (On b s N) = decide (b ≤ (N : Int) - s)) := Lib.hid (by simp [On, h])
    clear h
    rw [hon.out]
    go_enter Try.func91, Try.ntmps91
    go_wp2_with fail
    refine wp_region_phi (by kernel_rfl) 13 none (fun _ => false) (fun i_ v wz => match i_ with
      | 0 => v = .agg #[.int .i64 b, .int .i64 s]
      | 1 => v = .bool true
      | 2 => v = .bool true
      | 3 => v = .pointer (some ⟨w.heap.size, 0, none⟩)
      | 4 => v = .int .i64 b
      | 5 => v = u
      | 6 => v = .int .i64 (N : Int)
      | 7 => v = .pointer (some ⟨w.heap.size, 1, none⟩)
      | 8 => v = .int .i64 s
      | 9 => v = .int .i64 ((N : Int) - s)
      | 10 => v = .bool (decide (b ≤ (N : Int) - s))
      | 11 => v = .bool (decide (b ≤ (N : Int) - s))
      | 12 => v = .bool (decide (b ≤ (N : Int) - s))
      | _ => True) (by kernel_rfl) ?_ ?_ ?_
    · (repeat' (first | exact allLt_zero | refine allLt_succ ?_ ?_))
      · exact fun _ _ _ h _ => h
      · exact fun _ _ _ h _ => h
      · exact fun _ _ _ h _ => h
      · exact fun _ _ _ h _ => h
      · exact fun _ _ _ h _ => h
      · exact fun _ _ _ h _ => h
      · exact fun _ _ _ h _ => h
      · exact fun _ _ _ h _ => h
      · exact fun _ _ _ h _ => h
      · exact fun _ _ _ h _ => h
      · exact fun _ _ _ h _ => h
      · exact fun _ _ _ h _ => h
      · exact fun _ _ _ h _ => h
    · (repeat' (first | exact allLt_zero | refine allLt_succ ?_ ?_))
      · intro a w' hf he
        have k2 : a.tmps.getD 2 undef = .pointer (some ⟨w.heap.size, 0, none⟩) := hf.var (by kernel_rfl) rfl
        rw [show kindRow _ _ = none from by kernel_rfl] at hf
        have d0 := (hf.bel.block _ (heap_lt HX.out)).trans HX.out
        have d1 : w'.cell? ⟨w.heap.size, 0, none⟩ = some (.int .i64 b) := by simp [World.cell?, d0]
        have d2 : w'.cell? ⟨w.heap.size, 1, none⟩ = some (.int .i64 s) := by simp [World.cell?, d0]
        clear d0
        refine wpOp_step rfl (fun K hK => ?_)
        go_simp
        exact hK _ _ ⟨_, rfl, rfl, World.grownBy.refl _ _⟩
      · intro a w' hf he
        have f0 : a.tmps.getD 5 undef = .agg #[.int .i64 b, .int .i64 s] := he 0 (by kernel_rfl)
        rw [show kindRow _ _ = none from by kernel_rfl] at hf
        refine wpOp_step rfl (fun K hK => ?_)
        go_simp
        refine (hg _).mono ?_
        rintro e w2 ⟨rfl, hb2⟩
        rw [hd.out]
        exact hK _ _ ⟨_, rfl, rfl, grown_bel hb2⟩
      · intro a w' hf he
        have f1 : a.tmps.getD 6 undef = .bool true := he 1 (by kernel_rfl)
        refine wpOp_step rfl (fun K hK => ?_)
        go_simp
        exact hK _ _ ⟨_, rfl, rfl, World.grownBy.refl _ _⟩
      · intro a w' hf he
        have k2 : a.tmps.getD 2 undef = .pointer (some ⟨w.heap.size, 0, none⟩) := hf.var (by kernel_rfl) rfl
        have f2 : a.tmps.getD 7 undef = .bool true := he 2 (by kernel_rfl)
        refine wpOp_run rfl rfl rfl f2 (fun K hK => ?_)
        go_simp
        exact hK _ _ ⟨_, rfl, rfl, World.grownBy.refl _ _⟩
      · intro a w' hf he
        have f3 : a.tmps.getD 8 undef = .pointer (some ⟨w.heap.size, 0, none⟩) := he 3 (by kernel_rfl)
        have f2 : a.tmps.getD 7 undef = .bool true := he 2 (by kernel_rfl)
        rw [show kindRow _ _ = none from by kernel_rfl] at hf
        have d0 := (hf.bel.block _ (heap_lt HX.out)).trans HX.out
        have d1 : w'.cell? ⟨w.heap.size, 0, none⟩ = some (.int .i64 b) := by simp [World.cell?, d0]
        clear d0
        refine wpOp_run rfl rfl rfl f2 (fun K hK => ?_)
        go_simp
        exact hK _ _ ⟨_, rfl, rfl, World.grownBy.refl _ _⟩
      · intro a w' hf he
        have k1 : a.tmps.getD 1 undef = u := hf.var (by kernel_rfl) rfl
        have f2 : a.tmps.getD 7 undef = .bool true := he 2 (by kernel_rfl)
        refine wpOp_run rfl rfl rfl f2 (fun K hK => ?_)
        go_simp
        exact hK _ _ ⟨_, rfl, rfl, World.grownBy.refl _ _⟩
      · intro a w' hf he
        have f5 : a.tmps.getD 10 undef = u := he 5 (by kernel_rfl)
        have f2 : a.tmps.getD 7 undef = .bool true := he 2 (by kernel_rfl)
        rw [show kindRow _ _ = none from by kernel_rfl] at hf
        refine wpOp_run rfl rfl rfl f2 (fun K hK => ?_)
        go_simp
        refine (c_SizeV (HV.out.bel hf.bel)).mono ?_
        rintro e w2 ⟨rfl, rfl⟩
        exact hK _ _ ⟨_, rfl, rfl, World.grownBy.refl _ _⟩
      · intro a w' hf he
        have k2 : a.tmps.getD 2 undef = .pointer (some ⟨w.heap.size, 0, none⟩) := hf.var (by kernel_rfl) rfl
        have f2 : a.tmps.getD 7 undef = .bool true := he 2 (by kernel_rfl)
        refine wpOp_run rfl rfl rfl f2 (fun K hK => ?_)
        go_simp
        exact hK _ _ ⟨_, rfl, rfl, World.grownBy.refl _ _⟩
      · intro a w' hf he
        have f7 : a.tmps.getD 12 undef = .pointer (some ⟨w.heap.size, 1, none⟩) := he 7 (by kernel_rfl)
        have f2 : a.tmps.getD 7 undef = .bool true := he 2 (by kernel_rfl)
        rw [show kindRow _ _ = none from by kernel_rfl] at hf
        have d0 := (hf.bel.block _ (heap_lt HX.out)).trans HX.out
        have d2 : w'.cell? ⟨w.heap.size, 1, none⟩ = some (.int .i64 s) := by simp [World.cell?, d0]
        clear d0
        refine wpOp_run rfl rfl rfl f2 (fun K hK => ?_)
        go_simp
        exact hK _ _ ⟨_, rfl, rfl, World.grownBy.refl _ _⟩
      · intro a w' hf he
        have f6 : a.tmps.getD 11 undef = .int .i64 (N : Int) := he 6 (by kernel_rfl)
        have f8 : a.tmps.getD 13 undef = .int .i64 s := he 8 (by kernel_rfl)
        have f2 : a.tmps.getD 7 undef = .bool true := he 2 (by kernel_rfl)
        rw [show kindRow _ _ = none from by kernel_rfl] at hf
        refine wpOp_run rfl rfl rfl f2 (fun K hK => ?_)
        go_simp
        rw [show IntKind.i64.wrap ((N : Int) - s) = (N : Int) - s from by rw [IntKind.wrap_i64]; omega]
        exact hK _ _ ⟨_, rfl, rfl, World.grownBy.refl _ _⟩
      · intro a w' hf he
        have f4 : a.tmps.getD 9 undef = .int .i64 b := he 4 (by kernel_rfl)
        have f9 : a.tmps.getD 14 undef = .int .i64 ((N : Int) - s) := he 9 (by kernel_rfl)
        have f2 : a.tmps.getD 7 undef = .bool true := he 2 (by kernel_rfl)
        refine wpOp_run rfl rfl rfl f2 (fun K hK => ?_)
        go_simp
        exact hK _ _ ⟨_, rfl, rfl, World.grownBy.refl _ _⟩
      · intro a w' hf he
        have f2 : a.tmps.getD 7 undef = .bool true := he 2 (by kernel_rfl)
        have f10 : a.tmps.getD 15 undef = .bool (decide (b ≤ (N : Int) - s)) := he 10 (by kernel_rfl)
        refine wpOp_step rfl (fun K hK => ?_)
        go_simp
        exact hK _ _ ⟨_, rfl, rfl, World.grownBy.refl _ _⟩
      · intro a w' hf he
        have f11 : a.tmps.getD 16 undef = .bool (decide (b ≤ (N : Int) - s)) := he 11 (by kernel_rfl)
        refine wpOp_step rfl (fun K hK => ?_)
        go_simp
        exact hK _ _ ⟨_, rfl, rfl, World.grownBy.refl _ _⟩
    · intro a w' hf he
      obtain ⟨u5, f0⟩ : ∃ u, a.tmps.getD 5 undef = u := ⟨_, rfl⟩
      obtain ⟨u6, f1⟩ : ∃ u, a.tmps.getD 6 undef = u := ⟨_, rfl⟩
      obtain ⟨u7, f2⟩ : ∃ u, a.tmps.getD 7 undef = u := ⟨_, rfl⟩
      obtain ⟨u8, f3⟩ : ∃ u, a.tmps.getD 8 undef = u := ⟨_, rfl⟩
      obtain ⟨u9, f4⟩ : ∃ u, a.tmps.getD 9 undef = u := ⟨_, rfl⟩
      obtain ⟨u10, f5⟩ : ∃ u, a.tmps.getD 10 undef = u := ⟨_, rfl⟩
      obtain ⟨u11, f6⟩ : ∃ u, a.tmps.getD 11 undef = u := ⟨_, rfl⟩
      obtain ⟨u12, f7⟩ : ∃ u, a.tmps.getD 12 undef = u := ⟨_, rfl⟩
      obtain ⟨u13, f8⟩ : ∃ u, a.tmps.getD 13 undef = u := ⟨_, rfl⟩
      obtain ⟨u14, f9⟩ : ∃ u, a.tmps.getD 14 undef = u := ⟨_, rfl⟩
      obtain ⟨u15, f10⟩ : ∃ u, a.tmps.getD 15 undef = u := ⟨_, rfl⟩
      obtain ⟨u16, f11⟩ : ∃ u, a.tmps.getD 16 undef = u := ⟨_, rfl⟩
      have f12 : a.tmps.getD 4 undef = .bool (decide (b ≤ (N : Int) - s)) := he 12 (by decide)
      have hlit := hf.lit ((5, u5) :: (6, u6) :: (7, u7) :: (8, u8) :: (9, u9) :: (10, u10) :: (11, u11) :: (12, u12) :: (13, u13) :: (14, u14) :: (15, u15) :: (16, u16) :: (4, .bool (decide (b ≤ (N : Int) - s))) :: []) (by kernel_rfl) ⟨f0, f1, f2, f3, f4, f5, f6, f7, f8, f9, f10, f11, f12, trivial⟩
      have hB := hf.bel
      clear he hf f0 f1 f2 f3 f4 f5 f6 f7 f8 f9 f10 f11 f12 
      subst hlit
      simp only [putAll_nil, putAll_cons, Act.put, List.setIfInBounds_toArray, List.set_cons_zero, List.set_cons_succ]
      simp only [List.drop_succ_cons, List.drop_zero]
      go_wp2_with fail
      go_ret
      exact ⟨rfl, HB.out.trans (hB.mono HB.out.size)⟩
  · have hd := Lib.hid (decide_eq_false h)
    have hon : Hid (decide (On b s N) = false) := Lib.hid (by simp [On, h])
    clear h
    rw [hon.out]
    go_enter Try.func91, Try.ntmps91
    go_wp2_with fail
    refine wp_region_phi (by kernel_rfl) 13 none (fun _ => false) (fun i_ v wz => match i_ with
      | 0 => v = .agg #[.int .i64 b, .int .i64 s]
      | 1 => v = .bool false
      | 2 => v = .bool false
      | 3 => v = undef
      | 4 => v = undef
      | 5 => v = undef
      | 6 => v = undef
      | 7 => v = undef
      | 8 => v = undef
      | 9 => v = undef
      | 10 => v = undef
      | 11 => v = (.bool false)
      | 12 => v = (.bool false)
      | _ => True) (by kernel_rfl) ?_ ?_ ?_
    · (repeat' (first | exact allLt_zero | refine allLt_succ ?_ ?_))
      · exact fun _ _ _ h _ => h
      · exact fun _ _ _ h _ => h
      · exact fun _ _ _ h _ => h
      · exact fun _ _ _ h _ => h
      · exact fun _ _ _ h _ => h
      · exact fun _ _ _ h _ => h
      · exact fun _ _ _ h _ => h
      · exact fun _ _ _ h _ => h
      · exact fun _ _ _ h _ => h
      · exact fun _ _ _ h _ => h
      · exact fun _ _ _ h _ => h
      · exact fun _ _ _ h _ => h
      · exact fun _ _ _ h _ => h
    · (repeat' (first | exact allLt_zero | refine allLt_succ ?_ ?_))
      · intro a w' hf he
        have k2 : a.tmps.getD 2 undef = .pointer (some ⟨w.heap.size, 0, none⟩) := hf.var (by kernel_rfl) rfl
        rw [show kindRow _ _ = none from by kernel_rfl] at hf
        have d0 := (hf.bel.block _ (heap_lt HX.out)).trans HX.out
        have d1 : w'.cell? ⟨w.heap.size, 0, none⟩ = some (.int .i64 b) := by simp [World.cell?, d0]
        have d2 : w'.cell? ⟨w.heap.size, 1, none⟩ = some (.int .i64 s) := by simp [World.cell?, d0]
        clear d0
        refine wpOp_step rfl (fun K hK => ?_)
        go_simp
        exact hK _ _ ⟨_, rfl, rfl, World.grownBy.refl _ _⟩
      · intro a w' hf he
        have f0 : a.tmps.getD 5 undef = .agg #[.int .i64 b, .int .i64 s] := he 0 (by kernel_rfl)
        rw [show kindRow _ _ = none from by kernel_rfl] at hf
        refine wpOp_step rfl (fun K hK => ?_)
        go_simp
        refine (hg _).mono ?_
        rintro e w2 ⟨rfl, hb2⟩
        rw [hd.out]
        exact hK _ _ ⟨_, rfl, rfl, grown_bel hb2⟩
      · intro a w' hf he
        have f1 : a.tmps.getD 6 undef = .bool false := he 1 (by kernel_rfl)
        refine wpOp_step rfl (fun K hK => ?_)
        go_simp
        exact hK _ _ ⟨_, rfl, rfl, World.grownBy.refl _ _⟩
      · intro a w' hf he
        have f2 : a.tmps.getD 7 undef = .bool false := he 2 (by kernel_rfl)
        exact wpOp_pass rfl rfl rfl f2 rfl ⟨_, rfl, rfl, World.grownBy.refl _ _⟩
      · intro a w' hf he
        have f2 : a.tmps.getD 7 undef = .bool false := he 2 (by kernel_rfl)
        exact wpOp_pass rfl rfl rfl f2 rfl ⟨_, rfl, rfl, World.grownBy.refl _ _⟩
      · intro a w' hf he
        have f2 : a.tmps.getD 7 undef = .bool false := he 2 (by kernel_rfl)
        exact wpOp_pass rfl rfl rfl f2 rfl ⟨_, rfl, rfl, World.grownBy.refl _ _⟩
      · intro a w' hf he
        have f2 : a.tmps.getD 7 undef = .bool false := he 2 (by kernel_rfl)
        exact wpOp_pass rfl rfl rfl f2 rfl ⟨_, rfl, rfl, World.grownBy.refl _ _⟩
      · intro a w' hf he
        have f2 : a.tmps.getD 7 undef = .bool false := he 2 (by kernel_rfl)
        exact wpOp_pass rfl rfl rfl f2 rfl ⟨_, rfl, rfl, World.grownBy.refl _ _⟩
      · intro a w' hf he
        have f2 : a.tmps.getD 7 undef = .bool false := he 2 (by kernel_rfl)
        exact wpOp_pass rfl rfl rfl f2 rfl ⟨_, rfl, rfl, World.grownBy.refl _ _⟩
      · intro a w' hf he
        have f2 : a.tmps.getD 7 undef = .bool false := he 2 (by kernel_rfl)
        exact wpOp_pass rfl rfl rfl f2 rfl ⟨_, rfl, rfl, World.grownBy.refl _ _⟩
      · intro a w' hf he
        have f2 : a.tmps.getD 7 undef = .bool false := he 2 (by kernel_rfl)
        exact wpOp_pass rfl rfl rfl f2 rfl ⟨_, rfl, rfl, World.grownBy.refl _ _⟩
      · intro a w' hf he
        have f2 : a.tmps.getD 7 undef = .bool false := he 2 (by kernel_rfl)
        have f10 : a.tmps.getD 15 undef = undef := he 10 (by kernel_rfl)
        refine wpOp_step rfl (fun K hK => ?_)
        go_simp
        exact hK _ _ ⟨_, rfl, rfl, World.grownBy.refl _ _⟩
      · intro a w' hf he
        have f11 : a.tmps.getD 16 undef = (.bool false) := he 11 (by kernel_rfl)
        refine wpOp_step rfl (fun K hK => ?_)
        go_simp
        exact hK _ _ ⟨_, rfl, rfl, World.grownBy.refl _ _⟩
    · intro a w' hf he
      obtain ⟨u5, f0⟩ : ∃ u, a.tmps.getD 5 undef = u := ⟨_, rfl⟩
      obtain ⟨u6, f1⟩ : ∃ u, a.tmps.getD 6 undef = u := ⟨_, rfl⟩
      obtain ⟨u7, f2⟩ : ∃ u, a.tmps.getD 7 undef = u := ⟨_, rfl⟩
      obtain ⟨u8, f3⟩ : ∃ u, a.tmps.getD 8 undef = u := ⟨_, rfl⟩
      obtain ⟨u9, f4⟩ : ∃ u, a.tmps.getD 9 undef = u := ⟨_, rfl⟩
      obtain ⟨u10, f5⟩ : ∃ u, a.tmps.getD 10 undef = u := ⟨_, rfl⟩
      obtain ⟨u11, f6⟩ : ∃ u, a.tmps.getD 11 undef = u := ⟨_, rfl⟩
      obtain ⟨u12, f7⟩ : ∃ u, a.tmps.getD 12 undef = u := ⟨_, rfl⟩
      obtain ⟨u13, f8⟩ : ∃ u, a.tmps.getD 13 undef = u := ⟨_, rfl⟩
      obtain ⟨u14, f9⟩ : ∃ u, a.tmps.getD 14 undef = u := ⟨_, rfl⟩
      obtain ⟨u15, f10⟩ : ∃ u, a.tmps.getD 15 undef = u := ⟨_, rfl⟩
      obtain ⟨u16, f11⟩ : ∃ u, a.tmps.getD 16 undef = u := ⟨_, rfl⟩
      have f12 : a.tmps.getD 4 undef = (.bool false) := he 12 (by decide)
      have hlit := hf.lit ((5, u5) :: (6, u6) :: (7, u7) :: (8, u8) :: (9, u9) :: (10, u10) :: (11, u11) :: (12, u12) :: (13, u13) :: (14, u14) :: (15, u15) :: (16, u16) :: (4, (.bool false)) :: []) (by kernel_rfl) ⟨f0, f1, f2, f3, f4, f5, f6, f7, f8, f9, f10, f11, f12, trivial⟩
      have hB := hf.bel
      clear he hf f0 f1 f2 f3 f4 f5 f6 f7 f8 f9 f10 f11 f12 
      subst hlit
      simp only [putAll_nil, putAll_cons, Act.put, List.setIfInBounds_toArray, List.set_cons_zero, List.set_cons_succ]
      simp only [List.drop_succ_cons, List.drop_zero]
      go_wp2_with fail
      go_ret
      exact ⟨rfl, HB.out.trans (hB.mono HB.out.size)⟩
end Go.Proofs.Ytpbcmghfhflkbaa.Slots
