/- Contracts of the package session: what a session tells, meets. Conditions: none. -/
import Derived.Test.YtplemdgihlabgaaSession2
import Derived.Test.YtplemdgihlabgaaRegion3
import Derived.Test.YtplemdgihlabgaaDisk5
set_option linter.unusedVariables false
set_option linter.unusedSimpArgs false
namespace Go.Proofs.Ytplemdgihlabgaa.Session
open Go.RowKit Tw Bx
set_option maxHeartbeats 2000000
set_option maxRecDepth 100000
/-- some cells stored into a block -/
theorem wpL_store_in {P : Program} {ops : Array Oper} {rest : List Oper} {w : World} {o : Oper} {a : Act} {Q : Exit → Act → World → Prop} (hgd : o.guard = none) (hds : o.dst = none) (ty : TypeId) (x y : Operand)
    (ho : o.op = .store ty x y) (g i : Nat) (hx : a.eval x = .pointer (some ⟨g, i, none⟩)) (cs : List Value) (hy : a.eval y = .agg cs.toArray) (hi : (P.info? ty).map (·.size) = some cs.length)
    (t : TypeId) (cur ys : Array Value) (hg : w.heap[g]? = some (.cells cur t (0, 0))) (hin : i + cs.length ≤ cur.size) (h1 : ∀ v ∈ cs, v.oneCell' = true) (hys : splice cur.toList i cs = ys.toList)
    (h : ∀ w', w'.heap[g]? = some (.cells ys t (0, 0)) → w.grownBy w' (some g) → wpList P ops Q rest a w') : wpList P ops Q (o :: rest) a w := by
  have hthere : w.there g i cs.toArray.size := fun j hj => ⟨by simp [World.cell?, hg]; simp at hj; omega, by simp [World.frozen?, hg]⟩
  refine wpList_store_mid hgd ty x y ho g i cs.toArray hx hy hthere (by simpa using hi) (Array.all_eq_true_iff_forall_mem.2 fun v hv => h1 v (by simpa using hv)) ?_
  rw [hds]
  obtain ⟨cur', q1, q2, q3, q4⟩ := Disk.heap_setCells g t cs w i cur hg (by omega)
  have hc : cur' = ys := by
    apply Array.toList_inj.1
    rw [q2, ← hys]
  rw [hc] at q1
  exact h _ q1 q4
/-- one block may turn -/
def frG (S : Nat) : Bool → World → World → Prop
  | false => Still
  | true => Fr (fun k => k = S)
theorem frG_ok (S : Nat) : RelOk (frG S) where
  refl b w := by
    cases b with
    | false => exact Still.refl w
    | true => exact Fr.refl _ _
  trans b u v w h k := by
    cases b with
    | false => exact Still.trans h k
    | true => exact Fr.trans h k (fun _ _ e => e)
  up u v h := ⟨h.os, h.tape, h.output, by rw [h.heap]; exact Nat.le_refl _, fun k _ _ => by rw [h.heap]⟩
theorem frG_fr {S : Nat} {b : Bool} {w w' : World} (h : frG S b w.drew w') : Fr (fun k => k = S) w w' := by
  cases b with
  | true => exact ⟨h.os, h.tape, h.output, h.size, h.block⟩
  | false => exact ⟨h.os, h.tape, h.output, by rw [h.heap]; exact Nat.le_refl _, fun k _ _ => by rw [h.heap]; rfl⟩
section
variable {w : World} {S ob ib kp : Nat} {my peer win lim miss : Int}
theorem Se.cells (h : Se w S ob ib kp my peer win lim miss) : w.cell? ⟨S, 0, none⟩ = some (.int .u32 my) ∧ w.cell? ⟨S, 1, none⟩ = some (.int .u32 peer) ∧ w.cell? ⟨S, 2, none⟩ = some (.int .i64 win) ∧ w.cell? ⟨S, 3, none⟩ = some (.pointer (some ⟨ob, 0, none⟩)) ∧ w.cell? ⟨S, 4, none⟩ = some (.pointer (some ⟨ib, 0, none⟩)) ∧ w.cell? ⟨S, 5, none⟩ = some (.pointer (some ⟨kp, 0, none⟩)) := by
  have hb := h.blk
  simp [World.cell?, hb]
theorem c_is (h : Se w S ob ib kp my peer win lim miss) (hm : 0 < my) : Calls Try.prog 99 #[.pointer (some ⟨S, 0, none⟩)] w fun e w' => e = .returned (.bool true) ∧ w = w' := by
  obtain ⟨c0, c1, c2, c3, c4, c5⟩ := h.cells
  have hmy : (my != 0) = true := by simp; omega
  clear h
  go_enter Try.func99, Try.ntmps99
  go_wp2_with fail
  go_ret
  exact ⟨rfl, rfl⟩
theorem c_My (h : Se w S ob ib kp my peer win lim miss) (hm : 0 < my) : Calls Try.prog 51 #[.pointer (some ⟨S, 0, none⟩)] w fun e w' => e = .returned (.int .u32 my) ∧ w = w' := by
  obtain ⟨c0, c1, c2, c3, c4, c5⟩ := h.cells
  have H := Lib.hid h
  clear h
  go_enter Try.func51, Try.ntmps51
  go_wp2_with (first
    | (go_at_call 99; (with_reducible refine (c_is H.out hm).mono ?_); rintro e w' ⟨rfl, rfl⟩))
  go_ret
  exact ⟨rfl, rfl⟩
theorem c_Peer (h : Se w S ob ib kp my peer win lim miss) (hm : 0 < my) : Calls Try.prog 52 #[.pointer (some ⟨S, 0, none⟩)] w fun e w' => e = .returned (.int .u32 peer) ∧ w = w' := by
  obtain ⟨c0, c1, c2, c3, c4, c5⟩ := h.cells
  have H := Lib.hid h
  clear h
  go_enter Try.func52, Try.ntmps52
  go_wp2_with (first
    | (go_at_call 99; (with_reducible refine (c_is H.out hm).mono ?_); rintro e w' ⟨rfl, rfl⟩))
  go_ret
  exact ⟨rfl, rfl⟩
theorem c_kis (h : Se w S ob ib kp my peer win lim miss) (hl : 0 < lim) : Calls Try.prog 170 #[.pointer (some ⟨kp, 0, none⟩)] w fun e w' => e = .returned (.bool true) ∧ w = w' := by
  have hk := h.kee
  have c0 : w.cell? ⟨kp, 0, none⟩ = some (.int .i64 lim) := by simp [World.cell?, hk]
  clear h hk
  go_enter Try.func170, Try.ntmps170
  go_wp2_with fail
  go_ret
  exact ⟨rfl, rfl⟩
theorem Se.drewN (h : Se w S ob ib kp my peer win lim miss) (n : Nat) : Se (w.drewN n) S ob ib kp my peer win lim miss := h.bel ⟨rfl, rfl, rfl, Nat.le_refl _, fun _ _ => rfl⟩
theorem c_kAlive (h : Se w S ob ib kp my peer win lim miss) (hl : 0 < lim) : Calls Try.prog 117 #[.pointer (some ⟨kp, 0, none⟩)] w fun e w' => e = .returned (.bool (decide (miss < lim))) ∧ Below w.heap.size w w' := by
  have hk := h.kee
  have c0 : w.cell? ⟨kp, 0, none⟩ = some (.int .i64 lim) := by simp [World.cell?, hk]
  have c1 : w.cell? ⟨kp, 1, none⟩ = some (.int .i64 miss) := by simp [World.cell?, hk]
  have H := Lib.hid h
  clear h hk
  go_enter Try.func117, Try.ntmps117
  go_wp2_with fail
  go_quiet ((go_at_call 170; exact quiet_same (c_kis (H.out.drewN _) hl)))
  go_wp2
  go_ret
  exact ⟨rfl, ⟨rfl, rfl, rfl, Nat.le_refl _, fun _ _ => rfl⟩⟩
theorem c_Alive (h : Se w S ob ib kp my peer win lim miss) (hm : 0 < my) (hl : 0 < lim) : Calls Try.prog 53 #[.pointer (some ⟨S, 0, none⟩)] w fun e w' => e = .returned (.bool (decide (miss < lim))) ∧ Below w.heap.size w w' := by
  obtain ⟨c0, c1, c2, c3, c4, c5⟩ := h.cells
  have H := Lib.hid h
  clear h
  go_enter Try.func53, Try.ntmps53
  go_wp2_with (first
    | (go_at_call 99; (with_reducible refine (c_is H.out hm).mono ?_); rintro e w' ⟨rfl, rfl⟩)
    | (go_at_call 117; (with_reducible refine (c_kAlive H.out hl).mono ?_); rintro e w2 ⟨rfl, hb2⟩))
  go_ret
  exact ⟨rfl, hb2⟩
theorem c_Heard1 (n : Int) (w : World) : Calls Try.prog 156 #[.int .i64 n] w fun e w' => e = .returned (.int .i64 0) ∧ w = w' := by
  go_enter Try.func156, Try.ntmps156
  go_wp2_with fail
  go_ret
  exact ⟨rfl, rfl⟩
theorem c_turn0 (h : Se w S ob ib kp my peer win lim miss) (hl : 0 < lim) : Calls Try.prog 155 #[.pointer (some ⟨kp, 0, none⟩), .func (.func 156) #[] #[]] w fun e w' => e = .returned (.tuple #[]) ∧ w'.heap[kp]? = some (.cells #[.int .i64 lim, .int .i64 0] 255 (0, 0)) ∧ Fr (fun k => k = kp) w w' := by
  have H := Lib.hid h
  have hmin : min (0 : Int) lim = 0 := by omega
  clear h
  go_enter Try.func155, Try.ntmps155
  go_wp2_with (first
    | (go_at_call 170; (with_reducible refine (c_kis H.out hl).mono ?_); rintro e w' ⟨rfl, rfl⟩))
  refine wp_region_phi (by kernel_rfl) 14 none (fun _ => false) (fun i_ v wz => match i_ with
    | 0 => v = .pointer (some ⟨kp, 0, none⟩)
    | 1 => v = .func (.func 156) #[] #[]
    | 2 => v = .pointer (some ⟨kp, 0, none⟩)
    | 3 => v = .pointer (some ⟨kp, 0, none⟩)
    | 4 => v = .pointer (some ⟨kp, 1, none⟩)
    | 5 => v = .int .i64 miss
    | 6 => v = .int .i64 0
    | 7 => v = .pointer (some ⟨kp, 0, none⟩)
    | 8 => v = .pointer (some ⟨kp, 0, none⟩)
    | 9 => v = .pointer (some ⟨kp, 0, none⟩)
    | 10 => v = .int .i64 lim
    | 11 => v = .int .i64 0
    | 12 => v = .pointer (some ⟨kp, 0, none⟩)
    | 13 => v = .pointer (some ⟨kp, 1, none⟩)
    | _ => True) (by kernel_rfl) ?_ ?_ ?_
  · (repeat' (first | exact allLt_zero | refine allLt_succ ?_ ?_))
    · exact fun _ _ _ h _ => h
    · exact fun _ _ _ h _ => h
    · exact fun _ _ _ h _ => h
    · exact fun _ _ _ h _ => h
    · exact fun _ _ _ h _ => h
    · exact fun _ _ _ h _ => h
    · exact fun _ _ _ h _ => h
    · exact fun _ _ _ h _ => h
    · exact fun _ _ _ h _ => h
    · exact fun _ _ _ h _ => h
    · exact fun _ _ _ h _ => h
    · exact fun _ _ _ h _ => h
    · exact fun _ _ _ h _ => h
    · exact fun _ _ _ h _ => h
  · (repeat' (first | exact allLt_zero | refine allLt_succ ?_ ?_))
    · intro a w' hf he
      have k0 : a.tmps.getD 0 undef = .pointer (some ⟨kp, 0, none⟩) := hf.var (by kernel_rfl) rfl
      refine wpOp_step rfl (fun K hK => ?_)
      go_simp
      exact hK _ _ ⟨_, rfl, rfl, World.grownBy.refl _ _⟩
    · intro a w' hf he
      have k1 : a.tmps.getD 1 undef = .func (.func 156) #[] #[] := hf.var (by kernel_rfl) rfl
      refine wpOp_step rfl (fun K hK => ?_)
      go_simp
      exact hK _ _ ⟨_, rfl, rfl, World.grownBy.refl _ _⟩
    · intro a w' hf he
      have k0 : a.tmps.getD 0 undef = .pointer (some ⟨kp, 0, none⟩) := hf.var (by kernel_rfl) rfl
      refine wpOp_step rfl (fun K hK => ?_)
      go_simp
      exact hK _ _ ⟨_, rfl, rfl, World.grownBy.refl _ _⟩
    · intro a w' hf he
      have f2 : a.tmps.getD 8 undef = .pointer (some ⟨kp, 0, none⟩) := he 2 (by kernel_rfl)
      refine wpOp_step rfl (fun K hK => ?_)
      go_simp
      exact hK _ _ ⟨_, rfl, rfl, World.grownBy.refl _ _⟩
    · intro a w' hf he
      have f3 : a.tmps.getD 9 undef = .pointer (some ⟨kp, 0, none⟩) := he 3 (by kernel_rfl)
      refine wpOp_step rfl (fun K hK => ?_)
      go_simp
      exact hK _ _ ⟨_, rfl, rfl, World.grownBy.refl _ _⟩
    · intro a w' hf he
      have f4 : a.tmps.getD 10 undef = .pointer (some ⟨kp, 1, none⟩) := he 4 (by kernel_rfl)
      rw [show kindRow _ _ = none from by kernel_rfl] at hf
      have hk := (H.out.bel hf.bel).kee
      have dd : w'.cell? ⟨kp, 1, none⟩ = some (.int .i64 miss) := by simp [World.cell?, hk]
      clear hk
      refine wpOp_step rfl (fun K hK => ?_)
      go_simp
      exact hK _ _ ⟨_, rfl, rfl, World.grownBy.refl _ _⟩
    · intro a w' hf he
      have f1 : a.tmps.getD 7 undef = .func (.func 156) #[] #[] := he 1 (by kernel_rfl)
      have f5 : a.tmps.getD 11 undef = .int .i64 miss := he 5 (by kernel_rfl)
      rw [show kindRow _ _ = none from by kernel_rfl] at hf
      refine wpOp_step rfl (fun K hK => ?_)
      go_simp
      refine (c_Heard1 _ _).mono ?_
      rintro e w2 ⟨rfl, rfl⟩
      exact hK _ _ ⟨_, rfl, rfl, World.grownBy.refl _ _⟩
    · intro a w' hf he
      have k0 : a.tmps.getD 0 undef = .pointer (some ⟨kp, 0, none⟩) := hf.var (by kernel_rfl) rfl
      refine wpOp_step rfl (fun K hK => ?_)
      go_simp
      exact hK _ _ ⟨_, rfl, rfl, World.grownBy.refl _ _⟩
    · intro a w' hf he
      have f7 : a.tmps.getD 13 undef = .pointer (some ⟨kp, 0, none⟩) := he 7 (by kernel_rfl)
      refine wpOp_step rfl (fun K hK => ?_)
      go_simp
      exact hK _ _ ⟨_, rfl, rfl, World.grownBy.refl _ _⟩
    · intro a w' hf he
      have f8 : a.tmps.getD 14 undef = .pointer (some ⟨kp, 0, none⟩) := he 8 (by kernel_rfl)
      refine wpOp_step rfl (fun K hK => ?_)
      go_simp
      exact hK _ _ ⟨_, rfl, rfl, World.grownBy.refl _ _⟩
    · intro a w' hf he
      have f9 : a.tmps.getD 15 undef = .pointer (some ⟨kp, 0, none⟩) := he 9 (by kernel_rfl)
      rw [show kindRow _ _ = none from by kernel_rfl] at hf
      have hk := (H.out.bel hf.bel).kee
      have dd : w'.cell? ⟨kp, 0, none⟩ = some (.int .i64 lim) := by simp [World.cell?, hk]
      clear hk
      refine wpOp_step rfl (fun K hK => ?_)
      go_simp
      exact hK _ _ ⟨_, rfl, rfl, World.grownBy.refl _ _⟩
    · intro a w' hf he
      have f6 : a.tmps.getD 12 undef = .int .i64 0 := he 6 (by kernel_rfl)
      have f10 : a.tmps.getD 16 undef = .int .i64 lim := he 10 (by kernel_rfl)
      rw [show kindRow _ _ = none from by kernel_rfl] at hf
      have hlt0 : ¬ lim < 0 := by omega
      refine wpOp_step rfl (fun K hK => ?_)
      go_simp
      exact hK _ _ ⟨_, rfl, rfl, World.grownBy.refl _ _⟩
    · intro a w' hf he
      have f0 : a.tmps.getD 6 undef = .pointer (some ⟨kp, 0, none⟩) := he 0 (by kernel_rfl)
      refine wpOp_step rfl (fun K hK => ?_)
      go_simp
      exact hK _ _ ⟨_, rfl, rfl, World.grownBy.refl _ _⟩
    · intro a w' hf he
      have f12 : a.tmps.getD 18 undef = .pointer (some ⟨kp, 0, none⟩) := he 12 (by kernel_rfl)
      refine wpOp_step rfl (fun K hK => ?_)
      go_simp
      exact hK _ _ ⟨_, rfl, rfl, World.grownBy.refl _ _⟩
  · intro a w' hf he
    obtain ⟨u6, f0⟩ : ∃ u, a.tmps.getD 6 undef = u := ⟨_, rfl⟩
    obtain ⟨u7, f1⟩ : ∃ u, a.tmps.getD 7 undef = u := ⟨_, rfl⟩
    obtain ⟨u8, f2⟩ : ∃ u, a.tmps.getD 8 undef = u := ⟨_, rfl⟩
    obtain ⟨u9, f3⟩ : ∃ u, a.tmps.getD 9 undef = u := ⟨_, rfl⟩
    obtain ⟨u10, f4⟩ : ∃ u, a.tmps.getD 10 undef = u := ⟨_, rfl⟩
    obtain ⟨u11, f5⟩ : ∃ u, a.tmps.getD 11 undef = u := ⟨_, rfl⟩
    obtain ⟨u12, f6⟩ : ∃ u, a.tmps.getD 12 undef = u := ⟨_, rfl⟩
    obtain ⟨u13, f7⟩ : ∃ u, a.tmps.getD 13 undef = u := ⟨_, rfl⟩
    obtain ⟨u14, f8⟩ : ∃ u, a.tmps.getD 14 undef = u := ⟨_, rfl⟩
    obtain ⟨u15, f9⟩ : ∃ u, a.tmps.getD 15 undef = u := ⟨_, rfl⟩
    obtain ⟨u16, f10⟩ : ∃ u, a.tmps.getD 16 undef = u := ⟨_, rfl⟩
    have f11 : a.tmps.getD 17 undef = .int .i64 0 := he 11 (by decide)
    obtain ⟨u18, f12⟩ : ∃ u, a.tmps.getD 18 undef = u := ⟨_, rfl⟩
    have f13 : a.tmps.getD 19 undef = .pointer (some ⟨kp, 1, none⟩) := he 13 (by decide)
    have hlit := hf.lit ((6, u6) :: (7, u7) :: (8, u8) :: (9, u9) :: (10, u10) :: (11, u11) :: (12, u12) :: (13, u13) :: (14, u14) :: (15, u15) :: (16, u16) :: (17, .int .i64 0) :: (18, u18) :: (19, .pointer (some ⟨kp, 1, none⟩)) :: []) (by kernel_rfl) ⟨f0, f1, f2, f3, f4, f5, f6, f7, f8, f9, f10, f11, f12, f13, trivial⟩
    have hB := hf.bel
    clear he hf f0 f1 f2 f3 f4 f5 f6 f7 f8 f9 f10 f11 f12 f13 
    subst hlit
    simp only [putAll_nil, putAll_cons, Act.put, List.setIfInBounds_toArray, List.set_cons_zero, List.set_cons_succ]
    simp only [List.drop_succ_cons, List.drop_zero]
    have hk := (H.out.bel hB).kee
    have dd : w'.cell? ⟨kp, 1, none⟩ = some (.int .i64 miss) := by simp [World.cell?, hk]
    have hz : w'.frozen? ⟨kp, 1, none⟩ = false := by simp [World.frozen?, hk]
    have h6 := heap_setCell_same w' kp 1 _ _ (.int .i64 0) hk
    have HF := Lib.hid (Fr.of_bel (S := fun k => k = kp) hB)
    clear hB
    have h7 : (w'.setCell ⟨kp, 1, none⟩ (.int .i64 0)).heap[kp]? = some (.cells #[.int .i64 lim, .int .i64 0] 255 (0, 0)) := by simpa using h6
    have H7 := Lib.hid h7
    clear hk h6 h7
    go_wp2_with fail
    refine bodyPost_end (results_none rfl _ _ _) rfl ?_
    exact ⟨rfl, H7.out, HF.out.trans (Fr.setCell (S := fun k => k = kp) (p := ⟨kp, 1, none⟩) rfl _) (fun _ _ e => e)⟩
theorem c_Heard (h : Se w S ob ib kp my peer win lim miss) (hl : 0 < lim) : Calls Try.prog 104 #[.pointer (some ⟨kp, 0, none⟩)] w fun e w' => e = .returned (.tuple #[]) ∧ w'.heap[kp]? = some (.cells #[.int .i64 lim, .int .i64 0] 255 (0, 0)) ∧ Fr (fun k => k = kp) w w' := by
  have H := Lib.hid h
  clear h
  go_enter Try.func104, Try.ntmps104
  go_wp2_with (first
    | (go_at_call 155
       refine (c_turn0 H.out hl).mono ?_
       rintro e w2 ⟨rfl, h2, f2⟩))
  refine bodyPost_end (results_none rfl _ _ _) rfl ?_
  exact ⟨rfl, h2, f2⟩
theorem c_meets (h : Se w S ob ib kp my peer win lim miss) (hw : 1 ≤ win ∧ win ≤ 64) (hl : 0 < lim) (p2 : Int) : Calls Try.prog 101 #[.pointer (some ⟨S, 0, none⟩), .int .u32 p2] w fun e w' => e = .returned (.tuple #[]) ∧ (∃ ob2 ib2, Se w' S ob2 ib2 kp my p2 win lim 0) ∧ Fr (fun k => k = S ∨ k = kp) w w' := by
  obtain ⟨c0, c1, c2, c3, c4, c5⟩ := h.cells
  have H := Lib.hid h
  have hlt := heap_lt h.blk
  have HKlt := Lib.hid (heap_lt h.kee)
  clear h
  go_enter Try.func101, Try.ntmps101
  go_upto_region 1 with (first
    | (go_at_call 120
       (with_reducible refine (c_fresh win hw _).mono ?_)
       rintro e w1 ⟨⟨ob2, ib2, rfl, hi, hi2, hi3⟩, hb1⟩
       have HI := Lib.hid hi
       have HI2 := Lib.hid hi2
       have H := Lib.hid (H.out.bel hb1)
       have HB := Lib.hid hb1
       have HX := Lib.hid (heap_alloc_new w1 (.cells #[.pointer none, .pointer none] 99))
       have HXB := Lib.hid ((Below.refl w1.heap.size w1).alloc (Nat.le_refl _) (.cells #[.pointer none, .pointer none] 99))
       clear hi hb1 hi2 c0 c1 c2 c3 c4 c5)
    | (refine wpL_store_all rfl rfl 99 (.tmp 4) (.tmp 12) rfl _ rfl _ rfl _ _ HX.out (by kernel_rfl) rfl (by simp [Value.oneCell']) ?_
       intro w2 x2 g2
       have hb2 := HXB.out.grown g2 HXB.out.size (by rintro k ⟨⟩; exact Nat.le_refl _)
       have HX2 := Lib.hid x2
       have HI := Lib.hid ((hb2.block _ (heap_lt HI.out)).trans HI.out)
       have H := Lib.hid (H.out.bel hb2)
       have HBs := Lib.hid HB.out.size
       have HB := Lib.hid (HB.out.trans (hb2.mono HB.out.size))
       clear x2 g2 hb2 HX HXB))
  refine wp_region_rel (by kernel_rfl) 7 (frG_ok S) (fun i_ => match i_ with | 6 => true | _ => false) (fun i_ v wz => match i_ with
    | 0 => v = .pointer (some ⟨S, 0, none⟩)
    | 1 => v = .pointer (some ⟨S, 0, none⟩)
    | 2 => v = .int .u32 p2
    | 3 => v = .agg #[.pointer (some ⟨ob2, 0, none⟩), .pointer (some ⟨ib2, 0, none⟩)]
    | 4 => v = .pointer (some ⟨S, 0, none⟩)
    | 5 => v = .pointer (some ⟨S, 1, none⟩)
    | 6 => wz.heap[S]? = some (.cells #[.int .u32 my, .int .u32 p2, .int .i64 win, .pointer (some ⟨ob, 0, none⟩), .pointer (some ⟨ib, 0, none⟩), .pointer (some ⟨kp, 0, none⟩)] 102 (0, 0))
    | _ => True) (by kernel_rfl) ?_ ?_ ?_
  · (repeat' (first | exact allLt_zero | refine allLt_succ ?_ ?_))
    · exact fun _ _ _ h _ => h
    · exact fun _ _ _ h _ => h
    · exact fun _ _ _ h _ => h
    · exact fun _ _ _ h _ => h
    · exact fun _ _ _ h _ => h
    · exact fun _ _ _ h _ => h
    · intro v w1 w2 h hg
      rw [show (!clsB _ _ _ _) = false from by kernel_rfl] at hg
      rw [(show Still w1 w2 from hg).heap]
      exact h
  · (repeat' (first | exact allLt_zero | refine allLt_succ ?_ ?_))
    · intro a w' hf he
      have k0 : a.tmps.getD 0 undef = .pointer (some ⟨S, 0, none⟩) := hf.var (by kernel_rfl) rfl
      refine wpOp_step rfl (fun K hK => ?_)
      go_simp
      exact hK _ _ ⟨_, rfl, rfl, (frG_ok S).refl _ _⟩
    · intro a w' hf he
      have k0 : a.tmps.getD 0 undef = .pointer (some ⟨S, 0, none⟩) := hf.var (by kernel_rfl) rfl
      refine wpOp_step rfl (fun K hK => ?_)
      go_simp
      exact hK _ _ ⟨_, rfl, rfl, (frG_ok S).refl _ _⟩
    · intro a w' hf he
      have k1 : a.tmps.getD 1 undef = .int .u32 p2 := hf.var (by kernel_rfl) rfl
      refine wpOp_step rfl (fun K hK => ?_)
      go_simp
      exact hK _ _ ⟨_, rfl, rfl, (frG_ok S).refl _ _⟩
    · intro a w' hf he
      have k4 : a.tmps.getD 4 undef = .pointer (some ⟨w1.heap.size, 0, none⟩) := hf.var (by kernel_rfl) rfl
      rw [show (!preB _ _ _ _) = true from by kernel_rfl] at hf
      have hx := heap_fr HX2.out (frG_fr hf.rel) (by have := HBs.out; omega)
      refine wpOp_step rfl (fun K hK => ?_)
      refine wp_load_rd 99 (.tmp 4) rfl ⟨w1.heap.size, 0, none⟩ k4 [.pointer (some ⟨ob2, 0, none⟩), .pointer (some ⟨ib2, 0, none⟩)] _ ((rd_of_heap (n := 2) hx rfl (by simp [maxLen])).cell _ rfl) Try.underlying99 rfl (by kernel_rfl) ?_
      exact hK _ _ ⟨_, rfl, rfl, (frG_ok S).refl _ _⟩
    · intro a w' hf he
      have f0 : a.tmps.getD 14 undef = .pointer (some ⟨S, 0, none⟩) := he 0 (by kernel_rfl)
      refine wpOp_step rfl (fun K hK => ?_)
      go_simp
      exact hK _ _ ⟨_, rfl, rfl, (frG_ok S).refl _ _⟩
    · intro a w' hf he
      have f4 : a.tmps.getD 18 undef = .pointer (some ⟨S, 0, none⟩) := he 4 (by kernel_rfl)
      refine wpOp_step rfl (fun K hK => ?_)
      go_simp
      exact hK _ _ ⟨_, rfl, rfl, (frG_ok S).refl _ _⟩
    · intro a w' hf he
      have f5 : a.tmps.getD 19 undef = .pointer (some ⟨S, 1, none⟩) := he 5 (by kernel_rfl)
      have f2 : a.tmps.getD 16 undef = .int .u32 p2 := he 2 (by kernel_rfl)
      rw [show (!preB _ _ _ _) = false from by kernel_rfl] at hf
      have hst : Still _ w' := hf.rel
      have hb0 := (show w'.heap[S]? = w2.heap[S]? from by rw [hst.heap]; rfl).trans H.out.blk
      have dd : w'.cell? ⟨S, 1, none⟩ = some (.int .u32 peer) := by simp [World.cell?, hb0]
      have hz : w'.frozen? ⟨S, 1, none⟩ = false := by simp [World.frozen?, hb0]
      have h6 := heap_setCell_same w' S 1 _ _ (.int .u32 p2) hb0
      refine wpOp_step rfl (fun K hK => ?_)
      go_simp
      have h7 : (w'.setCell ⟨S, 1, none⟩ (.int .u32 p2)).heap[S]? = some (.cells #[.int .u32 my, .int .u32 p2, .int .i64 win, .pointer (some ⟨ob, 0, none⟩), .pointer (some ⟨ib, 0, none⟩), .pointer (some ⟨kp, 0, none⟩)] 102 (0, 0)) := by simpa using h6
      have h8 : Fr (fun k => k = S) w' (w'.setCell ⟨S, 1, none⟩ (.int .u32 p2)) := Fr.setCell (S := fun k => k = S) (p := ⟨S, 1, none⟩) rfl _
      exact hK _ _ ⟨undef, rfl, h7, h8⟩
  · intro a w' hf he
    have f0 : a.tmps.getD 14 undef = .pointer (some ⟨S, 0, none⟩) := he 0 (by decide)
    have f1 : a.tmps.getD 15 undef = .pointer (some ⟨S, 0, none⟩) := he 1 (by decide)
    obtain ⟨u16, f2⟩ : ∃ u, a.tmps.getD 16 undef = u := ⟨_, rfl⟩
    have f3 : a.tmps.getD 17 undef = .agg #[.pointer (some ⟨ob2, 0, none⟩), .pointer (some ⟨ib2, 0, none⟩)] := he 3 (by decide)
    obtain ⟨u18, f4⟩ : ∃ u, a.tmps.getD 18 undef = u := ⟨_, rfl⟩
    obtain ⟨u19, f5⟩ : ∃ u, a.tmps.getD 19 undef = u := ⟨_, rfl⟩
    obtain hr6 := he 6 (by decide)
    have hlit := hf.lit ((14, .pointer (some ⟨S, 0, none⟩)) :: (15, .pointer (some ⟨S, 0, none⟩)) :: (16, u16) :: (17, .agg #[.pointer (some ⟨ob2, 0, none⟩), .pointer (some ⟨ib2, 0, none⟩)]) :: (18, u18) :: (19, u19) :: []) (by kernel_rfl) ⟨f0, f1, f2, f3, f4, f5, trivial⟩
    have hB := hf.rel
    clear he hf f0 f1 f2 f3 f4 f5 
    subst hlit
    simp only [putAll_nil, putAll_cons, Act.put, List.setIfInBounds_toArray, List.set_cons_zero, List.set_cons_succ]
    simp only [List.drop_succ_cons, List.drop_zero]
    have HR6 : Hid (w'.heap[S]? = some (.cells #[.int .u32 my, .int .u32 p2, .int .i64 win, .pointer (some ⟨ob, 0, none⟩), .pointer (some ⟨ib, 0, none⟩), .pointer (some ⟨kp, 0, none⟩)] 102 (0, 0))) := Lib.hid hr6
    have HF6 := Lib.hid (frG_fr hB)
    clear hr6 hB
    go_upto_region 2 with (first
      | (refine wpL_store_in rfl rfl 99 (.tmp 21) (.tmp 17) rfl S 3 rfl [.pointer (some ⟨ob2, 0, none⟩), .pointer (some ⟨ib2, 0, none⟩)] rfl (by kernel_rfl) 102 _ #[.int .u32 my, .int .u32 p2, .int .i64 win, .pointer (some ⟨ob2, 0, none⟩), .pointer (some ⟨ib2, 0, none⟩), .pointer (some ⟨kp, 0, none⟩)] HR6.out (by simp) (by simp [Value.oneCell']) (by simp [splice]) ?_
         intro w8 x8 g8
         have HX8 := Lib.hid x8
         have HF8 := Lib.hid (HF6.out.trans (Fr.grown (S := fun k => k = S) g8 (by rintro k ⟨⟩; rfl)) (fun _ _ e => e))
         clear x8 g8))
    have HX2b := Lib.hid (heap_fr HX2.out HF8.out (by have := HBs.out; omega))
    have hl2 := heap_lt HI.out
    have hSe : Se w8 S ob2 ib2 kp my p2 win lim miss := ⟨HX8.out, heap_fr HI.out HF8.out (by have := HI2.out; omega), heap_fr H.out.kee HF8.out (by have := H.out.ne; omega), by have := HI2.out; have := H.out.ne; have := HKlt.out; omega⟩
    have HSe := Lib.hid hSe
    obtain ⟨c0, c1, c2, c3, c4, c5⟩ := hSe.cells
    clear hSe
    go_wp2_with (first
      | (go_at_call 104
         (with_reducible refine (c_Heard HSe.out hl).mono ?_)
         rintro e w9 ⟨rfl, h9, f9⟩
         have H9 := Lib.hid h9
         have F9 := Lib.hid f9
         clear h9 f9 c0 c1 c2 c3 c4 c5))
    refine bodyPost_end (results_none rfl _ _ _) rfl ?_
    have hn := HSe.out.ne
    refine ⟨rfl, ⟨ob2, ib2, heap_fr HSe.out.blk F9.out (by omega), heap_fr HSe.out.inb F9.out (by omega), H9.out, hn⟩, ?_⟩
    have f1 := Fr.of_bel (S := fun k => k = S ∨ k = kp) HB.out
    have f2 := HF8.out.mono (S1 := fun k => k = S ∨ k = kp) (fun _ _ e => .inl e)
    have f3 := F9.out.mono (S1 := fun k => k = S ∨ k = kp) (fun _ _ e => .inr e)
    exact (f1.trans f2 (fun _ _ e => e)).trans f3 (fun _ _ e => e)
end
end Go.Proofs.Ytplemdgihlabgaa.Session
