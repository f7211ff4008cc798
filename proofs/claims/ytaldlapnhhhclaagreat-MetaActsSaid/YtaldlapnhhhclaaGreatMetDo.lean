/- The law MetaActs: an act at both disks. Conditions: at most 10^9 operations. -/
import Derived.Test.YtaldlapnhhhclaaGreatMetRef
import Derived.Test.YtaldlapnhhhclaaGreatAct3
set_option linter.unusedVariables false
set_option linter.unusedSimpArgs false
namespace Go.Proofs.YtaldlapnhhhclaaGreat.Meta
open Go.RowKit Tw Disk Slots Act3
set_option maxHeartbeats 8000000
set_option maxRecDepth 100000
/-- what an act does to a disk -/
def mdo (D : Dsk) (k a : Int) (m : Nat) : Dsk :=
  if k = 0 then (mstart D).1 else if k = 1 then (mretire D m).1 else if k = 2 then (aput D m).1 else if k = 3 then (dput D m).1 else if k = 4 then D.crash m else if k = 5 then D.setFuse a else D
theorem mstart_ops (d : Dsk) : (mstart d).1.ops ≤ d.ops + 2 := by
  have h := sput_ops d 0 2 (boot d + 1)
  have h2 : (snext d).1.ops ≤ d.ops + 2 := by
    unfold snext
    (repeat' split) <;> first | exact h | exact Nat.le_add_right _ _
  unfold mstart
  split <;> exact h2
theorem mdo_ops (D : Dsk) (k a : Int) (m : Nat) : (mdo D k a m).ops ≤ D.ops + 4 := by
  have h1 := mstart_ops D
  have h2 := mretire_ops D m
  have h3 := rput_ops 2 4 D m
  have h4 := rput_ops 6 2 D m
  unfold mdo aput dput
  (repeat' split) <;> first | omega | exact Nat.le_add_right _ _
section
variable {w w' : World} {p g mb c q r c' : Nat} {D : Dsk}
theorem c_doRetire (h : Pr w p g mb c q r c' D) (ho : D.ops + 3 < 1000000000) (y : Int) (m : Nat) (hm : m < 18446744073709551616) :
    Calls Tryz.prog 37 #[.pointer (some ⟨p, 0, none⟩), .pointer (some ⟨q, 0, none⟩), .agg (actV 1 y m).toArray] w fun e w' => e = .returned (.bool true) ∧ Pr w' p g mb c q r c' (mretire D m).1 ∧ Fr (PS p g mb q r) w w' := by
  have HBa := Lib.hid ((Below.refl w.heap.size w).alloc (Nat.le_refl _) (.cells (actV 1 y m).toArray 79))
  have HX := Lib.hid (heap_alloc_new w (.cells (actV 1 y m).toArray 79))
  have H := Lib.hid (h.bel HBa.out)
  have HF := Lib.hid (Fr.of_bel (S := PS p g mb q r) HBa.out)
  have hdl := h.dk.lts
  have hrl := h.rk.lts
  have hne := h.ne
  clear h
  obtain ⟨e0, e1, e2⟩ := act4 HX.out
  go_enter Tryz.func37, Tryz.ntmps37
  go_upto_region 7 with (fail)
  generalize (w.alloc (.cells (actV 1 y m).toArray 79)) = W1 at *
  refine wp_region_fr (by kernel_rfl) 10 (fun i_ => match i_ with | 3 => 1 | 7 => 2 | _ => 0) (fun c_ => match c_ with | 1 => fun k => k = p ∨ k = g ∨ k = mb | 2 => fun k => k = q ∨ k = r | _ => fun _ => False) (fun i_ => match i_ with | 0 => [1, 2] | 1 => [1, 2] | 2 => [1, 2] | 3 => [2] | 4 => [1, 2] | 5 => [1, 2] | 6 => [1, 2] | _ => []) (fun i_ => match i_ with | 4 => [1] | 5 => [1] | 6 => [1] | 7 => [1] | 8 => [1, 2] | 9 => [1, 2] | _ => []) [1, 2] (fun i_ v wz => match i_ with
    | 0 => v = .pointer (some ⟨p, 0, none⟩)
    | 1 => v = .pointer (some ⟨w.heap.size, 2, none⟩)
    | 2 => v = .int .u64 (m : Int)
    | 3 => v = .int .i64 ((mretire D m).2 : Int) ∧ Dk wz p g mb c (mretire D m).1
    | 4 => v = .pointer (some ⟨q, 0, none⟩)
    | 5 => v = .pointer (some ⟨w.heap.size, 2, none⟩)
    | 6 => v = .int .u64 (m : Int)
    | 7 => v = .int .i64 ((mretire D m).2 : Int) ∧ Rk wz q r c' (mretire D m).1
    | 8 => v = .bool true
    | 9 => v = .bool true
    | _ => True) (by kernel_rfl) (by kernel_rfl) ?_ ?_ ?_
  · (repeat' (first | exact allLt_zero | refine allLt_succ ?_ ?_))
    · exact fun _ _ _ h _ => h
    · exact fun _ _ _ h _ => h
    · exact fun _ _ _ h _ => h
    · intro v w1 w2 h hg
      replace hg : Fr (fun k => (fun k => k = q ∨ k = r) k ∨ False) w1 w2 := hg
      replace hg := hg.un1
      exact ⟨h.1, dkfr hne h.2 hg⟩
    · exact fun _ _ _ h _ => h
    · exact fun _ _ _ h _ => h
    · exact fun _ _ _ h _ => h
    · intro v w1 w2 h hg
      replace hg : Fr (fun k => False) w1 w2 := hg
      exact ⟨h.1, h.2.fr hg (fun e => e) (fun e => e)⟩
    · exact fun _ _ _ h _ => h
    · exact fun _ _ _ h _ => h
  · (repeat' (first | exact allLt_zero | refine allLt_succ ?_ ?_))
    · intro a w' hf he
      have k0 : a.tmps.getD 0 undef = .pointer (some ⟨p, 0, none⟩) := hf.var (by kernel_rfl) rfl
      refine wpOp_step rfl (fun K hK => ?_)
      go_simp
      exact hK _ _ ⟨_, rfl, rfl, Fr.refl _ _⟩
    · intro a w' hf he
      have k5 : a.tmps.getD 5 undef = .pointer (some ⟨w.heap.size, 0, none⟩) := hf.var (by kernel_rfl) rfl
      have hfr : Fr (fun k => False) _ w' := hf.of_start
      refine wpOp_step rfl (fun K hK => ?_)
      go_simp
      exact hK _ _ ⟨_, rfl, rfl, Fr.refl _ _⟩
    · intro a w' hf he
      have f1 : a.tmps.getD 36 undef = .pointer (some ⟨w.heap.size, 2, none⟩) := he 1 (by kernel_rfl)
      have hfr : Fr (fun k => False) _ w' := hf.of_start
      have hx := heap_fr HX.out hfr (by first | exact fun e => e | (intro e; simp only [or_false] at e; omega) | omega)
      have dd := (act4 hx).2.2
      clear hx
      refine wpOp_step rfl (fun K hK => ?_)
      go_simp
      exact hK _ _ ⟨_, rfl, rfl, Fr.refl _ _⟩
    · intro a w' hf he
      have f0 : a.tmps.getD 35 undef = .pointer (some ⟨p, 0, none⟩) := he 0 (by kernel_rfl)
      have f2 : a.tmps.getD 37 undef = .int .u64 (m : Int) := he 2 (by kernel_rfl)
      have hfr : Fr (fun k => False) _ w' := hf.of_start
      have hd := H.out.dk.fr hfr (fun e => e) (fun e => e) (fun e => e)
      refine wpOp_step rfl (fun K hK => ?_)
      go_simp
      refine (c_RetireE hd ho sput_ops m hm).mono ?_
      rintro e w2 ⟨rfl, hk2, f2⟩
      exact hK _ _ ⟨_, rfl, ⟨rfl, hk2⟩, f2.mono (fun k _ e => .inl e)⟩
    · intro a w' hf he
      have k1 : a.tmps.getD 1 undef = .pointer (some ⟨q, 0, none⟩) := hf.var (by kernel_rfl) rfl
      refine wpOp_step rfl (fun K hK => ?_)
      go_simp
      exact hK _ _ ⟨_, rfl, rfl, Fr.refl _ _⟩
    · intro a w' hf he
      have k5 : a.tmps.getD 5 undef = .pointer (some ⟨w.heap.size, 0, none⟩) := hf.var (by kernel_rfl) rfl
      have hfr : Fr (fun k => (fun k => k = p ∨ k = g ∨ k = mb) k ∨ False) _ w' := hf.of_start
      replace hfr := hfr.un1
      refine wpOp_step rfl (fun K hK => ?_)
      go_simp
      exact hK _ _ ⟨_, rfl, rfl, Fr.refl _ _⟩
    · intro a w' hf he
      have f5 : a.tmps.getD 40 undef = .pointer (some ⟨w.heap.size, 2, none⟩) := he 5 (by kernel_rfl)
      have hfr : Fr (fun k => (fun k => k = p ∨ k = g ∨ k = mb) k ∨ False) _ w' := hf.of_start
      replace hfr := hfr.un1
      have hx := heap_fr HX.out hfr (by first | exact fun e => e | (intro e; simp only [or_false] at e; omega) | omega)
      have dd := (act4 hx).2.2
      clear hx
      refine wpOp_step rfl (fun K hK => ?_)
      go_simp
      exact hK _ _ ⟨_, rfl, rfl, Fr.refl _ _⟩
    · intro a w' hf he
      have f4 : a.tmps.getD 39 undef = .pointer (some ⟨q, 0, none⟩) := he 4 (by kernel_rfl)
      have f6 : a.tmps.getD 41 undef = .int .u64 (m : Int) := he 6 (by kernel_rfl)
      have hfr : Fr (fun k => (fun k => k = p ∨ k = g ∨ k = mb) k ∨ False) _ w' := hf.of_start
      replace hfr := hfr.un1
      have hd := rkfr hne H.out.rk hfr
      refine wpOp_step rfl (fun K hK => ?_)
      go_simp
      refine (r_Retire hd ho sput_ops m hm).mono ?_
      rintro e w2 ⟨rfl, hk2, f2⟩
      exact hK _ _ ⟨_, rfl, ⟨rfl, hk2⟩, f2.mono (fun k _ e => .inl e)⟩
    · intro a w' hf he
      obtain ⟨hv3, hk3⟩ := he 3 (by kernel_rfl)
      have f3 : a.tmps.getD 38 undef = _ := hv3
      obtain ⟨hv7, hk7⟩ := he 7 (by kernel_rfl)
      have f7 : a.tmps.getD 42 undef = _ := hv7
      have hfr : Fr (fun k => (fun k => k = p ∨ k = g ∨ k = mb) k ∨ (fun k => k = q ∨ k = r) k ∨ False) _ w' := hf.of_start
      refine wpOp_step rfl (fun K hK => ?_)
      go_simp
      exact hK _ _ ⟨_, rfl, rfl, Fr.refl _ _⟩
    · intro a w' hf he
      have f8 : a.tmps.getD 43 undef = .bool true := he 8 (by kernel_rfl)
      refine wpOp_step rfl (fun K hK => ?_)
      go_simp
      exact hK _ _ ⟨_, rfl, rfl, Fr.refl _ _⟩
  · intro a w' hf he
    obtain ⟨u35, f0⟩ : ∃ u, a.tmps.getD 35 undef = u := ⟨_, rfl⟩
    obtain ⟨u36, f1⟩ : ∃ u, a.tmps.getD 36 undef = u := ⟨_, rfl⟩
    obtain ⟨u37, f2⟩ : ∃ u, a.tmps.getD 37 undef = u := ⟨_, rfl⟩
    obtain ⟨hv3, hk3⟩ := he 3 (by decide)
    have f3 : a.tmps.getD 38 undef = _ := hv3
    obtain ⟨u39, f4⟩ : ∃ u, a.tmps.getD 39 undef = u := ⟨_, rfl⟩
    obtain ⟨u40, f5⟩ : ∃ u, a.tmps.getD 40 undef = u := ⟨_, rfl⟩
    obtain ⟨u41, f6⟩ : ∃ u, a.tmps.getD 41 undef = u := ⟨_, rfl⟩
    obtain ⟨hv7, hk7⟩ := he 7 (by decide)
    have f7 : a.tmps.getD 42 undef = _ := hv7
    obtain ⟨u43, f8⟩ : ∃ u, a.tmps.getD 43 undef = u := ⟨_, rfl⟩
    have f9 : a.tmps.getD 6 undef = .bool true := he 9 (by decide)
    have hlit := hf.lit ((35, u35) :: (36, u36) :: (37, u37) :: (38, _) :: (39, u39) :: (40, u40) :: (41, u41) :: (42, _) :: (43, u43) :: (6, .bool true) :: []) (by kernel_rfl) ⟨f0, f1, f2, f3, f4, f5, f6, f7, f8, f9, trivial⟩
    have hB : Fr (fun k => (fun k => k = p ∨ k = g ∨ k = mb) k ∨ (fun k => k = q ∨ k = r) k ∨ False) _ w' := hf.of_start
    clear he hf f0 f1 f2 f3 f4 f5 f6 f7 f8 f9 hv3 hv7
    subst hlit
    simp only [putAll_nil, putAll_cons, Act.put, List.setIfInBounds_toArray, List.set_cons_zero, List.set_cons_succ]
    simp only [List.drop_succ_cons, List.drop_zero]
    go_wp2_with fail
    refine bodyPost_ret (results_tmp rfl _ _ _) rfl ?_
    exact ⟨rfl, ⟨hk3, hk7, hne⟩, HF.out.trans hB (fun k _ e => by simp only [or_false] at e; exact e)⟩
theorem c_doLog (h : Pr w p g mb c q r c' D) (ho : D.ops + 3 < 1000000000) (y : Int) (m : Nat) (hm : m < 18446744073709551616) :
    Calls Tryz.prog 37 #[.pointer (some ⟨p, 0, none⟩), .pointer (some ⟨q, 0, none⟩), .agg (actV 2 y m).toArray] w fun e w' => e = .returned (.bool true) ∧ Pr w' p g mb c q r c' (aput D m).1 ∧ Fr (PS p g mb q r) w w' := by
  have HBa := Lib.hid ((Below.refl w.heap.size w).alloc (Nat.le_refl _) (.cells (actV 2 y m).toArray 79))
  have HX := Lib.hid (heap_alloc_new w (.cells (actV 2 y m).toArray 79))
  have H := Lib.hid (h.bel HBa.out)
  have HF := Lib.hid (Fr.of_bel (S := PS p g mb q r) HBa.out)
  have hdl := h.dk.lts
  have hrl := h.rk.lts
  have hne := h.ne
  clear h
  obtain ⟨e0, e1, e2⟩ := act4 HX.out
  go_enter Tryz.func37, Tryz.ntmps37
  go_upto_region 9 with (fail)
  generalize (w.alloc (.cells (actV 2 y m).toArray 79)) = W1 at *
  refine wp_region_fr (by kernel_rfl) 10 (fun i_ => match i_ with | 3 => 1 | 7 => 2 | _ => 0) (fun c_ => match c_ with | 1 => fun k => k = p ∨ k = g ∨ k = mb | 2 => fun k => k = q ∨ k = r | _ => fun _ => False) (fun i_ => match i_ with | 0 => [1, 2] | 1 => [1, 2] | 2 => [1, 2] | 3 => [2] | 4 => [1, 2] | 5 => [1, 2] | 6 => [1, 2] | _ => []) (fun i_ => match i_ with | 4 => [1] | 5 => [1] | 6 => [1] | 7 => [1] | 8 => [1, 2] | 9 => [1, 2] | _ => []) [1, 2] (fun i_ v wz => match i_ with
    | 0 => v = .pointer (some ⟨p, 0, none⟩)
    | 1 => v = .pointer (some ⟨w.heap.size, 2, none⟩)
    | 2 => v = .int .u64 (m : Int)
    | 3 => v = .int .i64 ((aput D m).2 : Int) ∧ Dk wz p g mb c (aput D m).1
    | 4 => v = .pointer (some ⟨q, 0, none⟩)
    | 5 => v = .pointer (some ⟨w.heap.size, 2, none⟩)
    | 6 => v = .int .u64 (m : Int)
    | 7 => v = .int .i64 ((aput D m).2 : Int) ∧ Rk wz q r c' (aput D m).1
    | 8 => v = .bool true
    | 9 => v = .bool true
    | _ => True) (by kernel_rfl) (by kernel_rfl) ?_ ?_ ?_
  · (repeat' (first | exact allLt_zero | refine allLt_succ ?_ ?_))
    · exact fun _ _ _ h _ => h
    · exact fun _ _ _ h _ => h
    · exact fun _ _ _ h _ => h
    · intro v w1 w2 h hg
      replace hg : Fr (fun k => (fun k => k = q ∨ k = r) k ∨ False) w1 w2 := hg
      replace hg := hg.un1
      exact ⟨h.1, dkfr hne h.2 hg⟩
    · exact fun _ _ _ h _ => h
    · exact fun _ _ _ h _ => h
    · exact fun _ _ _ h _ => h
    · intro v w1 w2 h hg
      replace hg : Fr (fun k => False) w1 w2 := hg
      exact ⟨h.1, h.2.fr hg (fun e => e) (fun e => e)⟩
    · exact fun _ _ _ h _ => h
    · exact fun _ _ _ h _ => h
  · (repeat' (first | exact allLt_zero | refine allLt_succ ?_ ?_))
    · intro a w' hf he
      have k0 : a.tmps.getD 0 undef = .pointer (some ⟨p, 0, none⟩) := hf.var (by kernel_rfl) rfl
      refine wpOp_step rfl (fun K hK => ?_)
      go_simp
      exact hK _ _ ⟨_, rfl, rfl, Fr.refl _ _⟩
    · intro a w' hf he
      have k5 : a.tmps.getD 5 undef = .pointer (some ⟨w.heap.size, 0, none⟩) := hf.var (by kernel_rfl) rfl
      have hfr : Fr (fun k => False) _ w' := hf.of_start
      refine wpOp_step rfl (fun K hK => ?_)
      go_simp
      exact hK _ _ ⟨_, rfl, rfl, Fr.refl _ _⟩
    · intro a w' hf he
      have f1 : a.tmps.getD 47 undef = .pointer (some ⟨w.heap.size, 2, none⟩) := he 1 (by kernel_rfl)
      have hfr : Fr (fun k => False) _ w' := hf.of_start
      have hx := heap_fr HX.out hfr (by first | exact fun e => e | (intro e; simp only [or_false] at e; omega) | omega)
      have dd := (act4 hx).2.2
      clear hx
      refine wpOp_step rfl (fun K hK => ?_)
      go_simp
      exact hK _ _ ⟨_, rfl, rfl, Fr.refl _ _⟩
    · intro a w' hf he
      have f0 : a.tmps.getD 46 undef = .pointer (some ⟨p, 0, none⟩) := he 0 (by kernel_rfl)
      have f2 : a.tmps.getD 48 undef = .int .u64 (m : Int) := he 2 (by kernel_rfl)
      have hfr : Fr (fun k => False) _ w' := hf.of_start
      have hd := H.out.dk.fr hfr (fun e => e) (fun e => e) (fun e => e)
      refine wpOp_step rfl (fun K hK => ?_)
      go_simp
      refine (Actlog.c_PutE hd (by omega) _ m rfl hm).mono ?_
      rintro e w2 ⟨rfl, hk2, f2⟩
      exact hK _ _ ⟨_, rfl, ⟨rfl, hk2⟩, f2.mono (fun k _ e => .inl e)⟩
    · intro a w' hf he
      have k1 : a.tmps.getD 1 undef = .pointer (some ⟨q, 0, none⟩) := hf.var (by kernel_rfl) rfl
      refine wpOp_step rfl (fun K hK => ?_)
      go_simp
      exact hK _ _ ⟨_, rfl, rfl, Fr.refl _ _⟩
    · intro a w' hf he
      have k5 : a.tmps.getD 5 undef = .pointer (some ⟨w.heap.size, 0, none⟩) := hf.var (by kernel_rfl) rfl
      have hfr : Fr (fun k => (fun k => k = p ∨ k = g ∨ k = mb) k ∨ False) _ w' := hf.of_start
      replace hfr := hfr.un1
      refine wpOp_step rfl (fun K hK => ?_)
      go_simp
      exact hK _ _ ⟨_, rfl, rfl, Fr.refl _ _⟩
    · intro a w' hf he
      have f5 : a.tmps.getD 51 undef = .pointer (some ⟨w.heap.size, 2, none⟩) := he 5 (by kernel_rfl)
      have hfr : Fr (fun k => (fun k => k = p ∨ k = g ∨ k = mb) k ∨ False) _ w' := hf.of_start
      replace hfr := hfr.un1
      have hx := heap_fr HX.out hfr (by first | exact fun e => e | (intro e; simp only [or_false] at e; omega) | omega)
      have dd := (act4 hx).2.2
      clear hx
      refine wpOp_step rfl (fun K hK => ?_)
      go_simp
      exact hK _ _ ⟨_, rfl, rfl, Fr.refl _ _⟩
    · intro a w' hf he
      have f4 : a.tmps.getD 50 undef = .pointer (some ⟨q, 0, none⟩) := he 4 (by kernel_rfl)
      have f6 : a.tmps.getD 52 undef = .int .u64 (m : Int) := he 6 (by kernel_rfl)
      have hfr : Fr (fun k => (fun k => k = p ∨ k = g ∨ k = mb) k ∨ False) _ w' := hf.of_start
      replace hfr := hfr.un1
      have hd := rkfr hne H.out.rk hfr
      refine wpOp_step rfl (fun K hK => ?_)
      go_simp
      refine (r_aPut hd (by omega) m hm).mono ?_
      rintro e w2 ⟨rfl, hk2, f2⟩
      exact hK _ _ ⟨_, rfl, ⟨rfl, hk2⟩, f2.mono (fun k _ e => .inl e)⟩
    · intro a w' hf he
      obtain ⟨hv3, hk3⟩ := he 3 (by kernel_rfl)
      have f3 : a.tmps.getD 49 undef = _ := hv3
      obtain ⟨hv7, hk7⟩ := he 7 (by kernel_rfl)
      have f7 : a.tmps.getD 53 undef = _ := hv7
      have hfr : Fr (fun k => (fun k => k = p ∨ k = g ∨ k = mb) k ∨ (fun k => k = q ∨ k = r) k ∨ False) _ w' := hf.of_start
      refine wpOp_step rfl (fun K hK => ?_)
      go_simp
      exact hK _ _ ⟨_, rfl, rfl, Fr.refl _ _⟩
    · intro a w' hf he
      have f8 : a.tmps.getD 54 undef = .bool true := he 8 (by kernel_rfl)
      refine wpOp_step rfl (fun K hK => ?_)
      go_simp
      exact hK _ _ ⟨_, rfl, rfl, Fr.refl _ _⟩
  · intro a w' hf he
    obtain ⟨u46, f0⟩ : ∃ u, a.tmps.getD 46 undef = u := ⟨_, rfl⟩
    obtain ⟨u47, f1⟩ : ∃ u, a.tmps.getD 47 undef = u := ⟨_, rfl⟩
    obtain ⟨u48, f2⟩ : ∃ u, a.tmps.getD 48 undef = u := ⟨_, rfl⟩
    obtain ⟨hv3, hk3⟩ := he 3 (by decide)
    have f3 : a.tmps.getD 49 undef = _ := hv3
    obtain ⟨u50, f4⟩ : ∃ u, a.tmps.getD 50 undef = u := ⟨_, rfl⟩
    obtain ⟨u51, f5⟩ : ∃ u, a.tmps.getD 51 undef = u := ⟨_, rfl⟩
    obtain ⟨u52, f6⟩ : ∃ u, a.tmps.getD 52 undef = u := ⟨_, rfl⟩
    obtain ⟨hv7, hk7⟩ := he 7 (by decide)
    have f7 : a.tmps.getD 53 undef = _ := hv7
    obtain ⟨u54, f8⟩ : ∃ u, a.tmps.getD 54 undef = u := ⟨_, rfl⟩
    have f9 : a.tmps.getD 6 undef = .bool true := he 9 (by decide)
    have hlit := hf.lit ((46, u46) :: (47, u47) :: (48, u48) :: (49, _) :: (50, u50) :: (51, u51) :: (52, u52) :: (53, _) :: (54, u54) :: (6, .bool true) :: []) (by kernel_rfl) ⟨f0, f1, f2, f3, f4, f5, f6, f7, f8, f9, trivial⟩
    have hB : Fr (fun k => (fun k => k = p ∨ k = g ∨ k = mb) k ∨ (fun k => k = q ∨ k = r) k ∨ False) _ w' := hf.of_start
    clear he hf f0 f1 f2 f3 f4 f5 f6 f7 f8 f9 hv3 hv7
    subst hlit
    simp only [putAll_nil, putAll_cons, Act.put, List.setIfInBounds_toArray, List.set_cons_zero, List.set_cons_succ]
    simp only [List.drop_succ_cons, List.drop_zero]
    go_wp2_with fail
    refine bodyPost_ret (results_tmp rfl _ _ _) rfl ?_
    exact ⟨rfl, ⟨hk3, hk7, hne⟩, HF.out.trans hB (fun k _ e => by simp only [or_false] at e; exact e)⟩
theorem c_doMap (h : Pr w p g mb c q r c' D) (ho : D.ops + 3 < 1000000000) (y : Int) (m : Nat) (hm : m < 18446744073709551616) :
    Calls Tryz.prog 37 #[.pointer (some ⟨p, 0, none⟩), .pointer (some ⟨q, 0, none⟩), .agg (actV 3 y m).toArray] w fun e w' => e = .returned (.bool true) ∧ Pr w' p g mb c q r c' (dput D m).1 ∧ Fr (PS p g mb q r) w w' := by
  have HBa := Lib.hid ((Below.refl w.heap.size w).alloc (Nat.le_refl _) (.cells (actV 3 y m).toArray 79))
  have HX := Lib.hid (heap_alloc_new w (.cells (actV 3 y m).toArray 79))
  have H := Lib.hid (h.bel HBa.out)
  have HF := Lib.hid (Fr.of_bel (S := PS p g mb q r) HBa.out)
  have hdl := h.dk.lts
  have hrl := h.rk.lts
  have hne := h.ne
  clear h
  obtain ⟨e0, e1, e2⟩ := act4 HX.out
  go_enter Tryz.func37, Tryz.ntmps37
  go_upto_region 11 with (fail)
  generalize (w.alloc (.cells (actV 3 y m).toArray 79)) = W1 at *
  refine wp_region_fr (by kernel_rfl) 10 (fun i_ => match i_ with | 3 => 1 | 7 => 2 | _ => 0) (fun c_ => match c_ with | 1 => fun k => k = p ∨ k = g ∨ k = mb | 2 => fun k => k = q ∨ k = r | _ => fun _ => False) (fun i_ => match i_ with | 0 => [1, 2] | 1 => [1, 2] | 2 => [1, 2] | 3 => [2] | 4 => [1, 2] | 5 => [1, 2] | 6 => [1, 2] | _ => []) (fun i_ => match i_ with | 4 => [1] | 5 => [1] | 6 => [1] | 7 => [1] | 8 => [1, 2] | 9 => [1, 2] | _ => []) [1, 2] (fun i_ v wz => match i_ with
    | 0 => v = .pointer (some ⟨p, 0, none⟩)
    | 1 => v = .pointer (some ⟨w.heap.size, 2, none⟩)
    | 2 => v = .int .u64 (m : Int)
    | 3 => v = .int .i64 ((dput D m).2 : Int) ∧ Dk wz p g mb c (dput D m).1
    | 4 => v = .pointer (some ⟨q, 0, none⟩)
    | 5 => v = .pointer (some ⟨w.heap.size, 2, none⟩)
    | 6 => v = .int .u64 (m : Int)
    | 7 => v = .int .i64 ((dput D m).2 : Int) ∧ Rk wz q r c' (dput D m).1
    | 8 => v = .bool true
    | 9 => v = .bool true
    | _ => True) (by kernel_rfl) (by kernel_rfl) ?_ ?_ ?_
  · (repeat' (first | exact allLt_zero | refine allLt_succ ?_ ?_))
    · exact fun _ _ _ h _ => h
    · exact fun _ _ _ h _ => h
    · exact fun _ _ _ h _ => h
    · intro v w1 w2 h hg
      replace hg : Fr (fun k => (fun k => k = q ∨ k = r) k ∨ False) w1 w2 := hg
      replace hg := hg.un1
      exact ⟨h.1, dkfr hne h.2 hg⟩
    · exact fun _ _ _ h _ => h
    · exact fun _ _ _ h _ => h
    · exact fun _ _ _ h _ => h
    · intro v w1 w2 h hg
      replace hg : Fr (fun k => False) w1 w2 := hg
      exact ⟨h.1, h.2.fr hg (fun e => e) (fun e => e)⟩
    · exact fun _ _ _ h _ => h
    · exact fun _ _ _ h _ => h
  · (repeat' (first | exact allLt_zero | refine allLt_succ ?_ ?_))
    · intro a w' hf he
      have k0 : a.tmps.getD 0 undef = .pointer (some ⟨p, 0, none⟩) := hf.var (by kernel_rfl) rfl
      refine wpOp_step rfl (fun K hK => ?_)
      go_simp
      exact hK _ _ ⟨_, rfl, rfl, Fr.refl _ _⟩
    · intro a w' hf he
      have k5 : a.tmps.getD 5 undef = .pointer (some ⟨w.heap.size, 0, none⟩) := hf.var (by kernel_rfl) rfl
      have hfr : Fr (fun k => False) _ w' := hf.of_start
      refine wpOp_step rfl (fun K hK => ?_)
      go_simp
      exact hK _ _ ⟨_, rfl, rfl, Fr.refl _ _⟩
    · intro a w' hf he
      have f1 : a.tmps.getD 58 undef = .pointer (some ⟨w.heap.size, 2, none⟩) := he 1 (by kernel_rfl)
      have hfr : Fr (fun k => False) _ w' := hf.of_start
      have hx := heap_fr HX.out hfr (by first | exact fun e => e | (intro e; simp only [or_false] at e; omega) | omega)
      have dd := (act4 hx).2.2
      clear hx
      refine wpOp_step rfl (fun K hK => ?_)
      go_simp
      exact hK _ _ ⟨_, rfl, rfl, Fr.refl _ _⟩
    · intro a w' hf he
      have f0 : a.tmps.getD 57 undef = .pointer (some ⟨p, 0, none⟩) := he 0 (by kernel_rfl)
      have f2 : a.tmps.getD 59 undef = .int .u64 (m : Int) := he 2 (by kernel_rfl)
      have hfr : Fr (fun k => False) _ w' := hf.of_start
      have hd := H.out.dk.fr hfr (fun e => e) (fun e => e) (fun e => e)
      refine wpOp_step rfl (fun K hK => ?_)
      go_simp
      refine (Dirty.c_PutE hd (by omega) _ m rfl hm).mono ?_
      rintro e w2 ⟨rfl, hk2, f2⟩
      exact hK _ _ ⟨_, rfl, ⟨rfl, hk2⟩, f2.mono (fun k _ e => .inl e)⟩
    · intro a w' hf he
      have k1 : a.tmps.getD 1 undef = .pointer (some ⟨q, 0, none⟩) := hf.var (by kernel_rfl) rfl
      refine wpOp_step rfl (fun K hK => ?_)
      go_simp
      exact hK _ _ ⟨_, rfl, rfl, Fr.refl _ _⟩
    · intro a w' hf he
      have k5 : a.tmps.getD 5 undef = .pointer (some ⟨w.heap.size, 0, none⟩) := hf.var (by kernel_rfl) rfl
      have hfr : Fr (fun k => (fun k => k = p ∨ k = g ∨ k = mb) k ∨ False) _ w' := hf.of_start
      replace hfr := hfr.un1
      refine wpOp_step rfl (fun K hK => ?_)
      go_simp
      exact hK _ _ ⟨_, rfl, rfl, Fr.refl _ _⟩
    · intro a w' hf he
      have f5 : a.tmps.getD 62 undef = .pointer (some ⟨w.heap.size, 2, none⟩) := he 5 (by kernel_rfl)
      have hfr : Fr (fun k => (fun k => k = p ∨ k = g ∨ k = mb) k ∨ False) _ w' := hf.of_start
      replace hfr := hfr.un1
      have hx := heap_fr HX.out hfr (by first | exact fun e => e | (intro e; simp only [or_false] at e; omega) | omega)
      have dd := (act4 hx).2.2
      clear hx
      refine wpOp_step rfl (fun K hK => ?_)
      go_simp
      exact hK _ _ ⟨_, rfl, rfl, Fr.refl _ _⟩
    · intro a w' hf he
      have f4 : a.tmps.getD 61 undef = .pointer (some ⟨q, 0, none⟩) := he 4 (by kernel_rfl)
      have f6 : a.tmps.getD 63 undef = .int .u64 (m : Int) := he 6 (by kernel_rfl)
      have hfr : Fr (fun k => (fun k => k = p ∨ k = g ∨ k = mb) k ∨ False) _ w' := hf.of_start
      replace hfr := hfr.un1
      have hd := rkfr hne H.out.rk hfr
      refine wpOp_step rfl (fun K hK => ?_)
      go_simp
      refine (r_dPut hd (by omega) m hm).mono ?_
      rintro e w2 ⟨rfl, hk2, f2⟩
      exact hK _ _ ⟨_, rfl, ⟨rfl, hk2⟩, f2.mono (fun k _ e => .inl e)⟩
    · intro a w' hf he
      obtain ⟨hv3, hk3⟩ := he 3 (by kernel_rfl)
      have f3 : a.tmps.getD 60 undef = _ := hv3
      obtain ⟨hv7, hk7⟩ := he 7 (by kernel_rfl)
      have f7 : a.tmps.getD 64 undef = _ := hv7
      have hfr : Fr (fun k => (fun k => k = p ∨ k = g ∨ k = mb) k ∨ (fun k => k = q ∨ k = r) k ∨ False) _ w' := hf.of_start
      refine wpOp_step rfl (fun K hK => ?_)
      go_simp
      exact hK _ _ ⟨_, rfl, rfl, Fr.refl _ _⟩
    · intro a w' hf he
      have f8 : a.tmps.getD 65 undef = .bool true := he 8 (by kernel_rfl)
      refine wpOp_step rfl (fun K hK => ?_)
      go_simp
      exact hK _ _ ⟨_, rfl, rfl, Fr.refl _ _⟩
  · intro a w' hf he
    obtain ⟨u57, f0⟩ : ∃ u, a.tmps.getD 57 undef = u := ⟨_, rfl⟩
    obtain ⟨u58, f1⟩ : ∃ u, a.tmps.getD 58 undef = u := ⟨_, rfl⟩
    obtain ⟨u59, f2⟩ : ∃ u, a.tmps.getD 59 undef = u := ⟨_, rfl⟩
    obtain ⟨hv3, hk3⟩ := he 3 (by decide)
    have f3 : a.tmps.getD 60 undef = _ := hv3
    obtain ⟨u61, f4⟩ : ∃ u, a.tmps.getD 61 undef = u := ⟨_, rfl⟩
    obtain ⟨u62, f5⟩ : ∃ u, a.tmps.getD 62 undef = u := ⟨_, rfl⟩
    obtain ⟨u63, f6⟩ : ∃ u, a.tmps.getD 63 undef = u := ⟨_, rfl⟩
    obtain ⟨hv7, hk7⟩ := he 7 (by decide)
    have f7 : a.tmps.getD 64 undef = _ := hv7
    obtain ⟨u65, f8⟩ : ∃ u, a.tmps.getD 65 undef = u := ⟨_, rfl⟩
    have f9 : a.tmps.getD 6 undef = .bool true := he 9 (by decide)
    have hlit := hf.lit ((57, u57) :: (58, u58) :: (59, u59) :: (60, _) :: (61, u61) :: (62, u62) :: (63, u63) :: (64, _) :: (65, u65) :: (6, .bool true) :: []) (by kernel_rfl) ⟨f0, f1, f2, f3, f4, f5, f6, f7, f8, f9, trivial⟩
    have hB : Fr (fun k => (fun k => k = p ∨ k = g ∨ k = mb) k ∨ (fun k => k = q ∨ k = r) k ∨ False) _ w' := hf.of_start
    clear he hf f0 f1 f2 f3 f4 f5 f6 f7 f8 f9 hv3 hv7
    subst hlit
    simp only [putAll_nil, putAll_cons, Act.put, List.setIfInBounds_toArray, List.set_cons_zero, List.set_cons_succ]
    simp only [List.drop_succ_cons, List.drop_zero]
    go_wp2_with fail
    refine bodyPost_ret (results_tmp rfl _ _ _) rfl ?_
    exact ⟨rfl, ⟨hk3, hk7, hne⟩, HF.out.trans hB (fun k _ e => by simp only [or_false] at e; exact e)⟩
theorem c_doFuse (h : Pr w p g mb c q r c' D) (y : Int) (m : Nat) (hy : -9223372036854775808 ≤ y ∧ y ≤ 9223372036854775807) :
    Calls Tryz.prog 37 #[.pointer (some ⟨p, 0, none⟩), .pointer (some ⟨q, 0, none⟩), .agg (actV 5 y m).toArray] w fun e w' => e = .returned (.bool true) ∧ Pr w' p g mb c q r c' (D.setFuse y) ∧ Fr (PS p g mb q r) w w' := by
  have HBa := Lib.hid ((Below.refl w.heap.size w).alloc (Nat.le_refl _) (.cells (actV 5 y m).toArray 79))
  have HX := Lib.hid (heap_alloc_new w (.cells (actV 5 y m).toArray 79))
  have H := Lib.hid (h.bel HBa.out)
  have HF := Lib.hid (Fr.of_bel (S := PS p g mb q r) HBa.out)
  have hdl := h.dk.lts
  have hrl := h.rk.lts
  have hne := h.ne
  clear h
  obtain ⟨e0, e1, e2⟩ := act4 HX.out
  go_enter Tryz.func37, Tryz.ntmps37
  go_wp2_with (first
    | (go_at_call 23
       (with_reducible refine (c_FuseD H.out.dk y hy).mono ?_)
       rintro e w2 ⟨rfl, hk2, f2a⟩
       have f2 := f2a.mono (S1 := fun k => k = p ∨ k = g ∨ k = mb) (fun k _ e => .inl e)
       have HK := Lib.hid hk2
       have HR := Lib.hid (rkfr hne H.out.rk f2)
       have HF := Lib.hid (HF.out.trans (fr_l (q := q) (r := r) f2) (fun _ _ e => e))
       have hx2 := heap_fr HX.out f2 (by omega)
       have HX := Lib.hid hx2
       clear e0 e1 e2 hk2 f2 hx2
       obtain ⟨e0, e1, e2⟩ := act4 HX.out
       )
    | (go_at_call 24
       (with_reducible refine (r_SetFuse HR.out y hy).mono ?_)
       rintro e w3 ⟨rfl, hk3, f3a⟩
       have f3 := f3a.mono (S1 := fun k => k = q ∨ k = r) (fun k _ e => .inl e)
       have HRR := Lib.hid hk3
       have HKK := Lib.hid (dkfr hne HK.out f3)
       have HF := Lib.hid (HF.out.trans (fr_r (p := p) (g := g) (mb := mb) f3) (fun _ _ e => e))
       clear hk3 f3 e0 e1 e2
       ))
  go_ret
  exact ⟨rfl, ⟨HKK.out, HRR.out, hne⟩, HF.out⟩
theorem c_doCrash (h : Pr w p g mb c q r c' D) (y : Int) (m : Nat) (hm : m < 18446744073709551616) :
    Calls Tryz.prog 37 #[.pointer (some ⟨p, 0, none⟩), .pointer (some ⟨q, 0, none⟩), .agg (actV 4 y m).toArray] w fun e w' => e = .returned (.bool true) ∧ Pr w' p g mb c q r c' (D.crash m) ∧ Fr (PS p g mb q r) w w' := by
  have HBa := Lib.hid ((Below.refl w.heap.size w).alloc (Nat.le_refl _) (.cells (actV 4 y m).toArray 79))
  have HX := Lib.hid (heap_alloc_new w (.cells (actV 4 y m).toArray 79))
  have H := Lib.hid (h.bel HBa.out)
  have HF := Lib.hid (Fr.of_bel (S := PS p g mb q r) HBa.out)
  have hdl := h.dk.lts
  have hrl := h.rk.lts
  have hne := h.ne
  clear h
  obtain ⟨e0, e1, e2⟩ := act4 HX.out
  go_enter Tryz.func37, Tryz.ntmps37
  go_wp2_with (first
    | (go_at_call 21
       (with_reducible refine (c_Crash H.out.dk m hm).mono ?_)
       rintro e w2 ⟨rfl, hk2, f2⟩
       have HK := Lib.hid hk2
       have HR := Lib.hid (rkfr hne H.out.rk f2)
       have HF := Lib.hid (HF.out.trans (fr_l (q := q) (r := r) f2) (fun _ _ e => e))
       have hx2 := heap_fr HX.out f2 (by omega)
       have HX := Lib.hid hx2
       clear e0 e1 e2 hk2 f2 hx2
       obtain ⟨e0, e1, e2⟩ := act4 HX.out
       )
    | (go_at_call 22
       (with_reducible refine (r_Crash HR.out m hm).mono ?_)
       rintro e w3 ⟨rfl, hk3, f3⟩
       have HRR := Lib.hid hk3
       have HKK := Lib.hid (dkfr hne HK.out f3)
       have HF := Lib.hid (HF.out.trans (fr_r (p := p) (g := g) (mb := mb) f3) (fun _ _ e => e))
       clear hk3 f3 e0 e1 e2
       ))
  go_ret
  exact ⟨rfl, ⟨HKK.out, HRR.out, hne⟩, HF.out⟩
theorem c_doNone (h : Pr w p g mb c q r c' D) (k y : Int) (m : Nat) (hk : k ≠ 0 ∧ k ≠ 1 ∧ k ≠ 2 ∧ k ≠ 3 ∧ k ≠ 4 ∧ k ≠ 5) :
    Calls Tryz.prog 37 #[.pointer (some ⟨p, 0, none⟩), .pointer (some ⟨q, 0, none⟩), .agg (actV k y m).toArray] w fun e w' => e = .returned (.bool true) ∧ Pr w' p g mb c q r c' D ∧ Fr (PS p g mb q r) w w' := by
  have HBa := Lib.hid ((Below.refl w.heap.size w).alloc (Nat.le_refl _) (.cells (actV k y m).toArray 79))
  have HX := Lib.hid (heap_alloc_new w (.cells (actV k y m).toArray 79))
  have H := Lib.hid (h.bel HBa.out)
  have HF := Lib.hid (Fr.of_bel (S := PS p g mb q r) HBa.out)
  have hdl := h.dk.lts
  have hrl := h.rk.lts
  have hne := h.ne
  clear h
  obtain ⟨e0, e1, e2⟩ := act4 HX.out
  obtain ⟨h0, h1, h2, h3, h4, h5⟩ := hk
  have q0 : (k == 0) = false := by simpa using h0
  have q1 : (k == 1) = false := by simpa using h1
  have q2 : (k == 2) = false := by simpa using h2
  have q3 : (k == 3) = false := by simpa using h3
  have q4 : (k == 4) = false := by simpa using h4
  have q5 : (k == 5) = false := by simpa using h5
  go_enter Tryz.func37, Tryz.ntmps37
  go_wp2_with fail
  go_ret
  exact ⟨rfl, H.out, HF.out⟩
theorem c_doStart (h : Pr w p g mb c q r c' D) (ho : D.ops + 1 < 1000000000) (y : Int) (m : Nat) :
    Calls Tryz.prog 37 #[.pointer (some ⟨p, 0, none⟩), .pointer (some ⟨q, 0, none⟩), .agg (actV 0 y m).toArray] w fun e w' => e = .returned (.bool true) ∧ Pr w' p g mb c q r c' (mstart D).1 ∧ Fr (PS p g mb q r) w w' := by
  have HBa := Lib.hid ((Below.refl w.heap.size w).alloc (Nat.le_refl _) (.cells (actV 0 y m).toArray 79))
  have HX := Lib.hid (heap_alloc_new w (.cells (actV 0 y m).toArray 79))
  have H := Lib.hid (h.bel HBa.out)
  have HF := Lib.hid (Fr.of_bel (S := PS p g mb q r) HBa.out)
  have hdl := h.dk.lts
  have hrl := h.rk.lts
  have hne := h.ne
  clear h
  obtain ⟨e0, e1, e2⟩ := act4 HX.out
  have hcd := c_StartE H.out.dk ho
  have hcr := fun w (h : Rk w q r c' D) => r_Start h ho
  obtain ⟨⟨D', E⟩, hD⟩ : ∃ x, mstart D = x := ⟨_, rfl⟩
  rw [hD] at hcd hcr ⊢
  simp only at hcd hcr ⊢
  obtain ⟨B1, B2, B3, hV⟩ : ∃ x y z : Nat, (if E = 0 then metV (boot D') (hotOf D') (dirtyOf D') else metV 0 0 0) = metV x y z := by
    split
    · exact ⟨_, _, _, rfl⟩
    · exact ⟨_, _, _, rfl⟩
  rw [hV] at hcd hcr
  unfold metV at hcd hcr
  clear hV hD
  go_enter Tryz.func37, Tryz.ntmps37
  go_wp2_with (first
    | (go_at_call 69
       (with_reducible refine hcd.mono ?_)
       rintro e w2 ⟨rfl, hk2, f2⟩
       have hsz2 : w.heap.size ≤ w2.heap.size := Nat.le_trans HBa.out.size f2.size
       have HKa := Lib.hid (hk2.bel ((Below.refl _ _).alloc (Nat.le_refl _) (.cells #[.int .u32 (B1 : Int), .int .u64 (B2 : Int), .int .u64 (B3 : Int)] 75)))
       have HRa := Lib.hid ((rkfr hne H.out.rk f2).bel ((Below.refl _ _).alloc (Nat.le_refl _) (.cells #[.int .u32 (B1 : Int), .int .u64 (B2 : Int), .int .u64 (B3 : Int)] 75)))
       have HF := Lib.hid ((HF.out.trans (fr_l (q := q) (r := r) f2) (fun _ _ e => e)).trans (Fr.of_bel (S := PS p g mb q r) ((Below.refl _ _).alloc (Nat.le_refl _) (.cells #[.int .u32 (B1 : Int), .int .u64 (B2 : Int), .int .u64 (B3 : Int)] 75))) (fun _ _ e => e))
       have HX2 := Lib.hid (heap_alloc_new w2 (.cells #[.int .u32 (B1 : Int), .int .u64 (B2 : Int), .int .u64 (B3 : Int)] 75))
       clear e0 e1 e2 hk2 f2 hcd)
    | (go_at_call 78
       (with_reducible refine (hcr _ HRa.out).mono ?_)
       rintro e w3 ⟨rfl, hk3, f3⟩
       have hb3 := (Below.refl w3.heap.size w3).alloc (Nat.le_refl _) (.cells #[.int .u32 (B1 : Int), .int .u64 (B2 : Int), .int .u64 (B3 : Int)] 81)
       have HRR := Lib.hid (hk3.bel hb3)
       have HKK := Lib.hid ((dkfr hne HKa.out f3).bel hb3)
       have HF := Lib.hid ((HF.out.trans (fr_r (p := p) (g := g) (mb := mb) f3) (fun _ _ e => e)).trans (Fr.of_bel (S := PS p g mb q r) hb3) (fun _ _ e => e))
       have hx2 := heap_fr HX2.out f3 (by omega)
       obtain ⟨d7, d8, d9⟩ := cells_3 ((hb3.block _ (heap_lt hx2)).trans hx2)
       have HX3 := Lib.hid (heap_alloc_new w3 (.cells #[.int .u32 (B1 : Int), .int .u64 (B2 : Int), .int .u64 (B3 : Int)] 81))
       clear hk3 f3 hcr hx2)
    )
  go_ret
  exact ⟨by simp, ⟨HKK.out, HRR.out, hne⟩, HF.out⟩
theorem c_do (h : Pr w p g mb c q r c' D) (ho : D.ops + 3 < 1000000000) (k y : Int) (m : Nat) (hy : -9223372036854775808 ≤ y ∧ y ≤ 9223372036854775807) (hm : m < 18446744073709551616) :
    Calls Tryz.prog 37 #[.pointer (some ⟨p, 0, none⟩), .pointer (some ⟨q, 0, none⟩), .agg (actV k y m).toArray] w fun e w' => e = .returned (.bool true) ∧ Pr w' p g mb c q r c' (mdo D k y m) ∧ Fr (PS p g mb q r) w w' := by
  unfold mdo
  by_cases h0 : k = 0
  · subst h0; exact c_doStart h (by omega) y m
  by_cases h1 : k = 1
  · subst h1; exact c_doRetire h ho y m hm
  by_cases h2 : k = 2
  · subst h2; exact c_doLog h ho y m hm
  by_cases h3 : k = 3
  · subst h3; exact c_doMap h ho y m hm
  by_cases h4 : k = 4
  · subst h4; exact c_doCrash h y m hm
  by_cases h5 : k = 5
  · subst h5; exact c_doFuse h y m hy
  rw [if_neg h0, if_neg h1, if_neg h2, if_neg h3, if_neg h4, if_neg h5]
  exact c_doNone h k y m ⟨h0, h1, h2, h3, h4, h5⟩
end
end Go.Proofs.YtaldlapnhhhclaaGreat.Meta
