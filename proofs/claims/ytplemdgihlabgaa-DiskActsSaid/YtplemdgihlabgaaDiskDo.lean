/- The law DiskActs: an act at both disks. Conditions: at most 10^9 operations. -/
import Derived.Test.YtplemdgihlabgaaDisk10
import Derived.Test.YtplemdgihlabgaaDiskKeeps2
import Derived.Test.YtplemdgihlabgaaRef6
import Derived.Test.YtplemdgihlabgaaRegion2
set_option linter.unusedVariables false
set_option linter.unusedSimpArgs false
namespace Go.Proofs.Ytplemdgihlabgaa.Disk
open Go.RowKit Tw
set_option maxHeartbeats 8000000
set_option maxRecDepth 100000

/-- the disk, and the reference's, both as D -/
structure Pr (w : World) (p g mb c q r c' : Nat) (D : Dsk) : Prop where
  dk : Dk w p g mb c D
  rk : Rk w q r c' D
  ne : (q ≠ p ∧ q ≠ g ∧ q ≠ mb) ∧ (r ≠ p ∧ r ≠ g ∧ r ≠ mb)
def PS (p g mb q r k : Nat) : Prop := (k = p ∨ k = g ∨ k = mb) ∨ (k = q ∨ k = r)
section
variable {w w' : World} {p g mb c q r c' : Nat} {D : Dsk}
theorem Pr.bel (h : Pr w p g mb c q r c' D) (hb : Below w.heap.size w w') : Pr w' p g mb c q r c' D := ⟨h.dk.bel hb, h.rk.bel hb, h.ne⟩
abbrev Apart (p g mb q r : Nat) : Prop := (q ≠ p ∧ q ≠ g ∧ q ≠ mb) ∧ (r ≠ p ∧ r ≠ g ∧ r ≠ mb)
theorem dkfr (h : Apart p g mb q r) {D' : Dsk} (hd : Dk w p g mb c D') (hf : Fr (fun k => k = q ∨ k = r) w w') : Dk w' p g mb c D' :=
  hd.fr hf (by omega) (by omega) (by omega)
theorem rkfr (h : Apart p g mb q r) {D' : Dsk} (hd : Rk w q r c' D') (hf : Fr (fun k => k = p ∨ k = g ∨ k = mb) w w') : Rk w' q r c' D' :=
  hd.fr hf (by omega) (by omega)
theorem fr_l (h : Fr (fun k => k = p ∨ k = g ∨ k = mb) w w') : Fr (PS p g mb q r) w w' := h.mono fun _ _ e => .inl e
theorem fr_r (h : Fr (fun k => k = q ∨ k = r) w w') : Fr (PS p g mb q r) w w' := h.mono fun _ _ e => .inr e
/-- what an act leaves: the same disk at both, one operation more at most -/
def Did (w w' : World) (p g mb c q r c' : Nat) (D : Dsk) : Prop := ∃ D', Pr w' p g mb c q r c' D' ∧ D'.ops ≤ D.ops + 1 ∧ D'.cells.length = D.cells.length ∧ Fr (PS p g mb q r) w w'
theorem write_facts (D : Dsk) (x : Int) (s : Sec) : (D.write x s).1.ops ≤ D.ops + 1 ∧ (D.write x s).1.cells.length = D.cells.length := by
  have ho := spend_ops D
  unfold Dsk.write
  split
  · split
    · exact ⟨ho, by simp [Dsk.put, spend_cells]⟩
    · exact ⟨ho, by rw [spend_cells]⟩
  · exact ⟨Nat.le_succ _, rfl⟩
theorem flush_facts (D : Dsk) : D.flush.1.ops ≤ D.ops + 1 ∧ D.flush.1.cells.length = D.cells.length := by
  have ho := spend_ops D
  unfold Dsk.flush
  split
  · exact ⟨ho, by simp [Dsk.allSafe, spend_cells]⟩
  · exact ⟨ho, by rw [spend_cells]⟩
theorem c_doWrite (h : Pr w p g mb c q r c' D) (ho : D.ops < 1000000000) (y : Int) (s : Sec) (m : Nat) (ha : -9223372036854775808 ≤ y ∧ y ≤ 9223372036854775807) (hs : s.length = 16) :
    Calls Try.prog 29 #[.pointer (some ⟨p, 0, none⟩), .pointer (some ⟨q, 0, none⟩), .agg (dactV 0 y s m).toArray] w fun e w' => e = .returned (.bool true) ∧ Did w w' p g mb c q r c' D := by
  have HBa := Lib.hid ((Below.refl w.heap.size w).alloc (Nat.le_refl _) (.cells (dactV 0 y s m).toArray 26))
  have HX := Lib.hid (heap_alloc_new w (.cells (dactV 0 y s m).toArray 26))
  have H := Lib.hid (h.bel HBa.out)
  have Hs := Lib.hid hs
  have hdl := h.dk.lts
  have hrl := h.rk.lts
  have hne := h.ne
  clear h hs
  obtain ⟨e0, e1, e18, es⟩ := dact_cells HX.out Hs.out
  have Es := Lib.hid es
  clear es
  go_enter Try.func29, Try.ntmps29
  go_upto_region 3 with (fail)
  generalize (w.alloc (.cells (dactV 0 y s m).toArray 26)) = W1 at *
  refine wp_region_fr (by kernel_rfl) 14 (fun i_ => match i_ with | 5 => 1 | 11 => 2 | _ => 0) (fun c_ => match c_ with | 1 => fun k => k = p ∨ k = g ∨ k = mb | 2 => fun k => k = q ∨ k = r | _ => fun _ => False) (fun i_ => match i_ with | 0 => [1, 2] | 1 => [1, 2] | 2 => [1, 2] | 3 => [1, 2] | 4 => [1, 2] | 5 => [2] | 6 => [1, 2] | 7 => [1, 2] | 8 => [1, 2] | 9 => [1, 2] | 10 => [1, 2] | _ => []) (fun i_ => match i_ with | 6 => [1] | 7 => [1] | 8 => [1] | 9 => [1] | 10 => [1] | 11 => [1] | 12 => [1, 2] | 13 => [1, 2] | _ => []) [1, 2] (fun i_ v wz => match i_ with
    | 0 => v = .pointer (some ⟨p, 0, none⟩)
    | 1 => v = .pointer (some ⟨w.heap.size, 1, none⟩)
    | 2 => v = .int .i64 y
    | 3 => v = .pointer (some ⟨w.heap.size, 2, none⟩)
    | 4 => v = .agg (bytesV s).toArray
    | 5 => v = .int .i64 ((D.write y s).2 : Int) ∧ Dk wz p g mb c (D.write y s).1
    | 6 => v = .pointer (some ⟨q, 0, none⟩)
    | 7 => v = .pointer (some ⟨w.heap.size, 1, none⟩)
    | 8 => v = .int .i64 y
    | 9 => v = .pointer (some ⟨w.heap.size, 2, none⟩)
    | 10 => v = .agg (bytesV s).toArray
    | 11 => v = .int .i64 ((D.write y s).2 : Int) ∧ Rk wz q r c' (D.write y s).1
    | 12 => v = .bool true
    | 13 => v = .bool true
    | _ => True) (by kernel_rfl) (by kernel_rfl) ?_ ?_ ?_
  · (repeat' (first | exact allLt_zero | refine allLt_succ ?_ ?_))
    · exact fun _ _ _ h _ => h
    · exact fun _ _ _ h _ => h
    · exact fun _ _ _ h _ => h
    · exact fun _ _ _ h _ => h
    · exact fun _ _ _ h _ => h
    · intro v w1 w2 h hg
      replace hg : Fr (fun k => (fun k => k = q ∨ k = r) k ∨ False) w1 w2 := hg
      replace hg := hg.un1
      exact ⟨h.1, dkfr hne h.2 hg⟩
    · exact fun _ _ _ h _ => h
    · exact fun _ _ _ h _ => h
    · exact fun _ _ _ h _ => h
    · exact fun _ _ _ h _ => h
    · exact fun _ _ _ h _ => h
    · intro v w1 w2 h hg
      replace hg : Fr (fun k => False) w1 w2 := hg
      exact ⟨h.1, h.2.fr hg (fun e => e) (fun e => e)⟩
    · exact fun _ _ _ h _ => h
    · exact fun _ _ _ h _ => h
  · (repeat' (first | exact allLt_zero | refine allLt_succ ?_ ?_))
    · intro a w' hf he
      have k0 : a.tmps.getD 0 undef = .pointer (some ⟨p, 0, none⟩) := hf.var (by kernel_rfl) rfl
      refine wpOp_step rfl (fun K hK => ?_)
      go_simp
      exact hK _ _ ⟨_, rfl, rfl, Fr.refl _ _⟩
    · intro a w' hf he
      have k5 : a.tmps.getD 5 undef = .pointer (some ⟨w.heap.size, 0, none⟩) := hf.var (by kernel_rfl) rfl
      have hfr : Fr (fun k => False) _ w' := hf.of_start
      refine wpOp_step rfl (fun K hK => ?_)
      go_simp
      exact hK _ _ ⟨_, rfl, rfl, Fr.refl _ _⟩
    · intro a w' hf he
      have f1 : a.tmps.getD 16 undef = .pointer (some ⟨w.heap.size, 1, none⟩) := he 1 (by kernel_rfl)
      have hfr : Fr (fun k => False) _ w' := hf.of_start
      have hx := heap_fr HX.out hfr (by first | exact fun e => e | (intro e; simp only [or_false] at e; omega) | omega)
      have dd := (dact_cells hx Hs.out).2.1
      clear hx
      refine wpOp_step rfl (fun K hK => ?_)
      go_simp
      exact hK _ _ ⟨_, rfl, rfl, Fr.refl _ _⟩
    · intro a w' hf he
      have k5 : a.tmps.getD 5 undef = .pointer (some ⟨w.heap.size, 0, none⟩) := hf.var (by kernel_rfl) rfl
      have hfr : Fr (fun k => False) _ w' := hf.of_start
      refine wpOp_step rfl (fun K hK => ?_)
      go_simp
      exact hK _ _ ⟨_, rfl, rfl, Fr.refl _ _⟩
    · intro a w' hf he
      have f3 : a.tmps.getD 18 undef = .pointer (some ⟨w.heap.size, 2, none⟩) := he 3 (by kernel_rfl)
      have hfr : Fr (fun k => False) _ w' := hf.of_start
      have hx := heap_fr HX.out hfr (by first | exact fun e => e | (intro e; simp only [or_false] at e; omega) | omega)
      refine wpOp_step rfl (fun K hK => ?_)
      refine wp_load_rd 23 (.tmp 18) rfl ⟨w.heap.size, 2, none⟩ f3 (bytesV s) _ (dact_cells hx Hs.out).2.2.2 Try.underlying23 rfl (by rw [bytesV_length, Hs.out]; kernel_rfl) ?_
      exact hK _ _ ⟨_, rfl, rfl, Fr.refl _ _⟩
    · intro a w' hf he
      have f0 : a.tmps.getD 15 undef = .pointer (some ⟨p, 0, none⟩) := he 0 (by kernel_rfl)
      have f2 : a.tmps.getD 17 undef = .int .i64 y := he 2 (by kernel_rfl)
      have f4 : a.tmps.getD 19 undef = .agg (bytesV s).toArray := he 4 (by kernel_rfl)
      have hfr : Fr (fun k => False) _ w' := hf.of_start
      have hd := H.out.dk.fr hfr (fun e => e) (fun e => e) (fun e => e)
      refine wpOp_step rfl (fun K hK => ?_)
      go_simp
      refine (c_dWriteE hd ho y ha s Hs.out _ _ rfl).mono ?_
      rintro e w2 ⟨rfl, hk2, f2⟩
      exact hK _ _ ⟨_, rfl, ⟨rfl, hk2⟩, f2.mono (fun k _ e => .inl e)⟩
    · intro a w' hf he
      have k1 : a.tmps.getD 1 undef = .pointer (some ⟨q, 0, none⟩) := hf.var (by kernel_rfl) rfl
      refine wpOp_step rfl (fun K hK => ?_)
      go_simp
      exact hK _ _ ⟨_, rfl, rfl, Fr.refl _ _⟩
    · intro a w' hf he
      have k5 : a.tmps.getD 5 undef = .pointer (some ⟨w.heap.size, 0, none⟩) := hf.var (by kernel_rfl) rfl
      have hfr : Fr (fun k => (fun k => k = p ∨ k = g ∨ k = mb) k ∨ False) _ w' := hf.of_start
      replace hfr := hfr.un1
      refine wpOp_step rfl (fun K hK => ?_)
      go_simp
      exact hK _ _ ⟨_, rfl, rfl, Fr.refl _ _⟩
    · intro a w' hf he
      have f7 : a.tmps.getD 22 undef = .pointer (some ⟨w.heap.size, 1, none⟩) := he 7 (by kernel_rfl)
      have hfr : Fr (fun k => (fun k => k = p ∨ k = g ∨ k = mb) k ∨ False) _ w' := hf.of_start
      replace hfr := hfr.un1
      have hx := heap_fr HX.out hfr (by first | exact fun e => e | (intro e; simp only [or_false] at e; omega) | omega)
      have dd := (dact_cells hx Hs.out).2.1
      clear hx
      refine wpOp_step rfl (fun K hK => ?_)
      go_simp
      exact hK _ _ ⟨_, rfl, rfl, Fr.refl _ _⟩
    · intro a w' hf he
      have k5 : a.tmps.getD 5 undef = .pointer (some ⟨w.heap.size, 0, none⟩) := hf.var (by kernel_rfl) rfl
      have hfr : Fr (fun k => (fun k => k = p ∨ k = g ∨ k = mb) k ∨ False) _ w' := hf.of_start
      replace hfr := hfr.un1
      refine wpOp_step rfl (fun K hK => ?_)
      go_simp
      exact hK _ _ ⟨_, rfl, rfl, Fr.refl _ _⟩
    · intro a w' hf he
      have f9 : a.tmps.getD 24 undef = .pointer (some ⟨w.heap.size, 2, none⟩) := he 9 (by kernel_rfl)
      have hfr : Fr (fun k => (fun k => k = p ∨ k = g ∨ k = mb) k ∨ False) _ w' := hf.of_start
      replace hfr := hfr.un1
      have hx := heap_fr HX.out hfr (by first | exact fun e => e | (intro e; simp only [or_false] at e; omega) | omega)
      refine wpOp_step rfl (fun K hK => ?_)
      refine wp_load_rd 23 (.tmp 24) rfl ⟨w.heap.size, 2, none⟩ f9 (bytesV s) _ (dact_cells hx Hs.out).2.2.2 Try.underlying23 rfl (by rw [bytesV_length, Hs.out]; kernel_rfl) ?_
      exact hK _ _ ⟨_, rfl, rfl, Fr.refl _ _⟩
    · intro a w' hf he
      have f6 : a.tmps.getD 21 undef = .pointer (some ⟨q, 0, none⟩) := he 6 (by kernel_rfl)
      have f8 : a.tmps.getD 23 undef = .int .i64 y := he 8 (by kernel_rfl)
      have f10 : a.tmps.getD 25 undef = .agg (bytesV s).toArray := he 10 (by kernel_rfl)
      have hfr : Fr (fun k => (fun k => k = p ∨ k = g ∨ k = mb) k ∨ False) _ w' := hf.of_start
      replace hfr := hfr.un1
      have hd := rkfr hne H.out.rk hfr
      refine wpOp_step rfl (fun K hK => ?_)
      go_simp
      refine (r_Write hd ho y s Hs.out).mono ?_
      rintro e w2 ⟨rfl, hk2, f2⟩
      exact hK _ _ ⟨_, rfl, ⟨rfl, hk2⟩, f2.mono (fun k _ e => .inl e)⟩
    · intro a w' hf he
      obtain ⟨hv5, hk5⟩ := he 5 (by kernel_rfl)
      have f5 : a.tmps.getD 20 undef = _ := hv5
      obtain ⟨hv11, hk11⟩ := he 11 (by kernel_rfl)
      have f11 : a.tmps.getD 26 undef = _ := hv11
      have hfr : Fr (fun k => (fun k => k = p ∨ k = g ∨ k = mb) k ∨ (fun k => k = q ∨ k = r) k ∨ False) _ w' := hf.of_start
      refine wpOp_step rfl (fun K hK => ?_)
      go_simp
      exact hK _ _ ⟨_, rfl, rfl, Fr.refl _ _⟩
    · intro a w' hf he
      have f12 : a.tmps.getD 27 undef = .bool true := he 12 (by kernel_rfl)
      refine wpOp_step rfl (fun K hK => ?_)
      go_simp
      exact hK _ _ ⟨_, rfl, rfl, Fr.refl _ _⟩
  · intro a w' hf he
    obtain ⟨u15, f0⟩ : ∃ u, a.tmps.getD 15 undef = u := ⟨_, rfl⟩
    obtain ⟨u16, f1⟩ : ∃ u, a.tmps.getD 16 undef = u := ⟨_, rfl⟩
    obtain ⟨u17, f2⟩ : ∃ u, a.tmps.getD 17 undef = u := ⟨_, rfl⟩
    obtain ⟨u18, f3⟩ : ∃ u, a.tmps.getD 18 undef = u := ⟨_, rfl⟩
    obtain ⟨u19, f4⟩ : ∃ u, a.tmps.getD 19 undef = u := ⟨_, rfl⟩
    obtain ⟨hv5, hk5⟩ := he 5 (by decide)
    have f5 : a.tmps.getD 20 undef = _ := hv5
    obtain ⟨u21, f6⟩ : ∃ u, a.tmps.getD 21 undef = u := ⟨_, rfl⟩
    obtain ⟨u22, f7⟩ : ∃ u, a.tmps.getD 22 undef = u := ⟨_, rfl⟩
    obtain ⟨u23, f8⟩ : ∃ u, a.tmps.getD 23 undef = u := ⟨_, rfl⟩
    obtain ⟨u24, f9⟩ : ∃ u, a.tmps.getD 24 undef = u := ⟨_, rfl⟩
    obtain ⟨u25, f10⟩ : ∃ u, a.tmps.getD 25 undef = u := ⟨_, rfl⟩
    obtain ⟨hv11, hk11⟩ := he 11 (by decide)
    have f11 : a.tmps.getD 26 undef = _ := hv11
    obtain ⟨u27, f12⟩ : ∃ u, a.tmps.getD 27 undef = u := ⟨_, rfl⟩
    have f13 : a.tmps.getD 6 undef = .bool true := he 13 (by decide)
    have hlit := hf.lit ((15, u15) :: (16, u16) :: (17, u17) :: (18, u18) :: (19, u19) :: (20, _) :: (21, u21) :: (22, u22) :: (23, u23) :: (24, u24) :: (25, u25) :: (26, _) :: (27, u27) :: (6, .bool true) :: []) (by kernel_rfl) ⟨f0, f1, f2, f3, f4, f5, f6, f7, f8, f9, f10, f11, f12, f13, trivial⟩
    have hB : Fr (fun k => (fun k => k = p ∨ k = g ∨ k = mb) k ∨ (fun k => k = q ∨ k = r) k ∨ False) _ w' := hf.of_start
    clear he hf f0 f1 f2 f3 f4 f5 f6 f7 f8 f9 f10 f11 f12 f13 hv5 hv11
    subst hlit
    simp only [putAll_nil, putAll_cons, Act.put, List.setIfInBounds_toArray, List.set_cons_zero, List.set_cons_succ]
    simp only [List.drop_succ_cons, List.drop_zero]
    go_wp2_with fail
    refine bodyPost_ret (results_tmp rfl _ _ _) rfl ?_
    have hf0 := write_facts D y s
    refine ⟨rfl, _, ⟨hk5, hk11, hne⟩, hf0.1, hf0.2, ?_⟩
    exact ((Fr.of_bel (S := PS p g mb q r) HBa.out)).trans hB (fun k _ e => by simp only [or_false] at e; exact e)
end
end Go.Proofs.Ytplemdgihlabgaa.Disk
