/- The contract of volume.Cut: the pieces. Conditions: none. -/
import Derived.RangeFuncNested
import Derived.RangeFuncBound
import Derived.RangeFuncCalls
import Derived.RangeFuncLeaves
import Derived.Shelf.Abstract
import Derived.Shelf.RegionOpen
import Derived.WalkKit
import Derived.OwnWalkIn
import Derived.TacticsInMore
import Derived.LoopNIn
import Derived.LoopIn
import Derived.Test.YtdpggcpbgfancaaVolIter
import Derived.Test.YtdpggcpbgfancaaRange
import Derived.Maps.AppendAt
import Derived.Deep.MidRow
set_option linter.unusedVariables false
set_option linter.unusedSimpArgs false
namespace Go.Proofs.Ytdpggcpbgfancaa.Vol
open Go.RowKit Go.Shelf Tw
attribute [local go_sem] Oper.semAt_some
set_option maxRecDepth 100000
set_option maxHeartbeats 2000000

theorem info_pc : (Try.prog.info? 158).map (fun i => (i.zero, i.size, i.bytes)) = some (some (.agg #[.int .i64 0, .int .i64 0, .int .i64 0, .int .i64 0]), 4, 32) := by kernel_rfl

theorem Cut_in (F : Fence) (n : Nat) (h35 : F.fn 58) (h90 : F.fn 119) (h113 : F.fn 148) (hro : F.round = none) (hn : 3 ≤ n) (s o z : Nat) (hs0 : 1 ≤ s) (hs1 : s ≤ 256) (ho : o ≤ 16 * s) (hz0 : 0 < z) (hz : z ≤ 16 * s - o) (w : World) :
    CallsIn F n Try.prog 58 #[.int .i64 (s : Int), .int .i64 (o : Int), .int .i64 (z : Int)] w fun e W' => ∃ v, e = .returned (.tuple #[v, .int .i64 0]) ∧ W'.ownsRow w.heap.size 158 4 v (pcs o (o + z)).length (pcsV (pcs o (o + z))) ∧ Below w.heap.size w W' := by
  have h1 : 1 ≤ n := by omega
  obtain ⟨i0, hi, hzi, hz1, hz2⟩ := info_parts info_pc
  refine callsIn_of_wp_marks Try.func58 rfl h35 ?_ hro
  simp only [Try.ntmps58, List.size_toArray, List.length_cons, List.length_nil, Nat.reduceAdd, Nat.reduceSub, Array.replicate_succ, Array.replicate_zero, List.push_toArray, List.append_toArray, List.nil_append, List.cons_append]
  gi_wp2_with (gi_at_call 119; refine (rows_in F (n - 1) h90 hro _ _ _).mono ?_; rintro e w' ⟨rfl, rfl⟩)
  have bL := ((Boxed.new w 76 (.slice none 0 0)).alloc (.cells #[.int .i64 (o : Int)] 3)).alloc (.cells #[.int .i64 ((o : Int) + (z : Int))] 3)
  have bO := (Boxed.new (w.alloc (.cells #[.slice none 0 0] 76)) 3 (.int .i64 (o : Int))).alloc (.cells #[.int .i64 ((o : Int) + (z : Int))] 3)
  have bE := Boxed.new ((w.alloc (.cells #[.slice none 0 0] 76)).alloc (.cells #[.int .i64 (o : Int)] 3)) 3 (.int .i64 ((o : Int) + (z : Int)))
  simp only [World.size_alloc] at bO bE
  have hB0 : Below w.heap.size w (((w.alloc (.cells #[.slice none 0 0] 76)).alloc (.cells #[.int .i64 (o : Int)] 3)).alloc (.cells #[.int .i64 ((o : Int) + (z : Int))] 3)) := (((Below.refl _ w).alloc (Nat.le_refl _) _).alloc (by simp) _).alloc (by simp; omega) _
  obtain ⟨W0, hW0⟩ : ∃ W0, ((w.alloc (.cells #[.slice none 0 0] 76)).alloc (.cells #[.int .i64 (o : Int)] 3)).alloc (.cells #[.int .i64 ((o : Int) + (z : Int))] 3) = W0 := ⟨_, rfl⟩
  rw [hW0] at bL bO bE hB0 ⊢
  clear hW0
  have hE : (o : Int) + (z : Int) = ((o + z : Nat) : Int) := by omega
  refine wpIn_range_box hro h1 (gf := 148) (lb := #[.pointer (some ⟨w.heap.size + 1, 0, none⟩), .pointer (some ⟨w.heap.size + 1 + 1, 0, none⟩)]) rfl h113 (enters_of Try.func148 (by kernel_rfl) rfl)
    (rows_stops F (n - 1) h113 hro (by omega) (w.heap.size + 1) (w.heap.size + 1 + 1) o (o + z) (by omega) (by omega) W0 bO.cell (by rw [← hE]; exact bE.cell)) kpR_t (kpR_b bO.lt bE.lt) (Below.refl _ _) (fun _ => rfl)
    (fun pre W => ((∃ v, Boxed W w.heap.size 76 v ∧ W.ownsRow w.heap.size 158 4 v pre.length (pcsV pre) ∧ True) ∧ Boxed W (w.heap.size + 1) 3 (.int .i64 (o : Int)) ∧ Boxed W (w.heap.size + 1 + 1) 3 (.int .i64 ((o : Int) + (z : Int))) ∧ W0.heap.size ≤ W.heap.size) ∧ Below w.heap.size w W)
    (fun _ _ _ => False)
    (OwnFrom.and (OwnFrom.and (Own.from (holdsRow_own w.heap.size w.heap.size 76 158 4 (fun pre => pre.length) (fun pre => pcsV pre) (fun _ _ => True)) _) (OwnFrom.and (Own.from (boxed_own _ _ _) _) (OwnFrom.and (Own.from (boxed_own _ _ _) _) (fun _ _ _ _ hs hg _ => Nat.le_trans hs hg.size)))) (ownFrom_below (Nat.le_refl _) hB0.size))
    (fun _ _ _ _ _ hs _ _ => hs)
    ⟨⟨⟨_, bL, World.ownsRow_nil _ _ _ _, trivial⟩, bO, bE, Nat.le_refl _⟩, hB0⟩
    158 (fun x => (pcV x).toArray) 10 ?assign ?body ?done ?stop
  case assign =>
    rintro l pre ⟨x1, x2, x3, x4⟩ W K ⟨⟨⟨v, hv, hrow, -⟩, hO, hE2, hZ⟩, hB⟩ hK
    simp only [fold_one, List.setIfInBounds_toArray, List.set_cons_zero, List.set_cons_succ, pcV] at hK ⊢
    gi_wp2
    exact hK W.heap.size _ hZ (heap_alloc_new W _) ((KeepsOthers.alloc _ _).from _) ⟨(hO.alloc _).trans hO.symm, (hE2.alloc _).trans hE2.symm⟩ ⟨⟨⟨v, hv.alloc _, hrow.alloc _, trivial⟩, hO.alloc _, hE2.alloc _, by simp; omega⟩, hB.alloc hB.size _⟩
  case body =>
    rintro l pre ⟨x1, x2, x3, x4⟩ Bx W hl hr ⟨⟨⟨v, hv, hrow, -⟩, hO, hE2, hZ⟩, hB⟩ hBx hcx hlt
    have hc := hv.cell
    have hnl : pre.length < 32 := Nat.lt_of_lt_of_le hlt (num_le (by omega))
    simp only [fold_one, List.setIfInBounds_toArray, List.set_cons_zero, List.set_cons_succ, pcV] at hcx ⊢
    have d0 : W.cell? ⟨Bx, 0, none⟩ = some (.int .i64 (x1 : Int)) := by simp [World.cell?, hcx]
    have d1 : W.cell? ⟨Bx, 1, none⟩ = some (.int .i64 (x2 : Int)) := by simp [World.cell?, hcx]
    have d2 : W.cell? ⟨Bx, 2, none⟩ = some (.int .i64 (x3 : Int)) := by simp [World.cell?, hcx]
    have d3 : W.cell? ⟨Bx, 3, none⟩ = some (.int .i64 (x4 : Int)) := by simp [World.cell?, hcx]
    have hnew : ∀ j u, (pcV (x1, x2, x3, x4))[j]? = some u → (W.alloc (.cells #[.int .i64 (x1 : Int), .int .i64 (x2 : Int), .int .i64 (x3 : Int), .int .i64 (x4 : Int)] 158)).cell? ((⟨W.heap.size, 0, none⟩ : Addr).add j) = some u := by
      intro j u hj
      have h := heap_alloc_new W (.cells #[.int .i64 (x1 : Int), .int .i64 (x2 : Int), .int .i64 (x3 : Int), .int .i64 (x4 : Int)] 158)
      rw [Addr.add_mid, Nat.zero_add]
      simp only [World.cell?, h]
      simpa [pcV] using hj
    clear hcx
    gi_wp2_with (gi_at_builtin; refine wpListIn_append_own _ rfl _ _ 76 rfl w.heap.size 158 i0 _ 4 32 Try.underlying76 hi hzi hz1 hz2 rfl (by decide) v _ _ rfl (hrow.alloc _) ⟨W.heap.size, 0, none⟩ 1 1 (pcV (x1, x2, x3, x4)) rfl rfl hnew (pcV_one _) (by unfold maxLen; omega) (by omega) (by have := hB.size; simp; omega) ?_; intro v' w1 hown' hgrow _; obtain ⟨g', cap', rfl⟩ := ownsRow_succ hown'; obtain ⟨hv1, hv2, hr2, hk2, hb2⟩ := hv.appended (by decide) hrow hB.size (Nat.le_refl _) hown' hgrow; have hc1 := hv1.cell; have hf1 := hv1.frozen)
    simp only [Act.put, List.setIfInBounds_toArray, List.set_cons_zero, List.set_cons_succ]
    gi_wp2
    have hO2 := ((hO.alloc _).kept hgrow (hO.not_row (by decide) hrow)).other (B' := w.heap.size) (by omega) (.slice (some ⟨g', 0, none⟩) (pre.length + 1) cap')
    have hE3 := ((hE2.alloc _).kept hgrow (hE2.not_row (by decide) hrow)).other (B' := w.heap.size) (by omega) (.slice (some ⟨g', 0, none⟩) (pre.length + 1) cap')
    exact ⟨hk2.from _, ⟨hO2.trans hO.symm, hE3.trans hE2.symm⟩, ⟨⟨⟨_, hv2, by rw [← pcsV_snoc, List.length_append]; exact hr2, trivial⟩, hO2, hE3, Nat.le_trans hZ hk2.size⟩, hB.trans hb2⟩⟩
  case done =>
    rintro D ys W hD rfl ⟨⟨⟨v, hv, hrow, -⟩, hO, hE2, hZ⟩, hB⟩ hK
    have hc := hv.cell
    gi_wp2
    refine ⟨by simp, .inl ⟨_, _, rfl, run_takeDeferred hK, ?_⟩⟩
    exact ⟨_, results_tmp2 rfl _ _ _, v, rfl, ownsRow_putObj hrow _ hK rfl, hB.trans (belowK_b (w := w) (Nat.le_refl _) W D _ _ (Nat.le_trans hB0.size hD) hK rfl rfl)⟩
  case stop =>
    rintro D c pre W _ _ h _
    exact h.elim

/-- the document's cut -/
def cut (s o z : Int) : List Pc × Nat :=
  if s < 1 ∨ 256 < s then ([], 2) else if o < 0 ∨ z < 0 ∨ 16 * s < o ∨ 16 * s - o < z then ([], 13) else if z = 0 then ([], 0) else (pcs o.toNat (o + z).toNat, 0)
theorem own_shape {w : World} {base : Nat} {e : TypeId} {size n : Nat} {v : Value} {xs : List Value} (h : w.ownsRow base e size v n xs) : ∃ A c, v = .slice A n c := by
  rcases h.2 with ⟨rfl, rfl⟩ | ⟨g, cap, _, rfl, _⟩
  · exact ⟨_, _, rfl⟩
  · exact ⟨_, _, rfl⟩
theorem c_Cut (s o z : Int) (w : World) (hs : -9223372036854775808 ≤ s ∧ s ≤ 9223372036854775807) (ho : -9223372036854775808 ≤ o ∧ o ≤ 9223372036854775807) (hz : -9223372036854775808 ≤ z ∧ z ≤ 9223372036854775807) :
    Calls Try.prog 58 #[.int .i64 s, .int .i64 o, .int .i64 z] w fun e w' => ∃ A c, e = .returned (.tuple #[.slice A (cut s o z).1.length c, .int .i64 ((cut s o z).2 : Nat)]) ∧ Tw.Own w' w.heap.size 158 4 A (cut s o z).1.length c (pcsV (cut s o z).1) ∧ Below w.heap.size w w' := by
  by_cases h1 : s < 1 ∨ 256 < s
  · have hc : cut s o z = ([], 2) := if_pos h1
    rw [hc]
    go_enter Try.func58, Try.ntmps58
    go_wp2_with fail
    all_goals first
      | (go_ret2; exact ⟨none, 0, rfl, World.ownsRow_nil _ _ _ _, Below.refl _ _⟩)
      | (exfalso; omega)
  · by_cases h2 : o < 0 ∨ z < 0 ∨ 16 * s < o ∨ 16 * s - o < z
    · have hc : cut s o z = ([], 13) := by rw [cut, if_neg h1, if_pos h2]
      rw [hc]
      go_enter Try.func58, Try.ntmps58
      go_wp2_with fail
      all_goals first
        | (go_ret2; exact ⟨none, 0, rfl, World.ownsRow_nil _ _ _ _, Below.refl _ _⟩)
        | (exfalso; omega)
    · by_cases h3 : z = 0
      · have hc : cut s o z = ([], 0) := by rw [cut, if_neg h1, if_neg h2, if_pos h3]
        rw [hc]
        subst h3
        go_enter Try.func58, Try.ntmps58
        go_wp2_with fail
        all_goals first
          | (go_ret2; exact ⟨none, 0, rfl, World.ownsRow_nil _ _ _ _, (Below.refl _ _).alloc (Nat.le_refl _) _⟩)
          | (exfalso; omega)
      · have hc : cut s o z = (pcs o.toNat (o + z).toNat, 0) := by rw [cut, if_neg h1, if_neg h2, if_neg h3]
        obtain ⟨s, rfl⟩ : ∃ k : Nat, s = (k : Int) := ⟨s.toNat, by omega⟩
        obtain ⟨o, rfl⟩ : ∃ k : Nat, o = (k : Int) := ⟨o.toNat, by omega⟩
        obtain ⟨z, rfl⟩ : ∃ k : Nat, z = (k : Int) := ⟨z.toNat, by omega⟩
        rw [hc, show ((o : Int) + (z : Int)).toNat = o + z from by omega, Int.toNat_natCast]
        refine (callsIn_wide.1 (Cut_in Fence.wide 3 trivial trivial trivial rfl (Nat.le_refl _) s o z (by omega) (by omega) (by omega) (by omega) (by omega) w)).mono ?_
        rintro e w' ⟨v, rfl, hown, hB⟩
        obtain ⟨A, c, rfl⟩ := own_shape hown
        exact ⟨A, c, rfl, hown, hB⟩
end Go.Proofs.Ytdpggcpbgfancaa.Vol
