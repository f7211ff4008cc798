/- The pieces' iterator, walked inside a fence. Conditions: the bytes lie within 4096. -/
import Derived.RangeFuncNested
import Derived.RangeFuncBound
import Derived.RangeFuncCalls
import Derived.RangeFuncLeaves
import Derived.Shelf.Abstract
import Derived.Shelf.RegionOpen
import Derived.WalkKit
import Derived.OwnWalkIn
import Derived.TacticsInMore
import Derived.LoopNIn
import Derived.LoopIn
import Derived.Test.YtdpggcpbgfancaaProg
import Derived.Test.YtdpggcpbgfancaaVolLaw
import Derived.IntWalk
set_option linter.unusedVariables false
set_option linter.unusedSimpArgs false
namespace Go.Proofs.Ytdpggcpbgfancaa.Vol
open Go.RowKit Go.Shelf Tw
attribute [local go_sem] Oper.semAt_some
set_option maxRecDepth 100000
set_option maxHeartbeats 1000000

/-- what a round keeps: the two variables that the iterator reads -/
def KpR (Bo Be : Nat) (W W' : World) : Prop := W'.heap[Bo]? = W.heap[Bo]? ∧ W'.heap[Be]? = W.heap[Be]?
theorem kpR_t {Bo Be : Nat} {A B C : World} (h : KpR Bo Be A B) (k : KpR Bo Be B C) : KpR Bo Be A C := ⟨k.1.trans h.1, k.2.trans h.2⟩
theorem kpR_b {Bo Be : Nat} {w : World} (h1 : Bo < w.heap.size) (h2 : Be < w.heap.size) (W : World) (l : Nat) (o o' : Obj) (hl : w.heap.size ≤ l) (_ : W.heap[l]? = some o) (_ : o.isCells = false) (_ : o.isWalk = false) : KpR Bo Be W (W.putObj l o') :=
  ⟨World.putObj_heap_other (by omega), World.putObj_heap_other (by omega)⟩
theorem cell_same {W W' : World} {b : Nat} {v : Value} (h : W'.heap[b]? = W.heap[b]?) (hc : W.cell? ⟨b, 0, none⟩ = some v) : W'.cell? ⟨b, 0, none⟩ = some v := by
  unfold World.cell? at *
  rw [h]
  exact hc
theorem cell_alloc1 {W : World} {b : Nat} {v : Value} (o : Obj) (hc : W.cell? ⟨b, 0, none⟩ = some v) : (W.alloc o).cell? ⟨b, 0, none⟩ = some v :=
  cell_same (Below.heap_alloc W o b (by have := block_lt_of_cell hc; simpa using this)) hc
theorem rows1_in (F : Fence) (n : Nat) (h113 : F.fn 148) (hro : F.round = none) (hn : 1 ≤ n) (l Bo Be : Nat) (o e : Nat) (ho : o ≤ 4096) (he : e ≤ 4096) (J Jx : List Pc → World → Prop)
    (hY : ∀ pre x W, J pre W → pre.length < num o e → YieldAt F (n - 1) Try.prog l #[.agg (pcV x).toArray] W fun e W' =>
      (e = .returned (.bool true) ∧ J (pre ++ [x]) W' ∧ KpR Bo Be W W') ∨ (e = .returned (.bool false) ∧ Jx (pre ++ [x]) W'))
    (W : World) (hJ : AbidesFrom W.heap.size J) (hco : W.cell? ⟨Bo, 0, none⟩ = some (.int .i64 (o : Int))) (hce : W.cell? ⟨Be, 0, none⟩ = some (.int .i64 (e : Int))) (h0 : J [] W) :
    CallsIn F n Try.prog 148 #[.func (.yield l) #[] #[], .pointer (some ⟨Bo, 0, none⟩), .pointer (some ⟨Be, 0, none⟩)] W fun e' W' => (∃ v, e' = .returned v) ∧
      ((∃ ys, ys = pcs o e ∧ J ys W') ∨ (∃ pre, pre <+: pcs o e ∧ Jx pre W')) := by
  refine callsIn_of_wp Try.func148 rfl h113 ?_ hro
  simp only [Try.ntmps148, List.size_toArray, List.length_cons, List.length_nil, Nat.reduceAdd, Nat.reduceSub, Array.replicate_succ, Array.replicate_zero, List.push_toArray, List.append_toArray, List.nil_append, List.cons_append]
  gi_wp2
  gi_loopw [4] (fun p wr => ∃ k : Nat, k ≤ num o e ∧ p = .int .i64 (place o k : Nat) ∧ wr.cell? ⟨Bo, 0, none⟩ = some (.int .i64 (o : Int)) ∧ wr.cell? ⟨Be, 0, none⟩ = some (.int .i64 (e : Int)) ∧ J (upto o e k) wr) (fun p _ => (4224 - (intOf p).toNat))
  case atStart => exact ⟨0, Nat.zero_le _, by congr 1; unfold place; omega, hco, hce, h0⟩
  case round =>
    clear hco hce
    obtain ⟨k, hk, rfl, hco, hce, hJk⟩ := hrel
    by_cases hlt : place o k < e
    · have hkn : k < num o e := lt_num.2 hlt
      have hpl : place o k = 16 * (o / 16) + 128 * k := rfl
      have Hpl := Lib.hid hpl
      have hup := upto_succ o e k
      have hle := num_le (o := o) he
      have hfin : place o (k + 1) = place o k + 128 := by unfold place; omega
      generalize hpa : place o k = a at *
      clear hpl
      by_cases hc : ((e : Int) < (a : Int) + 128) ∧ ((o : Int) - (a : Int) < 0)
      · obtain ⟨hc1, hc2⟩ := hc
        have hxv := pc_eq (o := o) (e := e) (a := a) (T := (e : Int) - (a : Int)) (F := 0) (by omega) (by omega)
        obtain ⟨fn, tmps, assign, body, hy, hR⟩ := hY (upto o e k) (pc o e a) (wr.alloc (.cells (pcV (pc o e a)).toArray 158)) (hJ _ _ _ none hJk (World.grownBy_alloc _ _ _) (by simp)) (by rw [upto_length]; exact hkn)
        rw [hxv] at hy hR
        gi_wp2
        refine hR.mono ?_
        rintro e' W3 (⟨rfl, hJ3, hk3⟩ | ⟨rfl, hJx3⟩)
        · gi_wp2
          go_roundw
          case rel => exact ⟨k + 1, hkn, by rw [hfin]; simp, cell_same hk3.1 (cell_alloc1 _ hco), cell_same hk3.2 (cell_alloc1 _ hce), by rw [hup]; exact hJ3⟩
          case measure => simp [intOf] <;> omega
        · gi_wp2
          refine bodyPost_ret (results_none rfl _ _ _) rfl ?_
          exact ⟨⟨_, rfl⟩, .inr ⟨upto o e k ++ [pc o e a], by rw [← hup]; exact upto_pre hkn, hJx3⟩⟩
      by_cases hc : ((e : Int) < (a : Int) + 128) ∧ (0 ≤ (o : Int) - (a : Int))
      · obtain ⟨hc1, hc2⟩ := hc
        have hxv := pc_eq (o := o) (e := e) (a := a) (T := (e : Int) - (a : Int)) (F := (o : Int) - (a : Int)) (by omega) (by omega)
        obtain ⟨fn, tmps, assign, body, hy, hR⟩ := hY (upto o e k) (pc o e a) (wr.alloc (.cells (pcV (pc o e a)).toArray 158)) (hJ _ _ _ none hJk (World.grownBy_alloc _ _ _) (by simp)) (by rw [upto_length]; exact hkn)
        rw [hxv] at hy hR
        gi_wp2
        refine hR.mono ?_
        rintro e' W3 (⟨rfl, hJ3, hk3⟩ | ⟨rfl, hJx3⟩)
        · gi_wp2
          go_roundw
          case rel => exact ⟨k + 1, hkn, by rw [hfin]; simp, cell_same hk3.1 (cell_alloc1 _ hco), cell_same hk3.2 (cell_alloc1 _ hce), by rw [hup]; exact hJ3⟩
          case measure => simp [intOf] <;> omega
        · gi_wp2
          refine bodyPost_ret (results_none rfl _ _ _) rfl ?_
          exact ⟨⟨_, rfl⟩, .inr ⟨upto o e k ++ [pc o e a], by rw [← hup]; exact upto_pre hkn, hJx3⟩⟩
      by_cases hc : ((a : Int) + 128 ≤ (e : Int)) ∧ ((o : Int) - (a : Int) < 0)
      · obtain ⟨hc1, hc2⟩ := hc
        have hxv := pc_eq (o := o) (e := e) (a := a) (T := (a : Int) + 128 - (a : Int)) (F := 0) (by omega) (by omega)
        obtain ⟨fn, tmps, assign, body, hy, hR⟩ := hY (upto o e k) (pc o e a) (wr.alloc (.cells (pcV (pc o e a)).toArray 158)) (hJ _ _ _ none hJk (World.grownBy_alloc _ _ _) (by simp)) (by rw [upto_length]; exact hkn)
        rw [hxv] at hy hR
        gi_wp2
        refine hR.mono ?_
        rintro e' W3 (⟨rfl, hJ3, hk3⟩ | ⟨rfl, hJx3⟩)
        · gi_wp2
          go_roundw
          case rel => exact ⟨k + 1, hkn, by rw [hfin]; simp, cell_same hk3.1 (cell_alloc1 _ hco), cell_same hk3.2 (cell_alloc1 _ hce), by rw [hup]; exact hJ3⟩
          case measure => simp [intOf] <;> omega
        · gi_wp2
          refine bodyPost_ret (results_none rfl _ _ _) rfl ?_
          exact ⟨⟨_, rfl⟩, .inr ⟨upto o e k ++ [pc o e a], by rw [← hup]; exact upto_pre hkn, hJx3⟩⟩
      by_cases hc : ((a : Int) + 128 ≤ (e : Int)) ∧ (0 ≤ (o : Int) - (a : Int))
      · obtain ⟨hc1, hc2⟩ := hc
        have hxv := pc_eq (o := o) (e := e) (a := a) (T := (a : Int) + 128 - (a : Int)) (F := (o : Int) - (a : Int)) (by omega) (by omega)
        obtain ⟨fn, tmps, assign, body, hy, hR⟩ := hY (upto o e k) (pc o e a) (wr.alloc (.cells (pcV (pc o e a)).toArray 158)) (hJ _ _ _ none hJk (World.grownBy_alloc _ _ _) (by simp)) (by rw [upto_length]; exact hkn)
        rw [hxv] at hy hR
        gi_wp2
        refine hR.mono ?_
        rintro e' W3 (⟨rfl, hJ3, hk3⟩ | ⟨rfl, hJx3⟩)
        · gi_wp2
          go_roundw
          case rel => exact ⟨k + 1, hkn, by rw [hfin]; simp, cell_same hk3.1 (cell_alloc1 _ hco), cell_same hk3.2 (cell_alloc1 _ hce), by rw [hup]; exact hJ3⟩
          case measure => simp [intOf] <;> omega
        · gi_wp2
          refine bodyPost_ret (results_none rfl _ _ _) rfl ?_
          exact ⟨⟨_, rfl⟩, .inr ⟨upto o e k ++ [pc o e a], by rw [← hup]; exact upto_pre hkn, hJx3⟩⟩
      omega
    · gi_wp2
      go_end0
      exact ⟨⟨_, rfl⟩, .inl ⟨_, rfl, by rw [← upto_num, show num o e = k from Nat.le_antisymm (Nat.le_of_not_lt fun h => hlt (lt_num.1 h)) hk]; exact hJk⟩⟩

theorem rows_in (F : Fence) (n : Nat) (h90 : F.fn 119) (hro : F.round = none) (o e : Int) (w : World) :
    CallsIn F n Try.prog 119 #[.int .i64 o, .int .i64 e] w fun r w' => r = .returned (.func (.func 148) #[] #[.pointer (some ⟨w.heap.size, 0, none⟩), .pointer (some ⟨w.heap.size + 1, 0, none⟩)]) ∧ w' = (w.alloc (.cells #[.int .i64 o] 3)).alloc (.cells #[.int .i64 e] 3) := by
  refine callsIn_of_wp Try.func119 rfl h90 ?_ hro
  simp only [Try.ntmps119, List.size_toArray, List.length_cons, List.length_nil, Nat.reduceAdd, Nat.reduceSub, Array.replicate_succ, Array.replicate_zero, List.push_toArray, List.append_toArray, List.nil_append, List.cons_append]
  have hmf : ∀ (fn : Fn) (first cap : Array Value) (w : World), (Instr.makeFunc fn first cap).run Try.prog w = .ok (.func fn first cap) w := fun _ _ _ _ => rfl
  gi_wp2
  go_ret
  exact ⟨rfl, rfl⟩

theorem rows_stops (F : Fence) (n : Nat) (h113 : F.fn 148) (hro : F.round = none) (hn : 1 ≤ n) (Bo Be : Nat) (o e : Nat) (ho : o ≤ 4096) (he : e ≤ 4096) (w : World)
    (hco : w.cell? ⟨Bo, 0, none⟩ = some (.int .i64 (o : Int))) (hce : w.cell? ⟨Be, 0, none⟩ = some (.int .i64 (e : Int))) :
    SeqStopsK F n Try.prog 148 #[.pointer (some ⟨Bo, 0, none⟩), .pointer (some ⟨Be, 0, none⟩)] (fun x : Pc => #[Value.agg (pcV x).toArray]) (KpR Bo Be) (fun ys => ys = pcs o e) (fun pre => pre <+: pcs o e) (num o e) w := fun l J Jx W hW hJ _ hY h0 =>
  rows1_in F n h113 hro hn l Bo Be o e ho he J Jx hY W hJ ((hW.cell (p := ⟨Bo, 0, none⟩) (by have := block_lt_of_cell hco; simpa using this)).trans hco) ((hW.cell (p := ⟨Be, 0, none⟩) (by have := block_lt_of_cell hce; simpa using this)).trans hce) h0
end Go.Proofs.Ytdpggcpbgfancaa.Vol
