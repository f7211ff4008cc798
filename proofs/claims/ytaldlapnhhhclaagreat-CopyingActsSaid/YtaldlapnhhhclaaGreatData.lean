/- Contracts of the package data: Sectors, check; its iterator, inside a fence. Conditions: none. -/
import Derived.Test.YtaldlapnhhhclaaGreatB3
import Derived.Test.YtaldlapnhhhclaaGreatB8
import Derived.Test.YtaldlapnhhhclaaGreatBridge
import Derived.RangeFuncNested
import Derived.RangeFuncBound
import Derived.RangeFuncCalls
import Derived.RangeFuncLeaves
import Derived.Shelf.Abstract
import Derived.Shelf.RegionOpen
import Derived.TacticsInMore
import Derived.LoopNIn
import Derived.LoopIn
import Derived.IntWalk
set_option linter.unusedVariables false
set_option linter.unusedSimpArgs false
namespace Go.Proofs.YtaldlapnhhhclaaGreat.Data
open Go.RowKit Tw Disk
set_option maxHeartbeats 2000000
set_option maxRecDepth 100000

/-- how many sectors the area has -/
def secs (d : Dsk) : Int := max ((d.cells.length : Int) - 8) 0
theorem ret_int {k : IntKind} {a b : Int} (h : a = b) : Ending.returned (.int k a) = .returned (.int k b) := by rw [h]
section
variable {w : World} {p g mb c : Nat} {d : Dsk}
theorem c_Sectors (h : Dk w p g mb c d) : Calls Tryz.prog 73 #[.pointer (some ⟨p, 0, none⟩)] w fun e w' => e = .returned (.int .i64 (secs d)) ∧ w = w' := by
  have hn := h.ok.n
  have H := Lib.hid h
  clear h
  go_enter Tryz.func73, Tryz.ntmps73
  go_wp2_with (first
    | (go_at_call 131
       (with_reducible refine (c_Size H.out).mono ?_)
       rintro e w' ⟨rfl, rfl⟩))
  all_goals
    go_ret
    refine ⟨ret_int ?_, rfl⟩
    unfold secs
    omega
theorem c_Sectors_nil (w : World) : Calls Tryz.prog 73 #[.pointer none] w fun e w' => e = .returned (.int .i64 0) ∧ w = w' := by
  go_enter Tryz.func73, Tryz.ntmps73
  go_wp2_with (first
    | (go_at_call 131
       (with_reducible refine (c_Size_nil _).mono ?_)
       rintro e w' ⟨rfl, rfl⟩))
  go_ret
  exact ⟨rfl, rfl⟩
theorem c_check (h : Dk w p g mb c d) (x y : Int) : Calls Tryz.prog 126 #[.pointer (some ⟨p, 0, none⟩), .agg #[.int .i64 x, .int .i64 y]] w fun e w' => e = .returned (.int .i64 (if Span.Good x y (secs d) then 0 else 13)) ∧ Below w.heap.size w w' := by
  have HB := Lib.hid ((Below.refl _ _).alloc (Nat.le_refl w.heap.size) (.cells #[.int .i64 x, .int .i64 y] 144))
  have HX := Lib.hid (heap_alloc_new w (.cells #[.int .i64 x, .int .i64 y] 144))
  have H := Lib.hid (h.bel HB.out)
  clear h
  obtain ⟨b, hb⟩ : ∃ b, decide (Span.Good x y (secs d)) = b := ⟨_, rfl⟩
  have Hb := Lib.hid hb
  clear hb
  go_enter Tryz.func126, Tryz.ntmps126
  go_wp2_with (first
    | (go_at_call 62
       (with_reducible refine (c_Made H.out).mono ?_)
       rintro e w' ⟨rfl, rfl⟩))
  generalize (w.alloc (.cells #[.int .i64 x, .int .i64 y] 144)) = W1 at *
  refine wp_region_phi (by kernel_rfl) 4 none (fun _ => false) (fun i_ v wz => match i_ with
    | 0 => v = .agg #[.int .i64 x, .int .i64 y]
    | 1 => v = .pointer (some ⟨p, 0, none⟩)
    | 2 => v = .int .i64 (secs d)
    | 3 => v = .bool b
    | _ => True) (by kernel_rfl) ?_ ?_ ?_
  · (repeat' (first | exact allLt_zero | refine allLt_succ ?_ ?_))
    · exact fun _ _ _ h _ => h
    · exact fun _ _ _ h _ => h
    · exact fun _ _ _ h _ => h
    · exact fun _ _ _ h _ => h
  · (repeat' (first | exact allLt_zero | refine allLt_succ ?_ ?_))
    · intro a w' hf he
      have k3 : a.tmps.getD 3 undef = .pointer (some ⟨w.heap.size, 0, none⟩) := hf.var (by kernel_rfl) rfl
      rw [show kindRow _ _ = none from by kernel_rfl] at hf
      refine wpOp_step rfl (fun K hK => ?_)
      refine wp_load_rd 144 (.tmp 3) rfl ⟨w.heap.size, 0, none⟩ k3 [.int .i64 x, .int .i64 y] _ ((rd_of_heap (n := 2) ((hf.bel.block _ (heap_lt HX.out)).trans HX.out) rfl (by simp [maxLen])).cell _ rfl) Tryz.underlying144 rfl (by kernel_rfl) ?_
      exact hK _ _ ⟨_, rfl, rfl, World.grownBy.refl _ _⟩
    · intro a w' hf he
      have k0 : a.tmps.getD 0 undef = .pointer (some ⟨p, 0, none⟩) := hf.var (by kernel_rfl) rfl
      refine wpOp_step rfl (fun K hK => ?_)
      go_simp
      exact hK _ _ ⟨_, rfl, rfl, World.grownBy.refl _ _⟩
    · intro a w' hf he
      have f1 : a.tmps.getD 11 undef = .pointer (some ⟨p, 0, none⟩) := he 1 (by kernel_rfl)
      rw [show kindRow _ _ = none from by kernel_rfl] at hf
      refine wpOp_step rfl (fun K hK => ?_)
      go_simp
      refine (c_Sectors (H.out.bel hf.bel)).mono ?_
      rintro e w2 ⟨rfl, rfl⟩
      exact hK _ _ ⟨_, rfl, rfl, World.grownBy.refl _ _⟩
    · intro a w' hf he
      have f0 : a.tmps.getD 10 undef = .agg #[.int .i64 x, .int .i64 y] := he 0 (by kernel_rfl)
      have f2 : a.tmps.getD 12 undef = .int .i64 (secs d) := he 2 (by kernel_rfl)
      rw [show kindRow _ _ = none from by kernel_rfl] at hf
      refine wpOp_step rfl (fun K hK => ?_)
      go_simp
      refine (Span.c_Good x y (secs d) _).mono ?_
      rintro e w2 ⟨rfl, hb2⟩
      rw [Hb.out]
      exact hK _ _ ⟨_, rfl, rfl, grown_bel hb2⟩
  · intro a w' hf he
    obtain ⟨u10, f0⟩ : ∃ u, a.tmps.getD 10 undef = u := ⟨_, rfl⟩
    obtain ⟨u11, f1⟩ : ∃ u, a.tmps.getD 11 undef = u := ⟨_, rfl⟩
    obtain ⟨u12, f2⟩ : ∃ u, a.tmps.getD 12 undef = u := ⟨_, rfl⟩
    have f3 : a.tmps.getD 13 undef = .bool b := he 3 (by decide)
    have hlit := hf.lit ((10, u10) :: (11, u11) :: (12, u12) :: (13, .bool b) :: []) (by kernel_rfl) ⟨f0, f1, f2, f3, trivial⟩
    have hB := hf.bel
    clear he hf f0 f1 f2 f3 
    subst hlit
    simp only [putAll_nil, putAll_cons, Act.put, List.setIfInBounds_toArray, List.set_cons_zero, List.set_cons_succ]
    simp only [List.drop_succ_cons, List.drop_zero]
    have hB2 : Below w.heap.size w w' := HB.out.trans (hB.mono HB.out.size)
    have HB2 := Lib.hid hB2
    clear hB hB2
    cases b with
    | true =>
      have hg := of_decide_eq_true Hb.out
      have Hg := Lib.hid hg
      clear hg
      go_wp2_with fail
      go_ret
      exact ⟨rfl, HB2.out⟩
    | false =>
      have hg := of_decide_eq_false Hb.out
      have Hg := Lib.hid hg
      clear hg
      go_wp2_with fail
      go_ret
      exact ⟨rfl, HB2.out⟩
end
theorem c_check_nil (v : Value) (x y : Int) (w : World) : Calls Tryz.prog 126 #[.pointer none, .agg #[.int .i64 x, .int .i64 y]] w fun e w' => e = .returned (.int .i64 1) ∧ Below w.heap.size w w' := by
  have HB := Lib.hid ((Below.refl _ _).alloc (Nat.le_refl w.heap.size) (.cells #[.int .i64 x, .int .i64 y] 144))
  go_enter Tryz.func126, Tryz.ntmps126
  go_wp2_with (first
    | (go_at_call 62
       (with_reducible refine (c_Made_nil _).mono ?_)
       rintro e w' ⟨rfl, rfl⟩))
  go_ret
  exact ⟨rfl, HB.out⟩

section
open Go.Shelf
attribute [local go_sem] Oper.semAt_some
/-- what a round keeps: the span that the iterator reads -/
def KpS (Bs : Nat) (W W' : World) : Prop := W'.heap[Bs]? = W.heap[Bs]?
theorem kpS_t {Bs : Nat} {A B C : World} (h : KpS Bs A B) (k : KpS Bs B C) : KpS Bs A C := Eq.trans k h
theorem kpS_b {Bs : Nat} {w : World} (h1 : Bs < w.heap.size) (W : World) (l : Nat) (o o' : Obj) (hl : w.heap.size ≤ l) (_ : W.heap[l]? = some o) (_ : o.isCells = false) (_ : o.isWalk = false) : KpS Bs W (W.putObj l o') := World.putObj_heap_other (by omega)
abbrev Ix (L : Nat) := Fin L
def encI (o : Nat) {L : Nat} (i : Ix L) : Array Value := #[.int .i64 (8 + (o : Int) + (i.val : Int)), .int .i64 ((i.val : Int) * 16)]
def firsts (L k : Nat) : List (Ix L) := (List.finRange L).take k
theorem firsts_len {L k : Nat} (h : k ≤ L) : (firsts L k).length = k := by simp [firsts]; omega
theorem firsts_next {L k : Nat} (h : k < L) : firsts L (k + 1) = firsts L k ++ [⟨k, h⟩] := by
  unfold firsts
  rw [List.take_succ_eq_append_getElem (by simpa using h)]
  simp
theorem firsts_all (L : Nat) : firsts L L = List.finRange L := List.take_of_length_le (by simp)
theorem each1_in (F : Fence) (n : Nat) (hf : F.fn 171) (hro : F.round = none) (hn : 1 ≤ n) (l Bs : Nat) (o L : Nat) (ho : o ≤ 1073741824) (hL : L ≤ 1048576) (J Jx : List (Ix L) → World → Prop)
    (hY : ∀ pre x W, J pre W → pre.length < L → YieldAt F (n - 1) Tryz.prog l (encI o x) W fun e W' =>
      (e = .returned (.bool true) ∧ J (pre ++ [x]) W' ∧ KpS Bs W W') ∨ (e = .returned (.bool false) ∧ Jx (pre ++ [x]) W'))
    (W : World) (hb : W.heap[Bs]? = some (.cells #[.int .i64 (o : Int), .int .i64 (L : Int)] 144 (0, 0))) (h0 : J [] W) :
    CallsIn F n Tryz.prog 171 #[.func (.yield l) #[] #[], .pointer (some ⟨Bs, 0, none⟩)] W fun e' W' => (∃ v, e' = .returned v) ∧
      ((∃ ys, ys = List.finRange L ∧ J ys W') ∨ (∃ pre, pre <+: List.finRange L ∧ Jx pre W')) := by
  refine callsIn_of_wp Tryz.func171 rfl hf ?_ hro
  simp only [Tryz.ntmps171, List.size_toArray, List.length_cons, List.length_nil, Nat.reduceAdd, Nat.reduceSub, Array.replicate_succ, Array.replicate_zero, List.push_toArray, List.append_toArray, List.nil_append, List.cons_append]
  have c1 : W.cell? ⟨Bs, 1, none⟩ = some (.int .i64 (L : Int)) := by simp [World.cell?, hb]
  gi_wp2
  gi_loopw [6] (fun q wr => ∃ k : Nat, k ≤ L ∧ q = .int .i64 (k : Int) ∧ Hid (wr.heap[Bs]? = some (.cells #[.int .i64 (o : Int), .int .i64 (L : Int)] 144 (0, 0))) ∧ Hid (J (firsts L k) wr)) (fun q _ => (L - (intOf q).toNat))
  case atStart => exact ⟨0, Nat.zero_le _, rfl, Lib.hid hb, Lib.hid (by simpa [firsts] using h0)⟩
  case round =>
    clear c1 hb
    obtain ⟨k, hk, rfl, hb, hJk⟩ := hrel
    by_cases hkl : k < L
    · have c0 : wr.cell? ⟨Bs, 0, none⟩ = some (.int .i64 (o : Int)) := by have h1 := hb.out; simp [World.cell?, h1]
      obtain ⟨fn, tmps, assign, body, hy, hR⟩ := hY (firsts L k) ⟨k, hkl⟩ wr hJk.out (by rw [firsts_len (by omega)]; exact hkl)
      unfold encI at hy
      simp only at hy
      have HR := Lib.hid hR
      have Hnx := Lib.hid (firsts_next hkl)
      clear hR
      gi_wp2
      refine HR.out.mono ?_
      rintro e' W3 (⟨rfl, hJ3, hk3⟩ | ⟨rfl, hJx3⟩)
      · have HJ3 := Lib.hid hJ3
        have HK3 := Lib.hid (hk3.trans hb.out)
        clear hJ3 hk3
        gi_wp2
        go_roundw
        case rel => exact ⟨k + 1, hkl, by go_num, HK3, Lib.hid (by rw [Hnx.out]; exact HJ3.out)⟩
        case measure => simp [intOf] <;> omega
      · have HJ3 := Lib.hid hJx3
        clear hJx3
        gi_wp2
        refine bodyPost_ret (results_none rfl _ _ _) rfl ?_
        exact ⟨⟨_, rfl⟩, .inr ⟨firsts L k ++ [⟨k, hkl⟩], by rw [← Hnx.out]; exact List.take_prefix _ _, HJ3.out⟩⟩
    · obtain rfl : k = L := by omega
      gi_wp2
      go_end0
      exact ⟨⟨_, rfl⟩, .inl ⟨_, rfl, by rw [← firsts_all]; exact hJk.out⟩⟩
theorem each_in (F : Fence) (n : Nat) (hf : F.fn 127) (hro : F.round = none) (x y : Int) (w : World) :
    CallsIn F n Tryz.prog 127 #[.agg #[.int .i64 x, .int .i64 y]] w fun r w' => r = .returned (.func (.func 171) #[] #[.pointer (some ⟨w.heap.size, 0, none⟩)]) ∧ w' = w.alloc (.cells #[.int .i64 x, .int .i64 y] 144) := by
  refine callsIn_of_wp Tryz.func127 rfl hf ?_ hro
  simp only [Tryz.ntmps127, List.size_toArray, List.length_cons, List.length_nil, Nat.reduceAdd, Nat.reduceSub, Array.replicate_succ, Array.replicate_zero, List.push_toArray, List.append_toArray, List.nil_append, List.cons_append]
  have hmf : ∀ (fn : Fn) (first cap : Array Value) (w : World), (Instr.makeFunc fn first cap).run Tryz.prog w = .ok (.func fn first cap) w := fun _ _ _ _ => rfl
  gi_wp2
  go_ret
  exact ⟨rfl, rfl⟩
theorem each_stops (F : Fence) (n : Nat) (hf : F.fn 171) (hro : F.round = none) (hn : 1 ≤ n) (Bs o L : Nat) (ho : o ≤ 1073741824) (hL : L ≤ 1048576) (w : World) (hb : w.heap[Bs]? = some (.cells #[.int .i64 (o : Int), .int .i64 (L : Int)] 144 (0, 0))) :
    SeqStopsK F n Tryz.prog 171 #[.pointer (some ⟨Bs, 0, none⟩)] (encI o (L := L)) (KpS Bs) (fun ys => ys = List.finRange L) (fun pre => pre <+: List.finRange L) L w := fun l J Jx W hW _ _ hY h0 =>
  each1_in F n hf hro hn l Bs o L ho hL J Jx hY W ((hW.block _ (heap_lt hb)).trans hb) h0
end
end Go.Proofs.YtaldlapnhhhclaaGreat.Data
