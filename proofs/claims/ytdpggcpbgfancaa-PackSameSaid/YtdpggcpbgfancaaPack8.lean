/- Contracts of the package pack: the reader. Conditions: none. -/
import Derived.Test.YtdpggcpbgfancaaPack2
set_option linter.unusedVariables false
set_option linter.unusedSimpArgs false
namespace Go.Proofs.Ytdpggcpbgfancaa.Tw
open Go.RowKit
/-- a value of one cell stored into a cell of a block -/
theorem wpL_store_cell {P : Program} {ops : Array Oper} {rest : List Oper} {w : World} {o : Oper} {a : Act} {Q : Exit → Act → World → Prop} (hgd : o.guard = none) (hds : o.dst = none) (ty : TypeId) (x y : Operand)
    (ho : o.op = .store ty x y) (g i : Nat) (hx : a.eval x = .pointer (some ⟨g, i, none⟩)) (v : Value) (hy : a.eval y = v) (hv : v.cells = #[v]) (h1 : v.oneCell' = true) (hi : (P.info? ty).map (·.size) = some 1)
    (t : TypeId) (cs : Array Value) (hg : w.heap[g]? = some (.cells cs t (0, 0))) (hlt : i < cs.size)
    (h : ∀ w', w'.heap[g]? = some (.cells (cs.setIfInBounds i v) t (0, 0)) → w.grownBy w' (some g) → wpList P ops Q rest a w') : wpList P ops Q (o :: rest) a w := by
  refine wpList_plain hgd fun _ hK => ?_
  have hc : (w.cell? ⟨g, i, none⟩).isSome = true := by simp [World.cell?, hg, hlt]
  have hf : w.frozen? ⟨g, i, none⟩ = false := by simp [World.frozen?, hg]
  cases hq : P.info? ty with
  | none => simp [hq] at hi
  | some inf =>
    have hs : inf.size = 1 := by simpa [hq] using hi
    have hrun := run_storeCells_cells (P := P) g i [v] 0 w (fun j hj => by simp at hj; subst hj; simpa using hc) (fun j hj => by simp at hj; subst hj; simpa using hf) (by simp [h1])
    simp only [Nat.add_zero] at hrun
    unfold Oper.wp execOp
    simp [ho, hx, hy, Instr.storeAt, Instr.sureAddr, Sem.run_bind, Sem.run_pure, Result.andThen_ok, storeVar, sizeOf, typeInfo, hq, hv, hs, hrun]
    exact hK (a.put o.dst undef) _ (by rw [hds]; exact h _ (heap_setCell_same w g i cs t _ hg) (grown_setCell w g i _))
end Go.Proofs.Ytdpggcpbgfancaa.Tw
namespace Go.Proofs.Ytdpggcpbgfancaa.Pack
open Go.RowKit Tw
set_option maxHeartbeats 8000000
set_option maxRecDepth 100000
theorem cells2 {w : World} {g : Nat} {t : TypeId} {a b : Value} (h : w.heap[g]? = some (.cells #[a, b] t (0, 0))) : w.cell? ⟨g, 0, none⟩ = some a ∧ w.cell? ⟨g, 1, none⟩ = some b := by
  simp [World.cell?, h]
/-- a reader that has the bytes b of the world W0 ahead of it -/
def Rdr (W0 w : World) (g : Nat) (b : List UInt8) (out : Bool) : Prop := ∃ A n c, w.heap[g]? = some (.cells #[.slice A n c, .bool out] 125 (0, 0)) ∧ Byt W0 A n c b
def tkn (k : Nat) (b : List UInt8) : List UInt8 := if b.length < k then List.replicate k 0 else b.take k
theorem tkn_len (k : Nat) (b : List UInt8) : (tkn k b).length = k := by
  unfold tkn
  split
  · simp
  · simp; omega
theorem c_take (W0 : World) (g : Nat) (b : List UInt8) (out : Bool) (X : Int) (k : Nat) (hX : X = (k : Int)) (w : World) (h : Rdr W0 w g b out) (hB : Below W0.heap.size W0 w) (hg : W0.heap.size ≤ g) (hk : k ≤ 8) :
    Calls Try.prog 139 #[.pointer (some ⟨g, 0, none⟩), .int .i64 X] w fun e w' => ∃ A2 c2, e = .returned (.slice A2 k c2) ∧ Byt w' A2 k c2 (tkn k b) ∧ Rdr W0 w' g (b.drop k) (out || decide (b.length < k)) ∧ Fr (fun j => j = g) w w' := by
  subst hX
  obtain ⟨A, n, c, hx, hb⟩ := h
  have Hb := Lib.hid hb
  have HX := Lib.hid hx
  have HB := Lib.hid hB
  have hlen := hb.blen
  have hgl := heap_lt hx
  obtain ⟨l0, l1⟩ := cells2 hx
  clear hx hb hB
  by_cases hs : n < k
  · have Ht : Hid (tkn k b = List.replicate k 0) := Lib.hid (by unfold tkn; rw [if_pos (by omega)])
    have Hd : Hid (b.drop k = []) := Lib.hid (List.drop_eq_nil_of_le (by omega))
    have Hq : Hid (decide (b.length < k) = true) := Lib.hid (decide_eq_true (by omega))
    clear hlen
    go_enter Try.func139, Try.ntmps139
    go_wp2_with (first
      | (refine wpL_store_cell rfl rfl 4 (.tmp 16) (.const (.bool true)) rfl g 1 rfl (.bool true) rfl rfl rfl (by kernel_rfl) _ _ HX.out (by simp) ?_
         intro w2 x2 g2
         have HX2 := Lib.hid x2
         have F2 := Lib.hid (Fr.grown (S := fun k => k = g) g2 (by simp))
         clear l0 l1 x2 g2
         obtain ⟨l0, l1⟩ := cells2 HX2.out)
      | (refine wpL_store_cell rfl rfl 23 (.tmp 18) (.const (.slice none 0 0)) rfl g 0 rfl (.slice none 0 0) rfl rfl rfl (by kernel_rfl) _ _ HX2.out (by simp) ?_
         intro w3 x3 g3
         have HX3 := Lib.hid x3
         have F3 := Lib.hid (F2.out.trans (Fr.grown (S := fun k => k = g) g3 (by simp)) (fun _ _ h => h))
         clear l0 l1 x3 g3)
      | (refine wpL_make _ rfl _ _ _ rfl w3 w3.heap.size (Below.refl _ _) (Nat.le_refl _) 5 _ 1 1 Try.underlying23 Num.info_u8 _ _ _ _ k rfl rfl rfl rfl (by omega) (by unfold maxLen; omega) _ (made_u8 k) ?_
         intro w4 ho4 hb4 hg4
         have HX4 := Lib.hid ((hb4.block _ (heap_lt HX3.out)).trans HX3.out)
         have F4 := Lib.hid (F3.out.trans (Fr.of_bel hb4) (fun _ _ h => h))
         have O4 := Lib.hid ho4
         clear ho4 hb4 hg4))
    go_ret
    refine ⟨_, _, rfl, by rw [Ht.out]; exact O4.out.rd, ⟨none, 0, 0, ?_, by rw [Hd.out]; exact Rd.nil_⟩, F4.out⟩
    have := HX4.out
    rw [Hq.out, Bool.or_true]
    simpa using this
  · have Ht : Hid (tkn k b = b.take k) := Lib.hid (by unfold tkn; rw [if_neg (by omega)])
    have Hq : Hid (decide (b.length < k) = false) := Lib.hid (decide_eq_false (by omega))
    have hcap := Hb.out.le
    have hkn : k ≤ n := by omega
    clear hlen hs
    go_enter Try.func139, Try.ntmps139
    go_wp2_with (first
      | (refine wpL_store_cell rfl rfl 23 (.tmp 36) (.tmp 34) rfl g 0 rfl (.slice (if c = k then A else A.map (·.add k)) (n - k) (c - k)) rfl rfl rfl (by kernel_rfl) _ _ HX.out (by simp) ?_
         intro w2 x2 g2
         have HX2 := Lib.hid x2
         have F2 := Lib.hid (Fr.grown (S := fun k => k = g) g2 (by simp))
         clear l0 l1 x2 g2))
    all_goals
      go_ret
      have h1 := Hb.out.upto (k := k) hkn
      have h2 := Hb.out.cutB (k := k) hkn
      rw [Nat.mul_one] at h1
      refine ⟨A, k, rfl, ?_, ⟨_, _, _, ?_, h2⟩, F2.out⟩
      · rw [Ht.out]
        have h3 : Byt W0 A k c (b.take k) := by simpa [Byt, bytesV, List.map_take] using h1
        have h4 : Byt w A k k (b.take k) := (h3.below HB.out (Nat.le_refl _)).full
        have hs := F2.out.block
        refine ⟨h4.len, h4.le, h4.cap, h4.nil, fun ad e j u hu => ?_⟩
        have hc := h3.cell ad e j u hu
        have hb1 := block_lt_of_cell hc
        have hc2 := h4.cell ad e j u hu
        have hb2 := block_lt_of_cell hc2
        rw [World.cell?_of_block (w := w) (hs _ hb2 (by omega))]
        exact hc2
      · have := HX2.out
        rw [Hq.out, Bool.or_false]
        simpa using this
theorem byte_no {b : List UInt8} (h : b.length < 1) : tkn 1 b = [0] := by unfold tkn; rw [if_pos h]; rfl
theorem tkn_at (b : List UInt8) : (tkn 1 b)[0]? = some (b.getD 0 0) := by
  cases b with
  | nil => rfl
  | cons x b => simp [tkn]
theorem gv_zero (k m : Nat) : Num.gv k (List.replicate m 0) = 0 := by
  have h : ∀ m, Num.val (List.replicate m (0 : UInt8)) = 0 := by
    intro m
    induction m with
    | zero => rfl
    | succ m ih => simp [Num.val, List.replicate_succ] at ih ⊢; exact ih
  unfold Num.gv
  split
  · rw [List.take_replicate]; exact h _
  · rfl
theorem gv_tkn (k : Nat) (b : List UInt8) : Num.gv k (tkn k b) = Num.gv k b := by
  unfold tkn
  split
  · rename_i h
    rw [gv_zero, Num.gv_no h]
  · rename_i h
    rw [Num.gv_yes (b := b.take k) (by rw [List.length_take]; omega), Num.gv_yes (b := b) (by omega), List.take_take, Nat.min_self]
theorem c_wide (W0 : World) (g : Nat) (b : List UInt8) (out : Bool) (w : World) (h : Rdr W0 w g b out) (hB : Below W0.heap.size W0 w) (hg : W0.heap.size ≤ g) :
    Calls Try.prog 140 #[.pointer (some ⟨g, 0, none⟩)] w fun e w' => e = .returned (.int .u64 (Num.gv 8 b : Nat)) ∧ Rdr W0 w' g (b.drop 8) (out || decide (b.length < 8)) ∧ Fr (fun j => j = g) w w' := by
  have ht := c_take W0 g b out 8 8 rfl w h hB hg (by omega)
  have hgt := gv_tkn 8 b
  have hl := tkn_len 8 b
  generalize tkn 8 b = T at *
  generalize Num.gv 8 b = V at *
  have HV := Lib.hid hgt
  clear hgt
  go_enter Try.func140, Try.ntmps140
  go_wp2_with (first
    | (go_at_call 139
       (with_reducible refine ht.mono ?_)
       rintro e w1 ⟨A1, c1, rfl, hb1, hr1, f1⟩
       have HR := Lib.hid hr1
       have HF := Lib.hid f1
       have Hb := Lib.hid hb1
       clear ht hb1 hr1 f1)
    | (go_at_call 158
       (with_reducible refine (Num.c_Get64 A1 8 c1 T w1 Hb.out).mono ?_)
       rintro e w2 ⟨rfl, rfl⟩
       rw [HV.out]))
  go_ret
  exact ⟨rfl, HR.out, HF.out⟩
theorem c_roff (W0 : World) (g : Nat) (b : List UInt8) (out : Bool) (w : World) (h : Rdr W0 w g b out) (hB : Below W0.heap.size W0 w) (hg : W0.heap.size ≤ g) :
    Calls Try.prog 141 #[.pointer (some ⟨g, 0, none⟩)] w fun e w' => e = .returned (.int .i64 (Num.gv 2 b : Nat)) ∧ Rdr W0 w' g (b.drop 2) (out || decide (b.length < 2)) ∧ Fr (fun j => j = g) w w' := by
  have ht := c_take W0 g b out 2 2 rfl w h hB hg (by omega)
  have hgt := gv_tkn 2 b
  have hl := tkn_len 2 b
  generalize tkn 2 b = T at *
  generalize Num.gv 2 b = V at *
  have HV := Lib.hid hgt
  clear hgt
  go_enter Try.func141, Try.ntmps141
  go_wp2_with (first
    | (go_at_call 139
       (with_reducible refine ht.mono ?_)
       rintro e w1 ⟨A1, c1, rfl, hb1, hr1, f1⟩
       have HR := Lib.hid hr1
       have HF := Lib.hid f1
       have Hb := Lib.hid hb1
       clear ht hb1 hr1 f1)
    | (go_at_call 78
       (with_reducible refine (Num.c_Get16 A1 2 c1 T w1 Hb.out).mono ?_)
       rintro e w2 ⟨rfl, rfl⟩
       rw [HV.out]))
  go_ret
  exact ⟨rfl, HR.out, HF.out⟩
theorem c_byte (W0 : World) (g : Nat) (b : List UInt8) (out : Bool) (w : World) (h : Rdr W0 w g b out) (hB : Below W0.heap.size W0 w) (hg : W0.heap.size ≤ g) :
    Calls Try.prog 95 #[.pointer (some ⟨g, 0, none⟩)] w fun e w' => e = .returned (.int .u8 ((b.getD 0 0).toNat : Int)) ∧ Rdr W0 w' g (b.drop 1) (out || decide (b.length < 1)) ∧ Fr (fun j => j = g) w w' := by
  have ht := c_take W0 g b out 1 1 rfl w h hB hg (by omega)
  have hgt := tkn_at b
  have hl := tkn_len 1 b
  generalize tkn 1 b = T at *
  generalize b.getD 0 0 = V at *
  have HV := Lib.hid hgt
  clear hgt
  go_enter Try.func95, Try.ntmps95
  go_wp2_with (first
    | (go_at_call 139
       (with_reducible refine ht.mono ?_)
       rintro e w1 ⟨A1, c1, rfl, hb1, hr1, f1⟩
       have HR := Lib.hid hr1
       have HF := Lib.hid f1
       obtain ⟨ad, x, rfl, hx, hc, hxl⟩ := hb1.atB (k := 0) (by omega)
       have hxx : x = V := by have h1 := hx; have h2 := HV.out; unfold RowKit.Hid at h1; rw [h2] at h1; injection h1 with h1; exact h1.symm
       subst hxx
       have hc0 : w1.cell? ad = some (.int .u8 (x.toNat : Int)) := by simpa [Addr.add] using hc
       clear ht hr1 f1 hx hb1 hc))
  go_ret
  exact ⟨rfl, HR.out, HF.out⟩
end Go.Proofs.Ytdpggcpbgfancaa.Pack
