/- Texts joined: what the disks, the rings and their reference do. Conditions: none. -/
import Derived.Test.YtaldlapnhhhclaaGreatB1
import Derived.Laws.CopyOwn
import Derived.Deep.MidRow
import Derived.Orders
import Derived.RegionTactic
import Derived.Test.YtaldlapnhhhclaaGreatProg
import Derived.Maps.OwnOps
import Derived.Maps.OwnSet
import Derived.Maps.Keyed
import Derived.WalkSpells
import Derived.Carry
/- copy as one operation of a region. Conditions: none. -/
set_option linter.unusedVariables false
set_option linter.unusedSimpArgs false
namespace Go.Proofs.YtaldlapnhhhclaaGreat.Tw
open Go.RowKit

theorem own_apart {w : World} {b : Nat} {e : TypeId} {s : Nat} {A : Option Addr} {n c : Nat} {xs : List Value} {row : Option Nat} (h : Own w b e s A n c xs) (hr : ∀ k, some k = row → k < b) : (Value.slice A n c).ownBlock = none ∨ (Value.slice A n c).ownBlock ≠ row := by
  cases A with
  | none => exact .inl rfl
  | some ad =>
    right
    intro he
    have h1 := (h.at0 ad rfl).1
    have h2 := hr ad.block he
    omega
theorem addr_row {A : Option Addr} {n c : Nat} {k : Nat} (h : some k = (Value.slice A n c).ownBlock) : ∃ ad, A = some ad ∧ k = ad.block := by
  cases A with
  | none => simp [Value.ownBlock] at h
  | some ad => exact ⟨ad, rfl, by simpa [Value.ownBlock] using h⟩

theorem Rd.src {w : World} {A : Option Addr} {n c : Nat} {xs : List Value} (h : Rd w 1 A n c xs) (hn : 0 < n) : ∃ ad, A = some ad ∧ ∀ j v, xs[j]? = some v → w.cell? (ad.add j) = some v := by
  cases A with
  | none => have := h.nil rfl; have := h.le; omega
  | some ad => exact ⟨ad, rfl, h.cell ad rfl⟩
theorem splice_all {cur cs : List Value} (h : cs.length = cur.length) : splice cur 0 cs = cs := by simp [splice, h]
theorem grown_setCell (w : World) (g i : Nat) (v : Value) : w.grownBy (w.setCell ⟨g, i, none⟩ v) (some g) :=
  ⟨rfl, rfl, rfl, by simp [World.setCell], fun k _ hn => Below.heap_setCell _ _ _ _ (fun e => hn (by rw [e]))⟩
theorem grown_setRow (w : World) (g : Nat) (cs : Array Value) : w.grownBy (w.setRow g cs) (some g) :=
  ⟨rfl, rfl, rfl, by simp, fun k _ hn => setRow_other w g k _ (fun e => hn (by rw [e]))⟩
/-- a number stored into a row -/
theorem wpL_store_int {P : Program} {ops : Array Oper} {rest : List Oper} {w : World} {o : Oper} {a : Act} {Q : Exit → Act → World → Prop} (hgd : o.guard = none) (ty : TypeId) (x y : Operand)
    (ho : o.op = .store ty x y) (g i : Nat) (hx : a.eval x = .pointer (some ⟨g, i, none⟩)) (k : IntKind) (z : Int) (hy : a.eval y = .int k z) (hi : (P.info? ty).map (·.size) = some 1)
    (t : TypeId) (cs : Array Value) (hg : w.heap[g]? = some (.cells cs t (0, 0))) (hlt : i < cs.size)
    (h : ∀ w', w'.heap[g]? = some (.cells (cs.setIfInBounds i (.int k z)) t (0, 0)) → w.grownBy w' (some g) → wpList P ops Q rest (a.put o.dst undef) w') : wpList P ops Q (o :: rest) a w := by
  refine wpList_plain hgd fun _ hK => ?_
  have hc : (w.cell? ⟨g, i, none⟩).isSome = true := by simp [World.cell?, hg, hlt]
  have hf : w.frozen? ⟨g, i, none⟩ = false := by simp [World.frozen?, hg]
  cases hq : P.info? ty with
  | none => simp [hq] at hi
  | some inf =>
    have hs : inf.size = 1 := by simpa [hq] using hi
    have hrun := run_storeCells_cells (P := P) g i [.int k z] 0 w (fun j hj => by simp at hj; subst hj; simpa using hc) (fun j hj => by simp at hj; subst hj; simpa using hf) (by simp [Value.oneCell'])
    simp only [Nat.add_zero] at hrun
    unfold Oper.wp execOp
    simp [ho, hx, hy, Instr.storeAt, Instr.sureAddr, Sem.run_bind, Sem.run_pure, Result.andThen_ok, storeVar, sizeOf, typeInfo, hq, Value.cells, hs, hrun]
    exact hK _ _ (h _ (heap_setCell_same w g i cs t _ hg) (grown_setCell w g i _))
theorem Own.heap {w : World} {base : Nat} {e : TypeId} {g n : Nat} {xs : List Value} (h : Own w base e 1 (some ⟨g, 0, none⟩) n n xs) : w.heap[g]? = some (.cells xs.toArray e (0, 0)) := by
  rcases h.2 with ⟨hv, _⟩ | ⟨g', cap, cur, hv, _, hh, _, _, hs, ht⟩
  · injection hv with h1
    cases h1
  · injection hv with h1 _ h3
    injection h1 with h1
    injection h1 with h1
    subst h1 h3
    rw [hh]
    congr 2
    apply Array.ext'
    rw [← ht, Nat.mul_one, List.take_of_length_le (by simpa using (by omega : cur.size ≤ n))]
theorem own_of_heap {w : World} {base : Nat} {e : TypeId} {g n : Nat} {xs : List Value} (h : w.heap[g]? = some (.cells xs.toArray e (0, 0))) (hb : base ≤ g) (hl : xs.length = n) (hm : n ≤ maxLen) : Own w base e 1 (some ⟨g, 0, none⟩) n n xs :=
  ⟨by simpa using hl, .inr ⟨g, n, xs.toArray, rfl, hb, h, Nat.le_refl _, hm, by simpa using hl, by simp [← hl]⟩⟩
theorem rd_of_heap {w : World} {t : TypeId} {g n : Nat} {xs : List Value} (h : w.heap[g]? = some (.cells xs.toArray t (0, 0))) (hl : xs.length = n) (hm : n ≤ maxLen) : Rd w 1 (some ⟨g, 0, none⟩) n n xs :=
  ⟨by simpa using hl, Nat.le_refl _, hm, (fun e => by cases e), fun ad e j u hu => by
    injection e with e
    subst e
    have hj := (List.getElem?_eq_some_iff.1 hu).1
    have ha : (⟨g, 0, none⟩ : Addr).add j = ⟨g, j, none⟩ := by simp [Addr.add]; omega
    rw [ha]
    simp [World.cell?, h, hu]⟩
theorem run_loadVar_rd {P : Program} (w : World) (ad : Addr) (ty : TypeId) (cs : List Value) (d : TypeDesc) (hc : ∀ j v, cs[j]? = some v → w.cell? (ad.add j) = some v)
    (hu : P.underlying ty = some d) (hd : d.isRow = true) (hi : (P.info? ty).map (·.size) = some cs.length) : (loadVar ty ad).run P w = .ok (.agg cs.toArray) w := by
  have hl : (loadCells ad cs.length).run P w = .ok cs.toArray w := run_loadCells_list (P := P) w ad cs hc
  cases hq : P.info? ty with
  | none => simp [hq] at hi
  | some i =>
    have hs : i.size = cs.length := by simpa [hq] using hi
    have hagg : (isAgg ty).run P w = .ok true w := by
      unfold isAgg
      rw [Sem.run_bind, run_underlying hu w]
      cases d <;> simp_all
    simp [loadVar, Sem.run_bind, hagg, sizeOf, typeInfo, hq, hs, hl]
theorem wp_load_rd {P : Program} {op : Oper} {a : Act} {w : World} {K : Act → World → Prop} {Q : Exit → Act → World → Prop} (ty : TypeId) (x : Operand) (ho : op.op = .load ty x)
    (ad : Addr) (hx : a.eval x = .pointer (some ad)) (cs : List Value) (d : TypeDesc) (hc : ∀ j v, cs[j]? = some v → w.cell? (ad.add j) = some v)
    (hu : P.underlying ty = some d) (hd : d.isRow = true) (hi : (P.info? ty).map (·.size) = some cs.length) (h : K (a.put op.dst (.agg cs.toArray)) w) : op.wp P a w K Q := by
  unfold Oper.wp execOp
  simp only [ho, hx, Instr.loadAt, Instr.sureAddr, Sem.run_bind, Sem.run_pure, Result.andThen_ok, run_loadVar_rd w ad ty cs d hc hu hd hi]
  exact h
theorem bytesV_drop (l : List UInt8) (k : Nat) : bytesV (l.drop k) = (bytesV l).drop k := by simp [bytesV]
theorem bytesV_take (l : List UInt8) (k : Nat) : bytesV (l.take k) = (bytesV l).take k := by simp [bytesV]
theorem Rd.cutB {w : World} {A : Option Addr} {n c : Nat} {b : List UInt8} (h : Byt w A n c b) {k : Nat} (hk : k ≤ n) : Byt w (if c = k then A else A.map (·.add k)) (n - k) (c - k) (b.drop k) := by
  have h2 := h.cut hk
  rw [Nat.mul_one] at h2
  rw [Byt, bytesV_drop]
  exact h2
theorem Rd.uptoB {w : World} {A : Option Addr} {n c : Nat} {b : List UInt8} (h : Byt w A n c b) {k : Nat} (hk : k ≤ n) : Byt w A k c (b.take k) := by
  have h2 := h.upto hk
  rw [Nat.mul_one] at h2
  rw [Byt, bytesV_take]
  exact h2
theorem wp_copy_splice {P : Program} {w : World} {o : Oper} {a : Act} {K : Act → World → Prop} {Q : Exit → Act → World → Prop} (d s : Operand) (dT sT : TypeId)
    (ho : o.op = .call { callee := .builtin .copy, args := #[d, s], argTypes := #[dT, sT] }) (elem : TypeId) (hu : P.underlying dT = some (.slice elem)) (hsz : (P.info? elem).map (·.size) = some 1)
    (dp sp : Option Addr) (dLen dCap sLen sCap : Nat) (hd : a.eval d = .slice dp dLen dCap) (hs : a.eval s = .slice sp sLen sCap)
    (g off : Nat) (cur : List Value) (t : TypeId) (hg : w.heap[g]? = some (.cells cur.toArray t (0, 0))) (cs : List Value) (hn : cs.length = Nat.min sLen dLen)
    (hpos : 0 < cs.length → dp = some ⟨g, off, none⟩ ∧ ∃ ad, sp = some ad ∧ ∀ j v, cs[j]? = some v → w.cell? (ad.add j) = some v)
    (hfit : off + cs.length ≤ cur.length) (h1 : ∀ v ∈ cs, v.oneCell' = true)
    (h : ∀ w', w'.heap[g]? = some (.cells (splice cur off cs).toArray t (0, 0)) → w.grownBy w' (some g) → K (a.put o.dst (goInt cs.length)) w') : o.wp P a w K Q := by
  by_cases h0 : cs.length = 0
  · obtain rfl : cs = [] := List.eq_nil_of_length_eq_zero h0
    have hrun := run_copy_none (P := P) w dT sT o.type elem dp sp dLen dCap sLen sCap hu hsz (by simpa using hn.symm)
    unfold Oper.wp
    simp [execOp, ho, resolve, invoke, builtin, hd, hs, hrun, Result.andThen]
    exact h w (by simpa [splice] using hg) (World.grownBy.refl _ _)
  · obtain ⟨rfl, ad, rfl, hsrc⟩ := hpos (by omega)
    have hrun := run_copy_row (P := P) w dT sT o.type elem g off dLen dCap ad sLen sCap cur.toArray t cs hu hsz hg hn hsrc (by simpa using hfit) h1
    unfold Oper.wp
    simp only [execOp, ho, resolve, invoke, builtin, Sem.run_bind, Sem.run_pure, Result.andThen_ok, List.map_toArray, List.map_cons, List.map_nil, hd, hs, hrun]
    refine h _ (by simpa [splice] using setRow_heap w g _ _ t _ hg) ⟨rfl, rfl, rfl, by simp [World.setRow], fun k _ hn => setRow_other w g k _ (fun e => hn (by rw [e]))⟩
/-- the same, the frame as it was -/
theorem wpL_store_i0 {P : Program} {ops : Array Oper} {rest : List Oper} {w : World} {o : Oper} {a : Act} {Q : Exit → Act → World → Prop} (hgd : o.guard = none) (hds : o.dst = none) (ty : TypeId) (x y : Operand)
    (ho : o.op = .store ty x y) (g i : Nat) (hx : a.eval x = .pointer (some ⟨g, i, none⟩)) (k : IntKind) (z : Int) (hy : a.eval y = .int k z) (hi : (P.info? ty).map (·.size) = some 1)
    (t : TypeId) (cs : Array Value) (hg : w.heap[g]? = some (.cells cs t (0, 0))) (hlt : i < cs.size)
    (h : ∀ w', w'.heap[g]? = some (.cells (cs.setIfInBounds i (.int k z)) t (0, 0)) → w.grownBy w' (some g) → wpList P ops Q rest a w') : wpList P ops Q (o :: rest) a w :=
  wpL_store_int hgd ty x y ho g i hx k z hy hi t cs hg hlt fun w' h1 h2 => by
    rw [hds]
    exact h w' h1 h2
/-- a slice stored into a cell of a block -/
theorem wpL_store_slice {P : Program} {ops : Array Oper} {rest : List Oper} {w : World} {o : Oper} {a : Act} {Q : Exit → Act → World → Prop} (hgd : o.guard = none) (hds : o.dst = none) (ty : TypeId) (x y : Operand)
    (ho : o.op = .store ty x y) (g i : Nat) (hx : a.eval x = .pointer (some ⟨g, i, none⟩)) (A : Option Addr) (n c : Nat) (hy : a.eval y = .slice A n c) (hi : (P.info? ty).map (·.size) = some 1)
    (t : TypeId) (cs : Array Value) (hg : w.heap[g]? = some (.cells cs t (0, 0))) (hlt : i < cs.size)
    (h : ∀ w', w'.heap[g]? = some (.cells (cs.setIfInBounds i (.slice A n c)) t (0, 0)) → w.grownBy w' (some g) → wpList P ops Q rest a w') : wpList P ops Q (o :: rest) a w := by
  refine wpList_plain hgd fun _ hK => ?_
  have hc : (w.cell? ⟨g, i, none⟩).isSome = true := by simp [World.cell?, hg, hlt]
  have hf : w.frozen? ⟨g, i, none⟩ = false := by simp [World.frozen?, hg]
  cases hq : P.info? ty with
  | none => simp [hq] at hi
  | some inf =>
    have hs : inf.size = 1 := by simpa [hq] using hi
    have hrun := run_storeCells_cells (P := P) g i [.slice A n c] 0 w (fun j hj => by simp at hj; subst hj; simpa using hc) (fun j hj => by simp at hj; subst hj; simpa using hf) (by simp [Value.oneCell'])
    simp only [Nat.add_zero] at hrun
    unfold Oper.wp execOp
    simp [ho, hx, hy, Instr.storeAt, Instr.sureAddr, Sem.run_bind, Sem.run_pure, Result.andThen_ok, storeVar, sizeOf, typeInfo, hq, Value.cells, hs, hrun]
    exact hK (a.put o.dst undef) _ (by rw [hds]; exact h _ (heap_setCell_same w g i cs t _ hg) (grown_setCell w g i _))
/-- a number stored into a slice of the call's own -/
theorem wpL_store_own {P : Program} {ops : Array Oper} {rest : List Oper} {w : World} {o : Oper} {a : Act} {Q : Exit → Act → World → Prop} (hgd : o.guard = none) (ty : TypeId) (x y : Operand)
    (ho : o.op = .store ty x y) (base : Nat) (e : TypeId) (g i n c : Nat) (hx : a.eval x = .pointer (some ⟨g, i, none⟩)) (k : IntKind) (z : Int) (hy : a.eval y = .int k z) (hinf : (P.info? ty).map (·.size) = some 1)
    (xs : List Value) (hown : Own w base e 1 (some ⟨g, 0, none⟩) n c xs) (hi : i < n) (ys : List Value) (hys : xs.set i (.int k z) = ys)
    (h : ∀ w', Own w' base e 1 (some ⟨g, 0, none⟩) n c ys → w.grownBy w' (some g) → wpList P ops Q rest (a.put o.dst undef) w') : wpList P ops Q (o :: rest) a w := by
  subst hys
  rcases hown.2 with ⟨hv, _⟩ | ⟨g', cap, cur, hv, hb, hh, hnc, hcm, hs, ht⟩
  · injection hv with h1
    cases h1
  · injection hv with h1 _ h3
    injection h1 with h1
    injection h1 with h1
    subst h1 h3
    refine wpL_store_int hgd ty x y ho g i hx k z hy hinf _ cur hh (by omega) fun w' h2 h3 => h w' ⟨?_, .inr ⟨g, c, _, rfl, hb, h2, hnc, hcm, by simpa using hs, ?_⟩⟩ h3
    · have := hown.1
      simpa using this
    · rw [← ht, Array.toList_setIfInBounds, List.take_set]
theorem wpL_copy {P : Program} {ops : Array Oper} {rest : List Oper} {w : World} {o : Oper} {a : Act} {Q : Exit → Act → World → Prop} (hgd : o.guard = none) (d s : Operand) (dT sT : TypeId)
    (ho : o.op = .call { callee := .builtin .copy, args := #[d, s], argTypes := #[dT, sT] }) (elem : TypeId) (hu : P.underlying dT = some (.slice elem)) (hsz : (P.info? elem).map (·.size) = some 1)
    (dp sp : Option Addr) (dLen dCap sLen sCap : Nat) (hd : a.eval d = .slice dp dLen dCap) (hs : a.eval s = .slice sp sLen sCap)
    (g off : Nat) (cur : List Value) (t : TypeId) (hg : w.heap[g]? = some (.cells cur.toArray t (0, 0))) (cs : List Value) (k : Nat) (hk : cs.length = k) (hn : k = Nat.min sLen dLen)
    (hpos : 0 < k → dp = some ⟨g, off, none⟩ ∧ ∃ ad, sp = some ad ∧ ∀ j v, cs[j]? = some v → w.cell? (ad.add j) = some v)
    (hfit : off + k ≤ cur.length) (h1 : ∀ v ∈ cs, v.oneCell' = true) (ys : List Value) (hys : splice cur off cs = ys)
    (h : ∀ w', w'.heap[g]? = some (.cells ys.toArray t (0, 0)) → w.grownBy w' (some g) → wpList P ops Q rest (a.put o.dst (.int .i64 k)) w') : wpList P ops Q (o :: rest) a w := by
  subst hk hys
  exact wpList_plain hgd fun _ hK => wp_copy_splice d s dT sT ho elem hu hsz dp sp dLen dCap sLen sCap hd hs g off cur t hg cs hn hpos hfit h1 fun w' h2 h3 => hK _ _ (h w' h2 h3)
end Go.Proofs.YtaldlapnhhhclaaGreat.Tw
/- A region that draws its order, by one fact for each operation: what it leaves in its slot, said of whatever world comes behind; the operations behind the first N (each after all before it) are walked in the text's order. Conditions: none. -/
namespace Go.Proofs.YtaldlapnhhhclaaGreat.Tw
open Go.RowKit

def dstOf (ops : Array Oper) (i : Nat) : Option Tmp := (ops[i]?).bind (·.dst)
def slotV (ops : Array Oper) (a : Act) (i : Nat) : Value := match dstOf ops i with | some d => a.tmps.getD d undef | none => undef

/-- does operation i stand behind operation j, by a chain of edges? -/
def ancB (ops : Array Oper) : Nat → Nat → Nat → Bool
  | 0, _, _ => false
  | n + 1, i, j => match ops[i]? with | some o => o.after.any fun e => Region.binds .any e && (e.on == j || ancB ops n e.on j) | none => false
def chkR (ops : Array Oper) (N sz : Nat) : Bool :=
  ((List.range ops.size).all fun i => match ops[i]? with | none => true | some o => o.after.all fun e => !Region.binds .any e || decide (e.on < i)) &&
  ((List.range N).all fun i => (List.range i).all fun j => dstOf ops i == none || dstOf ops i != dstOf ops j) &&
  ((List.range N).all fun i => match dstOf ops i with | some d => decide (d < sz) | none => false) &&
  ((List.range ops.size).all fun k => decide (k < N) || (List.range k).all fun j => ancB ops ops.size k j) &&
  decide (N ≤ ops.size)

/-- every operation that turns the row stands ahead of i, or is i -/
def clsB (ops : Array Oper) (N : Nat) (kind : Nat → Bool) (i : Nat) : Bool := (List.range N).all fun j => !kind j || j == i || ancB ops ops.size i j

/-- every operation that turns the row stands behind i, or is i -/
def preB (ops : Array Oper) (N : Nat) (kind : Nat → Bool) (i : Nat) : Bool := (List.range N).all fun j => !kind j || j == i || ancB ops ops.size j i

theorem grownBy_none {w w' : World} {row : Option Nat} (h : w.grownBy w' none) : w.grownBy w' row := ⟨h.os, h.tape, h.output, h.size, fun k hk _ => h.block k hk (by simp)⟩
def kindRow (row : Option Nat) (b : Bool) : Option Nat := if b = true then row else none
theorem kindRow_row {w w' : World} {row : Option Nat} {b : Bool} (h : w.grownBy w' (kindRow row b)) : w.grownBy w' row := by
  cases b with
  | true => exact h
  | false => exact grownBy_none h

structure RFacts (ops : Array Oper) (N : Nat) (a0 : Act) (w0 : World) (row : Option Nat) (a : Act) (w : World) : Prop where
  size : a.tmps.size = a0.tmps.size
  defers : a.defers = a0.defers
  grown : w0.grownBy w row
  keep : ∀ s, (∀ i, i < N → dstOf ops i ≠ some s) → a.tmps.getD s undef = a0.tmps.getD s undef

def unl (l : Array Bool) : Nat := l.toList.countP (· == false)

theorem countP_set_false : ∀ (l : List Bool) (i : Nat), l[i]? = some false → (l.set i true).countP (· == false) + 1 = l.countP (· == false)
  | [], i, h => by simp at h
  | b :: l, 0, h => by
    simp at h
    subst h
    simp
  | b :: l, i + 1, h => by
    simp at h
    have := countP_set_false l i h
    cases b <;> simp at * <;> omega

theorem unl_set {l : Array Bool} {i : Nat} (h : l.getD i true = false) : unl (l.setIfInBounds i true) + 1 = unl l := by
  unfold unl
  rw [Array.toList_setIfInBounds]
  refine countP_set_false _ _ ?_
  by_cases hi : i < l.size
  · simp [Array.getD, hi] at h
    simp [hi, h]
  · simp [Array.getD, hi] at h

theorem unl_zero {l : Array Bool} (h : unl l = 0) {i : Nat} (hi : i < l.size) : l.getD i false = true := by
  unfold unl at h
  rw [List.countP_eq_zero] at h
  have := h l[i] (by simp)
  simp [Array.getD, hi]
  simpa using this

section
variable {P : Program} {ops : Array Oper} {Q : Exit → Act → World → Prop}

theorem getD_of_false {l : Array Bool} {i : Nat} (h : l.getD i true = false) : i < l.size ∧ l.getD i false = false := by
  by_cases hi : i < l.size
  · simp [Array.getD, hi] at h ⊢
    exact h
  · simp [Array.getD, hi] at h

/-- some operation that is not listed is ready, where edges go back alone -/
theorem ready_least (hback : ∀ i o, ops[i]? = some o → ∀ e ∈ o.after, Region.binds .any e = true → e.on < i) {l : Array Bool} (hl : l.size = ops.size) :
    ∀ n i, i ≤ n → i < ops.size → l.getD i false = false → ∃ j, j ∈ Region.ready .any ops l := by
  intro n
  induction n with
  | zero =>
    intro i hi hlt hf
    have : i = 0 := by omega
    subst this
    refine ⟨0, mem_ready.2 ⟨by simp [Array.getD, hl, hlt] at hf ⊢; exact hf, ops[0], by simp [hlt], fun e he hb => ?_⟩⟩
    have := hback 0 _ (by simp [hlt]) e he hb
    omega
  | succ n ih =>
    intro i hi hlt hf
    by_cases hall : ∀ e ∈ (ops[i]'hlt).after, Region.binds .any e = true → l.getD e.on false = true
    · exact ⟨i, mem_ready.2 ⟨by simp [Array.getD, hl, hlt] at hf ⊢; exact hf, ops[i], by simp [hlt], hall⟩⟩
    · simp only [Classical.not_forall] at hall
      obtain ⟨e, he, hb, hne⟩ := hall
      have hlt2 := hback i _ (by simp [hlt]) e he hb
      exact ih e.on (by omega) (by omega) (by simpa using hne)

theorem ready_nil_all (hback : ∀ i o, ops[i]? = some o → ∀ e ∈ o.after, Region.binds .any e = true → e.on < i) {l : Array Bool} (hl : l.size = ops.size) (h : Region.ready .any ops l = []) {i : Nat} (hi : i < ops.size) : l.getD i false = true := by
  cases hf : l.getD i false with
  | true => rfl
  | false =>
    obtain ⟨j, hj⟩ := ready_least hback hl i i (Nat.le_refl _) hi hf
    rw [h] at hj
    cases hj

theorem getD_set (l : Array Bool) (i j : Nat) : (l.setIfInBounds i true).getD j false = if i = j ∧ j < l.size then true else l.getD j false := by
  by_cases hij : i = j
  · subst hij
    by_cases hi : i < l.size
    · simp [Array.getD, hi]
    · simp [Array.getD, hi]
  · by_cases hj : j < l.size
    · simp [Array.getD, hj, hij]
    · simp [Array.getD, hj]

theorem getD_put (a : Act) (dst : Option Tmp) (v : Value) (s : Nat) : (a.put dst v).tmps.getD s undef = if dst = some s ∧ s < a.tmps.size then v else a.tmps.getD s undef := by
  cases dst with
  | none => simp [Act.put]
  | some d =>
    by_cases hd : d = s
    · subst hd
      by_cases hs : d < a.tmps.size
      · simp [Act.put, Array.getD, hs]
      · simp [Act.put, Array.getD, hs]
    · by_cases hs : s < a.tmps.size
      · simp [Act.put, Array.getD, hs, hd]
      · simp [Act.put, Array.getD, hs]

theorem size_put (a : Act) (dst : Option Tmp) (v : Value) : (a.put dst v).tmps.size = a.tmps.size := by cases dst <;> simp [Act.put]
theorem defers_put (a : Act) (dst : Option Tmp) (v : Value) : (a.put dst v).defers = a.defers := by cases dst <;> simp [Act.put]

theorem anc_listed {l : Array Bool} (hcl : ∀ i o, l.getD i false = true → ops[i]? = some o → ∀ e ∈ o.after, Region.binds .any e = true → l.getD e.on false = true) :
    ∀ n i j, l.getD i false = true → ancB ops n i j = true → l.getD j false = true := by
  intro n
  induction n with
  | zero => intro i j _ h; simp [ancB] at h
  | succ n ih =>
    intro i j hi h
    unfold ancB at h
    split at h
    · rename_i o ho
      rw [Array.any_eq_true'] at h
      obtain ⟨e, hm, hx⟩ := h
      simp at hx
      have he := hcl i o hi ho e hm hx.1
      rcases hx.2 with h | h
      · exact h ▸ he
      · exact ih e.on j he h
    · cases h

/-- what stands ahead of a ready operation is listed -/
theorem ready_anc {l : Array Bool} (hcl : ∀ i o, l.getD i false = true → ops[i]? = some o → ∀ e ∈ o.after, Region.binds .any e = true → l.getD e.on false = true) {i j n : Nat} {o : Oper} (ho : ops[i]? = some o) (he : ∀ e ∈ o.after, Region.binds .any e = true → l.getD e.on false = true) (h : ancB ops n i j = true) : l.getD j false = true := by
  cases n with
  | zero => simp [ancB] at h
  | succ n =>
    simp only [ancB, ho, Array.any_eq_true'] at h
    obtain ⟨e, hm, hx⟩ := h
    simp at hx
    rcases hx.2 with h | h
    · exact h ▸ he e hm hx.1
    · exact anc_listed hcl _ _ _ (he e hm hx.1) h

/-- the tail, in the text's order -/
theorem any_tail {N : Nat} (htail : ∀ k, N ≤ k → k < ops.size → ∀ j, j < k → ancB ops ops.size k j = true)
    (hback : ∀ i o, ops[i]? = some o → ∀ e ∈ o.after, Region.binds .any e = true → e.on < i) :
    ∀ (fuel : Nat) (l : Array Bool) (k : Nat), N ≤ k → l.size = ops.size → unl l = fuel → (∀ j, j < ops.size → (l.getD j false = true ↔ j < k)) → ∀ a w, wpList P ops Q (ops.toList.drop k) a w → wpAny P .any ops Q fuel l a w := by
  intro fuel
  induction fuel with
  | zero =>
    intro l k hk hl hu hls a w h
    have hall : ∀ i, i < ops.size → l.getD i false = true := fun i hi => unl_zero hu (by omega)
    refine ⟨?_, ?_⟩
    · cases hr : Region.ready .any ops l with
      | nil => rfl
      | cons j js =>
        have hj : j ∈ Region.ready .any ops l := by rw [hr]; exact List.mem_cons_self
        obtain ⟨h1, o, ho, _⟩ := mem_ready.1 hj
        obtain ⟨h2, h3⟩ := getD_of_false h1
        rw [hall j (by omega)] at h3
        cases h3
    · have : ops.toList.drop k = [] := by
        rw [List.drop_eq_nil_iff, Array.length_toList]
        rcases Nat.lt_or_ge k ops.size with hlt | hge
        · have := (hls k hlt).1 (hall k hlt); omega
        · exact hge
      rw [this] at h
      exact h
  | succ fuel ih =>
    intro l k hk hl hu hls a w h
    refine ⟨fun hr => ?_, fun i hi => ?_⟩
    · have : ops.toList.drop k = [] := by
        rw [List.drop_eq_nil_iff, Array.length_toList]
        rcases Nat.lt_or_ge k ops.size with hlt | hge
        · have := (hls k hlt).1 (ready_nil_all hback hl hr hlt); omega
        · exact hge
      rw [this] at h
      exact h
    · obtain ⟨h1, o, ho, he⟩ := mem_ready.1 hi
      obtain ⟨h2, h3⟩ := getD_of_false h1
      have hik : ¬ i < k := fun hlt => by rw [(hls i (by omega)).2 hlt] at h3; cases h3
      have hki : i = k := by
        rcases Nat.lt_or_ge k i with hlt | hge
        · have hcl : ∀ i o, l.getD i false = true → ops[i]? = some o → ∀ e ∈ o.after, Region.binds .any e = true → l.getD e.on false = true := by
            intro i' o' hl' ho' e' hm' hb'
            have h5 := (Array.getElem?_eq_some_iff.1 ho').1
            have h6 := (hls i' h5).1 hl'
            have h7 := hback i' o' ho' e' hm' hb'
            exact (hls e'.on (by omega)).2 (by omega)
          have := (hls k (by omega)).1 (ready_anc hcl ho he (htail i (by omega) (by omega) k hlt))
          omega
        · omega
      subst hki
      have hd : ops.toList.drop i = o :: ops.toList.drop (i + 1) := by
        rw [List.drop_eq_getElem_cons (by simp; omega)]
        congr 1
        obtain ⟨_, hx⟩ := Array.getElem?_eq_some_iff.1 ho
        simpa using hx
      rw [hd] at h
      have hih : ∀ a w, wpList P ops Q (ops.toList.drop (i + 1)) a w → wpAny P .any ops Q fuel (l.setIfInBounds i true) a w := fun a w h => by
        refine ih _ (i + 1) (by omega) (by simpa using hl) (by have := unl_set h1; omega) (fun j hj => ?_) a w h
        rw [getD_set]
        by_cases hij : i = j
        · subst hij
          rw [if_pos ⟨rfl, by omega⟩]
          simp
        · rw [if_neg (fun h => hij h.1), hls j hj]
          omega
      unfold wpOp
      rw [ho]
      simp only [wpList] at h
      by_cases hw : Region.wanted o (yielded ops a.tmps) = true
      · simp only [hw, if_true] at h ⊢
        exact h.imp (Oper.wp_mono hih) id
      · simp only [hw] at h ⊢
        exact hih _ _ h

theorem wpAny_facts {a0 : Act} {w : World} (N : Nat) (row : Option Nat) (kind : Nat → Bool) (Φ : Nat → Value → World → Prop)
    (hchk : chkR ops N a0.tmps.size = true)
    (hstab : ∀ i, i < N → ∀ v w w', Φ i v w → w.grownBy w' (kindRow row (!clsB ops N kind i)) → Φ i v w')
    (h1 : ∀ i, i < N → ∀ a w', RFacts ops N a0 w.drew (kindRow row (!preB ops N kind i)) a w' → (∀ o, ops[i]? = some o → ∀ e ∈ o.after, Region.binds .any e = true → Φ e.on (slotV ops a e.on) w') →
      wpOp P ops Q i (fun a' w2 => ∃ v, a' = a.put (dstOf ops i) v ∧ Φ i v w2 ∧ w'.grownBy w2 (kindRow row (kind i))) a w')
    (h2 : ∀ a w', RFacts ops N a0 w.drew row a w' → (∀ i, i < N → Φ i (slotV ops a i) w') → wpList P ops Q (ops.toList.drop N) a w') :
    wpAny P .any ops Q ops.size (Array.replicate ops.size false) a0 { w with drawn := w.drawn + 1 } := by
  have hcls : ∀ i, clsB ops N kind i = true → ∀ j, j < N → kind j = true → j = i ∨ ancB ops ops.size i j = true := by
    intro i hc j hj hk
    simp only [clsB, List.all_eq_true, List.mem_range] at hc
    have := hc j hj
    simp [hk] at this
    exact this
  have hpreB : ∀ i, preB ops N kind i = true → ∀ j, j < N → kind j = true → j = i ∨ ancB ops ops.size j i = true := by
    intro i hc j hj hk
    simp only [preB, List.all_eq_true, List.mem_range] at hc
    have := hc j hj
    simp [hk] at this
    exact this
  simp only [chkR, Bool.and_eq_true, List.all_eq_true, List.mem_range, decide_eq_true_eq] at hchk
  obtain ⟨⟨⟨⟨hb0, hd0⟩, hs0⟩, ht0⟩, hN⟩ := hchk
  have hback : ∀ i o, ops[i]? = some o → ∀ e ∈ o.after, Region.binds .any e = true → e.on < i := by
    intro i o ho e he hb
    have hi : i < ops.size := (Array.getElem?_eq_some_iff.1 ho).1
    have := hb0 i hi
    simp only [ho, Array.all_eq_true_iff_forall_mem] at this
    have := this e he
    simpa [hb] using this
  have hdist : ∀ i, i < N → ∀ j, j < N → i ≠ j → ∀ d, dstOf ops i = some d → dstOf ops j ≠ some d := by
    intro i hi j hj hij d hd hd2
    rcases Nat.lt_or_gt_of_ne hij with hlt | hgt
    · have := hd0 j hj i hlt
      simp [hd, hd2] at this
    · have := hd0 i hi j hgt
      simp [hd, hd2] at this
  have hsz : ∀ i, i < N → ∀ d, dstOf ops i = some d → d < a0.tmps.size := by
    intro i hi d hd
    have := hs0 i hi
    simpa [hd] using this
  have hnn : ∀ i, i < N → dstOf ops i ≠ none := by
    intro i hi hd
    have := hs0 i hi
    simp [hd] at this
  have htail : ∀ k, N ≤ k → k < ops.size → ∀ j, j < k → ancB ops ops.size k j = true := by
    intro k hk hkl j hj
    have := ht0 k hkl
    simp only [Bool.or_eq_true, decide_eq_true_eq, List.all_eq_true, List.mem_range] at this
    rcases this with h | h
    · omega
    · exact h j hj
  have main : ∀ (fuel : Nat) (l : Array Bool), l.size = ops.size → unl l = fuel → (∀ k, N ≤ k → k < ops.size → l.getD k false = false) → (∀ i o, l.getD i false = true → ops[i]? = some o → ∀ e ∈ o.after, Region.binds .any e = true → l.getD e.on false = true) →
      ∀ a w', RFacts ops N a0 w.drew row a w' → ((∀ j, j < N → kind j = true → l.getD j false = false) → w.drew.grownBy w' none) → (∀ i, i < N → l.getD i false = true → Φ i (slotV ops a i) w') → wpAny P .any ops Q fuel l a w' := by
    intro fuel
    induction fuel with
    | zero =>
      intro l hl hu hnt hcl a w' hf hg0 hΦ
      have hall : ∀ i, i < ops.size → l.getD i false = true := fun i hi => unl_zero hu (by omega)
      have hNe : N = ops.size := by
        rcases Nat.lt_or_ge N ops.size with hlt | hge
        · have := hnt N (Nat.le_refl _) hlt
          rw [hall N hlt] at this
          cases this
        · omega
      refine any_tail htail hback 0 l N (Nat.le_refl _) hl hu (fun j hj => ⟨fun _ => by omega, fun _ => hall j hj⟩) a w' (h2 a w' hf fun i hi => hΦ i hi (hall i (by omega)))
    | succ fuel ih =>
      intro l hl hu hnt hcl a w' hf hg0 hΦ
      by_cases hpre : ∀ i, i < N → l.getD i false = true
      · refine any_tail htail hback (fuel + 1) l N (Nat.le_refl _) hl hu (fun j hj => ⟨fun hlj => ?_, fun hj => hpre j hj⟩) a w' (h2 a w' hf fun i hi => hΦ i hi (hpre i hi))
        rcases Nat.lt_or_ge j N with hlt | hge
        · exact hlt
        · rw [hnt j hge hj] at hlj; cases hlj
      · refine ⟨fun hr => ?_, fun i hi => ?_⟩
        · exact (hpre fun i hi => ready_nil_all hback hl hr (by omega)).elim
        · obtain ⟨g1, o, ho, he⟩ := mem_ready.1 hi
          obtain ⟨g2, g3⟩ := getD_of_false g1
          have hiN : i < N := by
            rcases Nat.lt_or_ge i N with hlt | hge
            · exact hlt
            · refine (hpre fun j hj => ?_).elim
              exact ready_anc hcl ho he (htail i hge (by omega) j (by omega))
          have hedge : ∀ o', ops[i]? = some o' → ∀ e ∈ o'.after, Region.binds .any e = true → Φ e.on (slotV ops a e.on) w' := by
            intro o' ho' e he' hb
            rw [ho] at ho'
            injection ho' with ho'
            subst ho'
            have hlt := hback i o ho e he' hb
            exact hΦ e.on (by omega) (he e he' hb)
          have hf' : RFacts ops N a0 w.drew (kindRow row (!preB ops N kind i)) a w' := by
            refine ⟨hf.size, hf.defers, ?_, hf.keep⟩
            cases hp : preB ops N kind i with
            | false => exact hf.grown
            | true =>
              refine hg0 fun j hj hk => ?_
              cases hlj : l.getD j false with
              | false => rfl
              | true =>
                rcases hpreB i hp j hj hk with h | h
                · subst h; rw [g3] at hlj; cases hlj
                · have := anc_listed hcl _ _ _ hlj h
                  rw [g3] at this
                  cases this
          refine wpOp_mono ?_ (h1 i hiN a w' hf' hedge)
          rintro a' w2 ⟨v, rfl, hv, hg⟩
          refine ih _ (by simpa using hl) (by have := unl_set g1; omega) (fun k hk hks => ?_) (fun k ok hlk hok e hem hb => ?_) _ w2 ?_ (fun hno => ?_) ?_
          · rw [getD_set, if_neg (by omega)]
            exact hnt k hk hks
          · rw [getD_set] at hlk ⊢
            by_cases hik : i = k
            · subst hik
              rw [ho] at hok
              injection hok with hok
              subst hok
              split
              · rfl
              · exact he e hem hb
            · rw [if_neg (fun h => hik h.1)] at hlk
              split
              · rfl
              · exact hcl k ok hlk hok e hem hb
          · refine ⟨by rw [size_put]; exact hf.size, by rw [defers_put]; exact hf.defers, hf.grown.trans (kindRow_row hg), fun s hs => ?_⟩
            rw [getD_put, if_neg (fun h => hs i hiN h.1)]
            exact hf.keep s hs
          · have hki : kind i = false := by
              cases hk : kind i with
              | false => rfl
              | true =>
                have := hno i hiN hk
                rw [getD_set, if_pos ⟨rfl, by omega⟩] at this
                cases this
            refine (hg0 fun j hj hk => ?_).trans (by rw [hki] at hg; exact hg)
            have := hno j hj hk
            rw [getD_set] at this
            split at this
            · cases this
            · exact this
          · intro j hj hlj
            unfold slotV
            by_cases hij : i = j
            · subst hij
              cases hd : dstOf ops i with
              | none => exact (hnn i hiN hd).elim
              | some d =>
                dsimp only
                rw [getD_put, if_pos ⟨rfl, by rw [hf.size]; exact hsz i hiN d hd⟩]
                exact hv
            · rw [getD_set, if_neg (fun h => hij h.1)] at hlj
              have hanc : ancB ops ops.size j i = false := by
                cases hb : ancB ops ops.size j i with
                | false => rfl
                | true =>
                  have := anc_listed hcl _ _ _ hlj hb
                  rw [g3] at this
                  cases this
              have hg' : w'.grownBy w2 (kindRow row (!clsB ops N kind j)) := by
                cases hc : clsB ops N kind j with
                | false => exact kindRow_row hg
                | true =>
                  cases hk : kind i with
                  | false => rw [hk] at hg; exact hg
                  | true =>
                    rcases hcls j hc i hiN hk with h | h
                    · exact (hij h).elim
                    · rw [hanc] at h; cases h
              have hold := hstab j hj _ _ _ (hΦ j hj hlj) hg'
              unfold slotV at hold
              cases hd : dstOf ops j with
              | none => simp only [hd] at hold ⊢; exact hold
              | some d =>
                simp only [hd] at hold ⊢
                rw [getD_put, if_neg (fun h => hdist j hj i hiN (fun e => hij e.symm) d hd h.1)]
                exact hold
  refine main ops.size _ (by simp) ?_ (fun k _ _ => ?_) (fun i o h => ?_) a0 _ ⟨rfl, rfl, World.grownBy.refl _ _, fun _ _ => rfl⟩ (fun _ => World.grownBy.refl _ _) (fun i _ h => ?_)
  · show (Array.replicate ops.size false).toList.countP _ = _
    rw [Array.toList_replicate, List.countP_replicate]
    simp
  · simp [Array.getD]
  · simp [Array.getD] at h
  · simp [Array.getD] at h

theorem allLt_zero {p : Nat → Prop} : ∀ i, i < 0 → p i := fun i h => by omega
theorem allLt_succ {N : Nat} {p : Nat → Prop} (h : ∀ i, i < N → p i) (h1 : p N) : ∀ i, i < N + 1 → p i := fun i hi => by
  rcases Nat.lt_succ_iff_lt_or_eq.1 hi with h2 | h2
  · exact h i h2
  · exact h2 ▸ h1

def depB (ops : Array Oper) (i j : Nat) : Bool := match ops[i]? with | some o => o.after.any fun e => Region.binds .any e && e.on == j | none => false
def keepB (ops : Array Oper) (N s : Nat) : Bool := (List.range N).all fun i => dstOf ops i != some s

theorem RFacts.var {N : Nat} {a0 a : Act} {w0 w : World} {row : Option Nat} (h : RFacts ops N a0 w0 row a w) {s : Nat} {v : Value} (hk : keepB ops N s = true) (hv : a0.tmps.getD s undef = v) : a.tmps.getD s undef = v := by
  rw [← hv]
  refine h.keep s fun i hi hd => ?_
  simp only [keepB, List.all_eq_true, List.mem_range] at hk
  have := hk i hi
  simp [hd] at this

theorem wpAny_phi {a0 : Act} {w : World} (N : Nat) (row : Option Nat) (kind : Nat → Bool) (Φ : Nat → Value → World → Prop)
    (hchk : chkR ops N a0.tmps.size = true)
    (hstab : ∀ i, i < N → ∀ v w w', Φ i v w → w.grownBy w' (kindRow row (!clsB ops N kind i)) → Φ i v w')
    (h1 : ∀ i, i < N → ∀ a w', RFacts ops N a0 w.drew (kindRow row (!preB ops N kind i)) a w' → (∀ j, depB ops i j = true → Φ j (slotV ops a j) w') →
      wpOp P ops Q i (fun a' w2 => ∃ v, a' = a.put (dstOf ops i) v ∧ Φ i v w2 ∧ w'.grownBy w2 (kindRow row (kind i))) a w')
    (h2 : ∀ a w', RFacts ops N a0 w.drew row a w' → (∀ i, i < N → Φ i (slotV ops a i) w') → wpList P ops Q (ops.toList.drop N) a w') :
    wpAny P .any ops Q ops.size (Array.replicate ops.size false) a0 { w with drawn := w.drawn + 1 } := by
  have hN : N ≤ ops.size := by
    simp only [chkR, Bool.and_eq_true, decide_eq_true_eq] at hchk
    exact hchk.2
  have hb0 : ∀ i, i < ops.size → ∀ o, ops[i]? = some o → ∀ e ∈ o.after, Region.binds .any e = true → e.on < i := by
    simp only [chkR, Bool.and_eq_true, List.all_eq_true, List.mem_range] at hchk
    intro i hi o ho e he hb
    have := hchk.1.1.1.1 i hi
    simp only [ho, Array.all_eq_true_iff_forall_mem] at this
    have := this e he
    simpa [hb] using this
  refine wpAny_facts N row kind (fun i v w => i < N → Φ i v w) hchk (fun i _ v w w' h hg hi => hstab i hi v w w' (h hi) hg) (fun i hi a w' hf he => ?_) (fun a w' hf h => h2 a w' hf fun i hi => h i hi hi)
  refine wpOp_mono ?_ (h1 i hi a w' hf fun j hj => ?_)
  · rintro a' w2 ⟨v, h1, h2, h3⟩
    exact ⟨v, h1, fun _ => h2, h3⟩
  · unfold depB at hj
    split at hj
    · rename_i o ho
      rw [Array.any_eq_true'] at hj
      obtain ⟨e, hm2, hx⟩ := hj
      simp at hx
      obtain ⟨hx1, rfl⟩ := hx
      exact he o ho e hm2 hx1 (by have := hb0 i (by omega) o ho e hm2 hx1; omega)
    · cases hj
theorem wp_region_phi {id : Nat} {a0 : Act} {w : World} (hm : P.follows .mixedOrders = true) (N : Nat) (row : Option Nat) (kind : Nat → Bool) (Φ : Nat → Value → World → Prop)
    (hchk : chkR ops N a0.tmps.size = true)
    (hstab : ∀ i, i < N → ∀ v w w', Φ i v w → w.grownBy w' (kindRow row (!clsB ops N kind i)) → Φ i v w')
    (h1 : ∀ i, i < N → ∀ a w', RFacts ops N a0 w.drew (kindRow row (!preB ops N kind i)) a w' → (∀ j, depB ops i j = true → Φ j (slotV ops a j) w') →
      wpOp P ops Q i (fun a' w2 => ∃ v, a' = a.put (dstOf ops i) v ∧ Φ i v w2 ∧ w'.grownBy w2 (kindRow row (kind i))) a w')
    (h2 : ∀ a w', RFacts ops N a0 w.drew row a w' → (∀ i, i < N → Φ i (slotV ops a i) w') → wpList P ops Q (ops.toList.drop N) a w') :
    (Code.region id ops true).wp P Q a0 w :=
  wp_region_any hm (wpAny_phi N row kind Φ hchk hstab h1 h2)
/-- slots laid one by one -/
def putAll : List (Nat × Value) → Act → Act
  | [], a => a
  | p :: l, a => putAll l (a.put (some p.1) p.2)
theorem putAll_nil (a : Act) : putAll [] a = a := rfl
theorem putAll_cons (p : Nat × Value) (l : List (Nat × Value)) (a : Act) : putAll (p :: l) a = putAll l (a.put (some p.1) p.2) := rfl
def AllAt (a : Act) : List (Nat × Value) → Prop
  | [] => True
  | p :: l => a.tmps.getD p.1 undef = p.2 ∧ AllAt a l
theorem putAll_size (l : List (Nat × Value)) : ∀ a : Act, (putAll l a).tmps.size = a.tmps.size := by
  induction l with
  | nil => intro a; rfl
  | cons p l ih => intro a; rw [putAll_cons, ih, size_put]
theorem putAll_defers (l : List (Nat × Value)) : ∀ a : Act, (putAll l a).defers = a.defers := by
  induction l with
  | nil => intro a; rfl
  | cons p l ih => intro a; rw [putAll_cons, ih, defers_put]
theorem putAll_get (a : Act) (l : List (Nat × Value)) : ∀ a0 : Act, a0.tmps.size = a.tmps.size → AllAt a l → ∀ s, (a.tmps.getD s undef = a0.tmps.getD s undef ∨ ∃ p ∈ l, p.1 = s) → (putAll l a0).tmps.getD s undef = a.tmps.getD s undef := by
  induction l with
  | nil => intro a0 _ _ s h; rcases h with h | ⟨p, hp, _⟩; · exact h.symm
           · cases hp
  | cons p l ih =>
    intro a0 hs hall s h
    rw [putAll_cons]
    refine ih _ (by rw [size_put]; exact hs) hall.2 s ?_
    rw [getD_put]
    by_cases hps : p.1 = s
    · left
      subst hps
      by_cases hlt : p.1 < a0.tmps.size
      · rw [if_pos ⟨rfl, hlt⟩]; exact hall.1
      · rw [if_neg (fun h => hlt h.2)]
        simp [Array.getD, show ¬ p.1 < a.tmps.size by omega, hlt]
    · rw [if_neg (fun h => hps (by injection h.1))]
      rcases h with h | ⟨q, hq, he⟩
      · exact .inl h
      · rcases List.mem_cons.1 hq with rfl | hq
        · exact (hps he).elim
        · exact .inr ⟨q, hq, he⟩
theorem RFacts.lit {N : Nat} {a0 a : Act} {w0 w : World} {row : Option Nat} (h : RFacts ops N a0 w0 row a w) (l : List (Nat × Value))
    (hc : ((List.range N).all fun i => (l.map (·.1)).any fun s => dstOf ops i == some s) = true) (hl : AllAt a l) : a = putAll l a0 := by
  have hsz : a.tmps.size = (putAll l a0).tmps.size := by rw [putAll_size, h.size]
  have ht : a.tmps = (putAll l a0).tmps := by
    refine Array.ext hsz fun i hi hi2 => ?_
    have := putAll_get a l a0 h.size.symm hl i ?_
    · simp [Array.getD, hi, hi2] at this
      exact this.symm
    · by_cases hk : ∀ k, k < N → dstOf ops k ≠ some i
      · exact .inl (h.keep i hk)
      · simp only [Classical.not_forall] at hk
        obtain ⟨k, hk, hd⟩ := hk
        have hd : dstOf ops k = some i := Classical.not_not.1 hd
        right
        simp only [List.all_eq_true, List.mem_range, List.any_eq_true, List.mem_map] at hc
        obtain ⟨s, ⟨p, hp, rfl⟩, hs⟩ := hc k hk
        rw [hd] at hs
        exact ⟨p, hp, Option.some.inj (beq_iff_eq.1 hs).symm⟩
  have hd : a.defers = (putAll l a0).defers := by rw [putAll_defers, h.defers]
  cases a
  cases hp : putAll l a0
  simp_all
theorem RFacts.bel {N : Nat} {a0 a : Act} {w w' : World} (h : RFacts ops N a0 w.drew none a w') : Below w.heap.size w w' :=
  ⟨h.grown.os, h.grown.tape, h.grown.output, h.grown.size, fun k hk => h.grown.block k hk (by simp)⟩
theorem wanted_eq {o : Oper} {a : Act} {j : Nat} {want b : Bool} {d : Tmp} (hg : o.guard = some (j, want)) (hd : dstOf ops j = some d) (hv : a.tmps.getD d undef = .bool b) : Region.wanted o (yielded ops a.tmps) = (b == want) := by
  unfold dstOf at hd
  by_cases hlt : d < a.tmps.size
  · have : a.tmps[d]? = some (.bool b) := by
      rw [← hv]
      simp [Array.getD, hlt]
    cases b <;> cases want <;> simp [Region.wanted, hg, yielded, hd, this]
  · simp [Array.getD, hlt, undef] at hv
theorem wpOp_run {i : Nat} {o : Oper} {K : Act → World → Prop} {a : Act} {w : World} {j : Nat} {want : Bool} {d : Tmp} (ho : ops[i]? = some o) (hg : o.guard = some (j, want)) (hd : dstOf ops j = some d) (hv : a.tmps.getD d undef = .bool want)
    (h : ∀ K' : Act → World → Prop, (∀ a w, K a w → K' a w) → Oper.wp P o a w K' Q) : wpOp P ops Q i K a w :=
  wpOp_step ho fun K' hK => by
    rw [wanted_eq hg hd hv, beq_self_eq_true, if_pos rfl]
    exact h K' hK
theorem wpOp_pass {i : Nat} {o : Oper} {K : Act → World → Prop} {a : Act} {w : World} {j : Nat} {want b : Bool} {d : Tmp} (ho : ops[i]? = some o) (hg : o.guard = some (j, want)) (hd : dstOf ops j = some d) (hv : a.tmps.getD d undef = .bool b) (hne : (b == want) = false)
    (h : K (a.put o.dst undef) w) : wpOp P ops Q i K a w :=
  wpOp_step ho fun K' hK => by
    rw [wanted_eq hg hd hv, hne, if_neg (by simp)]
    exact hK _ _ h
theorem grown_bel {w w' : World} {row : Option Nat} (h : Below w.heap.size w w') : w.grownBy w' row := ⟨h.os, h.tape, h.output, h.size, fun k hk _ => h.block k hk⟩
theorem bel_grown {w w' : World} (h : w.grownBy w' none) : Below w.heap.size w w' := ⟨h.os, h.tape, h.output, h.size, fun k hk => h.block k hk (by simp)⟩
end
end Go.Proofs.YtaldlapnhhhclaaGreat.Tw
/- A disk, plainly: sectors, what is cached of them, the fuse, whether it broke, how many operations. Conditions: none. -/
namespace Go.Proofs.YtaldlapnhhhclaaGreat.Disk
open Tw

abbrev Sec := List UInt8
def zs : Sec := List.replicate 16 0
abbrev Cl := Sec × Option Sec
structure Dsk where
  cells : List Cl
  fuse : Int
  broken : Bool
  ops : Nat
def view (c : Cl) : Sec := c.2.getD c.1
def c0 : Cl := (zs, none)
namespace Dsk
def new (n : Nat) : Dsk := ⟨List.replicate n c0, -1, false, 0⟩
def has (d : Dsk) (at_ : Int) : Prop := 0 ≤ at_ ∧ at_ < (d.cells.length : Int)
instance (d : Dsk) (at_ : Int) : Decidable (d.has at_) := by unfold has; infer_instance
def cell (d : Dsk) (at_ : Int) : Cl := d.cells.getD at_.toNat c0
/-- what is cached of a sector -/
def fresh (d : Dsk) (at_ : Int) : Option Sec := if d.has at_ then (d.cell at_).2 else none
def read (d : Dsk) (at_ : Int) : Sec × Nat := if d.has at_ then if d.broken then (zs, 3) else (view (d.cell at_), 0) else (zs, 13)
/-- one operation, if it can be done -/
def burn (d : Dsk) : Dsk := if d.fuse = 0 then { d with broken := true } else d
def spend (d : Dsk) : Dsk × Nat := if d.burn.broken then (d.burn, 3) else ({ d with fuse := if 0 < d.fuse then d.fuse - 1 else d.fuse, ops := d.ops + 1 }, 0)
def put (d : Dsk) (at_ : Int) (s : Sec) : Dsk := { d with cells := d.cells.set at_.toNat ((d.cell at_).1, some s) }
def write (d : Dsk) (at_ : Int) (s : Sec) : Dsk × Nat := if d.has at_ then if d.spend.2 = 0 then (d.spend.1.put at_ s, 0) else d.spend else (d, 13)
/-- all that is cached is durable -/
def allSafe (d : Dsk) : Dsk := { d with cells := d.cells.map fun c => (view c, none) }
def flush (d : Dsk) : Dsk × Nat := if d.spend.2 = 0 then (d.spend.1.allSafe, 0) else d.spend
def setFuse (d : Dsk) (k : Int) : Dsk := { d with fuse := max k (-1) }
/-- as it may be -/
structure Ok (d : Dsk) : Prop where
  n : 1 ≤ d.cells.length ∧ d.cells.length ≤ 1024
  safe : ∀ c ∈ d.cells, c.1.length = 16
  fresh : ∀ c ∈ d.cells, ∀ s, c.2 = some s → s.length = 16
  fuse : -1 ≤ d.fuse ∧ d.fuse ≤ 9223372036854775807
  ops : d.ops ≤ 1000000000
end Dsk
open Dsk
theorem has_iff (d : Dsk) (x : Int) : d.has x ↔ 0 ≤ x ∧ x < (d.cells.length : Int) := Iff.rfl
theorem zs_len : zs.length = 16 := by simp [zs]
theorem cell_get {d : Dsk} {at_ : Int} (h : d.has at_) : d.cells[at_.toNat]? = some (d.cell at_) := by
  unfold has at h
  unfold cell
  rw [List.getD_eq_getElem?_getD, List.getElem?_eq_getElem (by omega)]
  rfl
theorem cell_mem {d : Dsk} {at_ : Int} (h : d.has at_) : d.cell at_ ∈ d.cells := List.mem_of_getElem? (cell_get h)
theorem Dsk.Ok.view {d : Dsk} (h : d.Ok) {c : Cl} (hc : c ∈ d.cells) : (view c).length = 16 := by
  unfold Disk.view
  cases hs : c.2 with
  | none => exact h.safe c hc
  | some s => exact h.fresh c hc s hs
theorem ok_new {n : Nat} (h1 : 1 ≤ n) (h2 : n ≤ 1024) : (Dsk.new n).Ok :=
  ⟨by simp [new]; omega, fun c hc => by rw [List.eq_of_mem_replicate hc]; exact zs_len, (fun c hc s hs => by rw [List.eq_of_mem_replicate hc] at hs; cases hs), by simp [new], by simp [new]⟩
theorem burn_ok {d : Dsk} (h : d.Ok) : d.burn.Ok := by
  unfold burn
  split
  · exact ⟨h.n, h.safe, h.fresh, h.fuse, h.ops⟩
  · exact h
theorem spend_cells (d : Dsk) : d.spend.1.cells = d.cells := by
  unfold spend burn
  (repeat' split) <;> rfl
theorem spend_ok {d : Dsk} (h : d.Ok) (ho : d.ops < 1000000000) : d.spend.1.Ok := by
  unfold spend
  split
  · exact burn_ok h
  · exact ⟨h.n, h.safe, h.fresh, by have := h.fuse; simp only; split <;> omega, by simp only; omega⟩
theorem spend_err (d : Dsk) : d.spend.2 = 0 ∨ d.spend.2 = 3 := by
  unfold spend
  split
  · exact .inr rfl
  · exact .inl rfl
theorem put_ok {d : Dsk} (h : d.Ok) {at_ : Int} (ha : d.has at_) {s : Sec} (hs : s.length = 16) : (d.put at_ s).Ok := by
  refine ⟨by simpa [put] using h.n, fun c hc => ?_, fun c hc s' hs' => ?_, h.fuse, h.ops⟩
  · rcases List.mem_or_eq_of_mem_set hc with hc | rfl
    · exact h.safe c hc
    · exact h.safe (d.cell at_) (cell_mem ha)
  · rcases List.mem_or_eq_of_mem_set hc with hc | rfl
    · exact h.fresh c hc s' hs'
    · injection hs' with hs'
      subst hs'
      exact hs
theorem spend_has (d : Dsk) (at_ : Int) : d.spend.1.has at_ ↔ d.has at_ := by simp [has, spend_cells]
theorem write_ok {d : Dsk} (h : d.Ok) (ho : d.ops < 1000000000) (at_ : Int) {s : Sec} (hs : s.length = 16) : (d.write at_ s).1.Ok := by
  unfold write
  split
  · rename_i ha
    split
    · exact put_ok (spend_ok h ho) ((spend_has d at_).2 ha) hs
    · exact spend_ok h ho
  · exact h
theorem allSafe_ok {d : Dsk} (h : d.Ok) : d.allSafe.Ok := by
  refine ⟨by simpa [allSafe] using h.n, fun c hc => ?_, fun c hc s hs => ?_, h.fuse, h.ops⟩
  · obtain ⟨c', hc', rfl⟩ := List.mem_map.1 hc
    exact h.view hc'
  · obtain ⟨c', hc', rfl⟩ := List.mem_map.1 hc
    cases hs
theorem flush_ok {d : Dsk} (h : d.Ok) (ho : d.ops < 1000000000) : d.flush.1.Ok := by
  unfold flush
  split
  · exact allSafe_ok (spend_ok h ho)
  · exact spend_ok h ho
/-- the durable bytes, one behind the other -/
def durable (d : Dsk) : List UInt8 := d.cells.flatMap (·.1)
theorem flatMap_len {l : List Cl} (h : ∀ c ∈ l, c.1.length = 16) : (l.flatMap (·.1)).length = l.length * 16 := by
  induction l with
  | nil => rfl
  | cons c l ih => rw [List.flatMap_cons, List.length_append, ih fun c hc => h c (List.mem_cons_of_mem _ hc), h c List.mem_cons_self, List.length_cons, Nat.succ_mul]; omega
theorem durable_len {d : Dsk} (h : d.Ok) : (durable d).length = d.cells.length * 16 := flatMap_len h.safe
theorem flatMap_get {l : List Cl} (h : ∀ c ∈ l, c.1.length = 16) {i j : Nat} {c : Cl} (hc : l[i]? = some c) (hj : j < 16) : (l.flatMap (·.1))[i * 16 + j]? = c.1[j]? := by
  induction l generalizing i with
  | nil => simp at hc
  | cons a l ih =>
    have ha := h a List.mem_cons_self
    cases i with
    | zero =>
      simp at hc
      subst hc
      rw [List.flatMap_cons, List.getElem?_append_left (by omega), Nat.zero_mul, Nat.zero_add]
    | succ i =>
      simp at hc
      rw [List.flatMap_cons, List.getElem?_append_right (by rw [ha, Nat.succ_mul]; omega), ha, ← ih (fun c hc => h c (List.mem_cons_of_mem _ hc)) hc]
      congr 1
      rw [Nat.succ_mul]
      omega
theorem durable_get {d : Dsk} (h : d.Ok) {at_ : Int} (ha : d.has at_) {j : Nat} (hj : j < 16) : (durable d)[at_.toNat * 16 + j]? = (d.cell at_).1[j]? := flatMap_get h.safe (cell_get ha) hj
end Go.Proofs.YtaldlapnhhhclaaGreat.Disk
/- Contracts of the package disk: New, Made, Size, Broken, Ops, has, spend. Conditions: at most 10^9 operations. -/
namespace Go.Proofs.YtaldlapnhhhclaaGreat.Disk
open Go.RowKit Tw Go.Maps Go.ChangeMaps
set_option maxHeartbeats 1000000
set_option maxRecDepth 100000

theorem law : Keyed Tryz.prog 3 := int_keyed Tryz.underlying3
/-- an element reads as itself -/
def R (v : Value) : Option (DataW Value × List MemPlace) := some (.held v, [])
def kl (x : Int) : Lit := .int .i64 x
theorem hkey {x : Int} (h : -9223372036854775808 ≤ x ∧ x ≤ 9223372036854775807) : keyOf Tryz.prog 3 (.int .i64 x) = some (kl x) := keyOf_int_mk Tryz.underlying3 (by simp [Lit.wf, IntKind.min, IntKind.max, IntKind.bits, IntKind.signed]; omega)
/-- a sector as a value -/
def secV (s : Sec) : Value := .agg (bytesV s).toArray
/-- the map holds what is cached -/
def atOf (o : Option Sec) (z : DataW Value) : DataW Value := match o with | some s => .held (secV s) | none => z
def MapIs (D : DataW Value) (d : Dsk) : Prop := ∀ x : Int, Maps.has D (kl x) = (d.fresh x).isSome ∧ ∀ z, D.atKey (kl x) z = atOf (d.fresh x) z
/-- the disk at block p: its durable bytes at g, its map at mb -/
structure Dk (w : World) (p g mb c : Nat) (d : Dsk) : Prop where
  ok : d.Ok
  blk : w.heap[p]? = some (.cells #[.slice (some ⟨g, 0, none⟩) d.cells.length c, .map (some mb), .int .i64 d.fuse, .bool d.broken, .int .i64 (d.ops : Int)] 125 (0, 0))
  own : Tw.Own w 0 127 16 (some ⟨g, 0, none⟩) d.cells.length c (bytesV (durable d))
  map : ∃ D m, w.ownsMap Tryz.prog 3 R mb m D ∧ m ≤ d.ops ∧ MapIs D d
  ne : p ≠ g ∧ p ≠ mb ∧ g ≠ mb

section
variable {w w' : World} {p g mb c : Nat} {d : Dsk}
theorem Dk.lts (h : Dk w p g mb c d) : p < w.heap.size ∧ g < w.heap.size ∧ mb < w.heap.size := by
  obtain ⟨D, m, h1, _⟩ := h.map
  exact ⟨heap_lt h.blk, (h.own.at0 _ rfl).2, h1.lt⟩
theorem Dk.fr {S : Nat → Prop} (h : Dk w p g mb c d) (hf : Fr S w w') (h1 : ¬ S p) (h2 : ¬ S g) (h3 : ¬ S mb) : Dk w' p g mb c d := by
  obtain ⟨D, m, hm, hle, hi⟩ := h.map
  refine ⟨h.ok, heap_fr h.blk hf h1, h.own.fr hf (fun ad e => by injection e with e; subst e; exact h2), ⟨D, m, ?_, hle, hi⟩, h.ne⟩
  obtain ⟨es, clock, hb, rest⟩ := hm
  exact ⟨es, clock, heap_fr hb hf h3, rest⟩
theorem Dk.bel (h : Dk w p g mb c d) (hb : Below w.heap.size w w') : Dk w' p g mb c d := h.fr (S := fun _ => False) (Fr.of_bel hb) (fun e => e) (fun e => e) (fun e => e)
theorem Dk.cells (h : Dk w p g mb c d) : w.cell? ⟨p, 0, none⟩ = some (.slice (some ⟨g, 0, none⟩) d.cells.length c) ∧ w.cell? ⟨p, 1, none⟩ = some (.map (some mb)) ∧ w.cell? ⟨p, 2, none⟩ = some (.int .i64 d.fuse) ∧ w.cell? ⟨p, 3, none⟩ = some (.bool d.broken) ∧ w.cell? ⟨p, 4, none⟩ = some (.int .i64 (d.ops : Int)) := by
  simp [World.cell?, h.blk]
end
theorem info_sec : (Tryz.prog.info? 127).map (fun i => (i.zero, i.size, i.bytes)) = some (some (.agg (bytesV zs).toArray), 16, 16) := by kernel_rfl
theorem madeSec (n : Nat) : (madeCells (Value.agg (bytesV zs).toArray).cells (n * 16)).toList = bytesV (durable (Dsk.new n)) := by
  have h1 : durable (Dsk.new n) = List.replicate (n * 16) 0 := by
    unfold durable Dsk.new
    induction n with
    | zero => rfl
    | succ n ih =>
      rw [List.replicate_succ, List.flatMap_cons]
      simp only at ih
      rw [ih, Nat.succ_mul, Nat.add_comm, ← List.replicate_append_replicate]
      rfl
  rw [h1]
  have h2 : (Value.agg (bytesV zs).toArray).cells = (bytesV zs).toArray := rfl
  rw [h2]
  refine List.ext_getElem (by simp [madeCells, bytesV]) fun i h3 h4 => ?_
  have h5 : i % 16 < 16 := Nat.mod_lt _ (by omega)
  simp [madeCells, bytesV, zs, h5]
  generalize i % 16 = k at *
  match k, h5 with
  | 0, _ => rfl
  | 1, _ => rfl
  | 2, _ => rfl
  | 3, _ => rfl
  | 4, _ => rfl
  | 5, _ => rfl
  | 6, _ => rfl
  | 7, _ => rfl
  | 8, _ => rfl
  | 9, _ => rfl
  | 10, _ => rfl
  | 11, _ => rfl
  | 12, _ => rfl
  | 13, _ => rfl
  | 14, _ => rfl
  | 15, _ => rfl
  | _ + 16, h => exact absurd h (by omega)
theorem mapIs_nil (n : Nat) : MapIs (.map []) (Dsk.new n) := fun x => by
  have h : (Dsk.new n).fresh x = none := by
    unfold Dsk.fresh
    split
    · rename_i h
      have h1 := cell_mem h
      rw [show (Dsk.new n).cells = List.replicate n c0 from rfl] at h1
      rw [List.eq_of_mem_replicate h1]
      rfl
    · rfl
  rw [h]
  exact ⟨rfl, fun z => rfl⟩
theorem c_dNew (n : Nat) (w : World) (h1 : 1 ≤ n) (h2 : n ≤ 1024) :
    Calls Tryz.prog 17 #[.int .i64 (n : Int)] w fun e w' => ∃ p g mb, e = .returned (.tuple #[.pointer (some ⟨p, 0, none⟩), .int .i64 0]) ∧ Dk w' p g mb n (Dsk.new n) ∧ (w.heap.size ≤ p ∧ w.heap.size ≤ g ∧ w.heap.size ≤ mb) ∧ Below w.heap.size w w' := by
  have hmm := @run_makeMap Tryz.prog
  go_enter Tryz.func17, Tryz.ntmps17
  go_wp2_with (first
    | (at_make
       refine wpL_make _ rfl _ _ _ rfl w w.heap.size (Below.refl _ _) (Nat.le_refl _) 127 _ 16 16 Tryz.underlying122 info_sec _ _ _ _ n rfl rfl rfl rfl (by omega) (by unfold maxLen; omega) _ (madeSec n) ?_
       intro w1 hown1 hb1 hg1))
  go_ret2
  have hlt := (hown1.at0 _ rfl).2
  simp only at hlt
  have hsz := hb1.size
  have hl : (Dsk.new n).cells.length = n := by simp [Dsk.new]
  refine ⟨_, w.heap.size, w1.heap.size, rfl, ⟨ok_new h1 h2, ?_, ?_, ⟨.map [], 0, (World.ownsMap_made w1 Tryz.prog 3 R).alloc _, Nat.le_refl _, mapIs_nil n⟩, by omega⟩, by omega, bel_alloc (bel_alloc hb1 hb1.size _) (size_alloc_le hb1.size _) _⟩
  · have h := heap_alloc_new (w1.alloc (.map #[] 0)) (.cells #[.slice (some ⟨w.heap.size, 0, none⟩) n n, .map (some w1.heap.size), .int .i64 (-1), .bool false, .int .i64 0] 125)
    rw [hl]
    simpa [Dsk.new] using h
  · rw [hl]
    exact Tw.Own.mono ((hown1.alloc _).alloc _) (Nat.zero_le _)
theorem c_Made_nil (w : World) : Calls Tryz.prog 62 #[.pointer none] w fun e w' => e = .returned (.bool false) ∧ w = w' := by
  go_enter Tryz.func62, Tryz.ntmps62
  go_wp2_with fail
  go_ret
  exact ⟨rfl, rfl⟩
section
variable {w : World} {p g mb c : Nat} {d : Dsk}
theorem c_Made (h : Dk w p g mb c d) : Calls Tryz.prog 62 #[.pointer (some ⟨p, 0, none⟩)] w fun e w' => e = .returned (.bool true) ∧ w = w' := by
  obtain ⟨k0, k1, k2, k3, k4⟩ := h.cells
  have hq := run_neq_slice_nil_any (P := Tryz.prog) w 122 127 (some ⟨g, 0, none⟩) d.cells.length c 0 0 Tryz.underlying122
  clear h
  go_enter Tryz.func62, Tryz.ntmps62
  go_wp2_with fail
  go_ret
  exact ⟨rfl, rfl⟩
theorem c_Size (h : Dk w p g mb c d) : Calls Tryz.prog 131 #[.pointer (some ⟨p, 0, none⟩)] w fun e w' => e = .returned (.int .i64 (d.cells.length : Int)) ∧ w = w' := by
  obtain ⟨k0, k1, k2, k3, k4⟩ := h.cells
  have H := Lib.hid h
  clear h
  go_enter Tryz.func131, Tryz.ntmps131
  go_wp2_with (first
    | (go_at_call 62
       (with_reducible refine (c_Made H.out).mono ?_)
       rintro e w' ⟨rfl, rfl⟩))
  go_ret
  exact ⟨rfl, rfl⟩
theorem c_Size_nil (w : World) : Calls Tryz.prog 131 #[.pointer none] w fun e w' => e = .returned (.int .i64 0) ∧ w = w' := by
  go_enter Tryz.func131, Tryz.ntmps131
  go_wp2_with (first
    | (go_at_call 62
       (with_reducible refine (c_Made_nil _).mono ?_)
       rintro e w' ⟨rfl, rfl⟩))
  go_ret
  exact ⟨rfl, rfl⟩
theorem c_has (h : Dk w p g mb c d) (x : Int) : Calls Tryz.prog 172 #[.pointer (some ⟨p, 0, none⟩), .int .i64 x] w fun e w' => e = .returned (.bool (decide (d.has x))) ∧ w = w' := by
  obtain ⟨k0, k1, k2, k3, k4⟩ := h.cells
  clear h
  by_cases h0 : 0 ≤ x
  · have hd : decide (d.has x) = decide (x < (d.cells.length : Int)) := by
      rw [Bool.eq_iff_iff, decide_eq_true_eq, decide_eq_true_eq, has_iff]; omega
    rw [hd]
    clear hd
    go_enter Tryz.func172, Tryz.ntmps172
    go_wp2_with fail
    go_ret
    exact ⟨rfl, rfl⟩
  · have hd : decide (d.has x) = false := by rw [decide_eq_false_iff_not, has_iff]; omega
    rw [hd]
    clear hd
    have h1 : decide (0 ≤ x) = false := by simpa using h0
    go_enter Tryz.func172, Tryz.ntmps172
    go_wp2_with fail
    go_ret
    exact ⟨rfl, rfl⟩
end
section
variable {w : World} {p g mb c : Nat} {d : Dsk}
theorem c_Broken (h : Dk w p g mb c d) : Calls Tryz.prog 112 #[.pointer (some ⟨p, 0, none⟩)] w fun e w' => e = .returned (.bool d.broken) ∧ w = w' := by
  obtain ⟨k0, k1, k2, k3, k4⟩ := h.cells
  have H := Lib.hid h
  clear h
  go_enter Tryz.func112, Tryz.ntmps112
  go_wp2_with (first
    | (go_at_call 62
       (with_reducible refine (c_Made H.out).mono ?_)
       rintro e w' ⟨rfl, rfl⟩))
  go_ret
  exact ⟨rfl, rfl⟩
theorem c_Ops (h : Dk w p g mb c d) : Calls Tryz.prog 29 #[.pointer (some ⟨p, 0, none⟩)] w fun e w' => e = .returned (.int .i64 (d.ops : Int)) ∧ w = w' := by
  obtain ⟨k0, k1, k2, k3, k4⟩ := h.cells
  have H := Lib.hid h
  clear h
  go_enter Tryz.func29, Tryz.ntmps29
  go_wp2_with (first
    | (go_at_call 62
       (with_reducible refine (c_Made H.out).mono ?_)
       rintro e w' ⟨rfl, rfl⟩))
  go_ret
  exact ⟨rfl, rfl⟩
end
end Go.Proofs.YtaldlapnhhhclaaGreat.Disk
