/- Small words that several packages use: boxes, whole stores, bytes.Clone and bytes.Equal, numbers as bytes. Conditions: none. -/
import Derived.Test.YtaldlapnhhhclaaGreatProg
import Derived.Test.YtaldlapnhhhclaaGreatB8
import Derived.Test.YtaldlapnhhhclaaGreatB2
import Derived.Test.YtaldlapnhhhclaaGreatB6
import Derived.WalkSpells
import Derived.Deep.Cut
import Derived.Deep.CutBlock
import Derived.Carry
import Derived.Lib.SmallJoins
set_option linter.unusedVariables false
set_option linter.unusedSimpArgs false
namespace Go.Proofs.YtaldlapnhhhclaaGreat.Bx
open Go.RowKit Tw
set_option maxHeartbeats 8000000
set_option maxRecDepth 100000
theorem results_cell2 {P : Program} {fn : Func} {p q : Tmp} {ty : TypeId} (h : fn.results = #[.cell p ty, .tmp q]) (tmps : Array Value) (w : World) (g : Nat) (t : TypeId) (cs : Array Value) (fr : Nat × Nat) (d : TypeDesc)
    (hp : tmps.getD p undef = .pointer (some ⟨g, 0, none⟩)) (hg : w.heap[g]? = some (.cells cs t fr))
    (hu : P.underlying ty = some d) (hd : (match d with | .struct _ | .array _ _ => true | _ => false) = true) (hi : (P.info? ty).map (·.size) = some cs.size) (v : Value) (hv : tmps.getD q undef = v) :
    (results fn tmps).run P w = .ok (.tuple #[.agg cs, v]) w := by
  have hp' : tmps[p]?.getD undef = .pointer (some ⟨g, 0, none⟩) := by simpa using hp
  have hv' : tmps[q]?.getD undef = v := by simpa using hv
  simp [results, h, hp', hv', asAddr, run_loadVar_row w g t ty cs fr d hg hu hd hi]
theorem wpL_store_all {P : Program} {ops : Array Oper} {rest : List Oper} {w : World} {o : Oper} {a : Act} {Q : Exit → Act → World → Prop} (hgd : o.guard = none) (hds : o.dst = none) (ty : TypeId) (x y : Operand)
    (ho : o.op = .store ty x y) (g : Nat) (hx : a.eval x = .pointer (some ⟨g, 0, none⟩)) (cs : Array Value) (hy : a.eval y = .agg cs) (t : TypeId) (old : Array Value) (hg : w.heap[g]? = some (.cells old t (0, 0)))
    (hi : (P.info? ty).map (·.size) = some cs.size) (hs : cs.size = old.size) (h1 : ∀ v ∈ cs, v.oneCell' = true)
    (h : ∀ w', w'.heap[g]? = some (.cells cs t (0, 0)) → w.grownBy w' (some g) → wpList P ops Q rest a w') : wpList P ops Q (o :: rest) a w := by
  refine wpList_store_row hgd ty x y ho g cs hx hy t old hg hi hs.symm (Array.all_eq_true_iff_forall_mem.2 h1) ?_
  rw [hds]
  exact h _ (setRow_heap _ _ _ _ _ _ hg) (grown_setRow _ _ _)
theorem two_boxes (w : World) (o1 o2 : Obj) : ∃ w2, w2 = (w.alloc o1).alloc o2 ∧ w2.heap[w.heap.size]? = some o1 ∧ w2.heap[w.heap.size + 1]? = some o2 ∧ Below w.heap.size w w2 := by
  have h1 := heap_alloc_new w o1
  have h2 := heap_alloc_new (w.alloc o1) o2
  have b2 := Below.heap_alloc (w.alloc o1) o2 _ (heap_lt h1)
  rw [World.size_alloc] at h2
  exact ⟨_, rfl, b2.trans h1, h2, (((Below.refl _ _).alloc (Nat.le_refl _) _).alloc (by simp) _)⟩
theorem cells6 {w : World} {g : Nat} {t : TypeId} {v0 v1 v2 v3 v4 v5 : Value} (h : w.heap[g]? = some (.cells #[v0, v1, v2, v3, v4, v5] t (0, 0))) :
    w.cell? ⟨g, 0, none⟩ = some v0 ∧ w.cell? ⟨g, 1, none⟩ = some v1 ∧ w.cell? ⟨g, 2, none⟩ = some v2 ∧ w.cell? ⟨g, 3, none⟩ = some v3 ∧ w.cell? ⟨g, 4, none⟩ = some v4 ∧ w.cell? ⟨g, 5, none⟩ = some v5 := by
  simp [World.cell?, h]
theorem fold_be (k n : Nat) : ∀ a, (Num.be k n).foldl (fun n (c : UInt8) => n * 256 + c.toNat) a = a * 256 ^ k + n % 256 ^ k := by
  induction k with
  | zero => intro a; simp [Num.be, Nat.mod_one]
  | succ k ih =>
    intro a
    rw [Num.be, List.foldl_cons, ih]
    have h1 : (UInt8.ofNat (n / 256 ^ k)).toNat = n / 256 ^ k % 256 := by simp
    rw [h1, Nat.pow_succ, Nat.mod_mul, Nat.add_mul, Nat.mul_assoc, Nat.mul_comm 256 (256 ^ k), Nat.mul_comm (n / 256 ^ k % 256)]
    omega
theorem val_be' (k n : Nat) (h : n < 256 ^ k) : Num.val (Num.be k n) = n := by
  have := fold_be k n 0
  unfold Num.val
  rw [this, Nat.mod_eq_of_lt h]
  omega
theorem be_high (k : Nat) : ∀ a v, Num.be k (a * 256 ^ k + v) = Num.be k v := by
  induction k with
  | zero => intro a v; rfl
  | succ k ih =>
    intro a v
    have e : a * 256 ^ (k + 1) + v = (a * 256) * 256 ^ k + v := by rw [Nat.pow_succ, Nat.mul_assoc, Nat.mul_comm 256]
    rw [Num.be, Num.be, e, ih]
    congr 1
    have h1 : ((a * 256) * 256 ^ k + v) / 256 ^ k = a * 256 + v / 256 ^ k := by
      rw [Nat.add_comm, Nat.add_mul_div_right _ _ (Nat.pow_pos (by omega)), Nat.add_comm]
    rw [h1]
    apply UInt8.toNat_inj.1
    simp
theorem val_cons (x : UInt8) (l : List UInt8) : Num.val (x :: l) = x.toNat * 256 ^ l.length + Num.val l := by
  have h : ∀ (l : List UInt8) (a : Nat), l.foldl (fun n (c : UInt8) => n * 256 + c.toNat) a = a * 256 ^ l.length + Num.val l := by
    intro l
    induction l with
    | nil => intro a; simp [Num.val]
    | cons y l ih =>
      intro a
      have h1 := ih (a * 256 + y.toNat)
      have h2 := ih (0 * 256 + y.toNat)
      simp only [List.foldl_cons, Num.val] at h1 h2 ⊢
      rw [h1, h2, List.length_cons, Nat.pow_succ, Nat.zero_mul, Nat.zero_add, Nat.add_mul, Nat.mul_assoc, Nat.mul_comm 256 (256 ^ l.length)]
      omega
  have h3 := h l x.toNat
  simp only [Num.val, List.foldl_cons, Nat.zero_mul, Nat.zero_add] at h3 ⊢
  exact h3
theorem be_val : ∀ (l : List UInt8) (k : Nat), l.length = k → Num.be k (Num.val l) = l
  | [], k, h => by
    subst h
    rfl
  | x :: l, k, h => by
    subst h
    have hl := Num.val_lt l
    rw [List.length_cons, val_cons, Num.be, be_high, be_val l _ rfl]
    congr 1
    rw [Nat.add_comm, Nat.add_mul_div_right _ _ (Nat.pow_pos (by omega)), Nat.div_eq_of_lt hl]
    apply UInt8.toNat_inj.1
    simp
theorem be_gv {l : List UInt8} {k : Nat} (h : k ≤ l.length) : Num.be k (Num.gv k l) = l.take k := by
  rw [Num.gv_yes h]
  exact be_val _ _ (by rw [List.length_take]; omega)
theorem gv_be (k n : Nat) (h : n < 256 ^ k) (l : List UInt8) : Num.gv k (Num.be k n ++ l) = n := by
  rw [Num.gv_yes (by rw [List.length_append, Num.be_length]; omega), List.take_left' (Num.be_length k n), val_be' k n h]
end Go.Proofs.YtaldlapnhhhclaaGreat.Bx
