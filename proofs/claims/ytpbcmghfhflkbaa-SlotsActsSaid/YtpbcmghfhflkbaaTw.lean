/- Words that all texts of this seat use: a slice that reads as a list of cells; laws on make and append in the form of the walk. Conditions: none. -/
import Derived.WalkKit
import Derived.WalkSpells
import Derived.WalkLawsBesides
import Derived.Lib.Hide
import Derived.Deep.Draws
import Derived.Deep.AppendLies
import Derived.Maps.AppendAt
import Derived.Deep.QuietTactic
import Derived.BigQuiet
import Derived.Deep.RegionHeld3
import Derived.StillTailTactics
import Derived.Laws.Rows
set_option linter.unusedVariables false
set_option linter.unusedSimpArgs false
namespace Go.Proofs.Ytpbcmghfhflkbaa.Tw
open Go.RowKit

/-- bytes, as cells -/
def bytesV (l : List UInt8) : List Value := l.map fun b => Value.int .u8 (b.toNat : Int)
theorem bytesV_append (a b : List UInt8) : bytesV (a ++ b) = bytesV a ++ bytesV b := by simp [bytesV]
theorem bytesV_length (a : List UInt8) : (bytesV a).length = a.length := by simp [bytesV]
theorem bytesV_nil : bytesV [] = [] := rfl
theorem bytesV_cons (x : UInt8) (a : List UInt8) : bytesV (x :: a) = Value.int .u8 (x.toNat : Int) :: bytesV a := rfl
theorem bytesV_get {l : List UInt8} {j : Nat} {b : UInt8} (h : l[j]? = some b) : (bytesV l)[j]? = some (Value.int .u8 (b.toNat : Int)) := by simp [bytesV, h]
theorem bytesV_one {l : List UInt8} : ∀ u ∈ bytesV l, u.oneCell' = true := by
  intro u hu
  obtain ⟨_, _, rfl⟩ := List.mem_map.1 hu
  rfl
theorem bytesV_inj {a b : List UInt8} (h : bytesV a = bytesV b) : a = b := by
  induction a generalizing b with
  | nil => cases b <;> simp_all [bytesV]
  | cons x a ih =>
    cases b with
    | nil => simp [bytesV] at h
    | cons y b =>
      simp only [bytesV, List.map_cons, List.cons.injEq, Value.int.injEq, true_and] at h
      have := ih h.2
      rw [this, UInt8.toNat_inj.1 (by omega : x.toNat = y.toNat)]

theorem block_add (a : Addr) (n : Nat) : (a.add n).block = a.block := by unfold Addr.add; split <;> rfl
theorem add_add (a : Addr) (i j : Nat) : (a.add i).add j = a.add (i + j) := by
  unfold Addr.add
  by_cases hi : i = 0 <;> by_cases hj : j = 0 <;> simp [hi, hj, Nat.add_assoc]

/-- The slice value `.slice A n c` reads the cells xs in w (size cells an element). -/
structure Rd (w : World) (size : Nat) (A : Option Addr) (n c : Nat) (xs : List Value) : Prop where
  len : xs.length = n * size
  le : n ≤ c
  cap : c ≤ maxLen
  nil : A = none → c = 0
  cell : ∀ ad, A = some ad → ∀ j u, xs[j]? = some u → w.cell? (ad.add j) = some u

abbrev Byt (w : World) (A : Option Addr) (n c : Nat) (l : List UInt8) : Prop := Rd w 1 A n c (bytesV l)

section
variable {w w' : World} {size n c : Nat} {A : Option Addr} {xs : List Value}
theorem Rd.below {B : Nat} (h : Rd w size A n c xs) (hb : Below B w w') (hB : w.heap.size ≤ B) : Rd w' size A n c xs :=
  ⟨h.len, h.le, h.cap, h.nil, fun ad e j u hu => by
    have hc := h.cell ad e j u hu
    have := block_lt_of_cell hc
    rw [hb.cell (by omega)]; exact hc⟩
theorem Rd.bel (h : Rd w size A n c xs) (hb : Below w.heap.size w w') : Rd w' size A n c xs := h.below hb (Nat.le_refl _)
theorem Rd.keep (h : Rd w size A n c xs) (hk : ∀ p v, w.cell? p = some v → w'.cell? p = some v) : Rd w' size A n c xs :=
  ⟨h.len, h.le, h.cap, h.nil, fun ad e j u hu => hk _ _ (h.cell ad e j u hu)⟩
theorem Rd.drewN (h : Rd w size A n c xs) (k : Nat) : Rd (w.drewN k) size A n c xs := ⟨h.len, h.le, h.cap, h.nil, h.cell⟩
theorem Rd.alloc (h : Rd w size A n c xs) (o : Obj) : Rd (w.alloc o) size A n c xs := h.bel ((Below.refl _ _).alloc (Nat.le_refl _) o)
theorem Rd.grown (h : Rd w size A n c xs) {row : Option Nat} (hg : w.grownBy w' row) (hr : ∀ ad, A = some ad → some ad.block ≠ row) : Rd w' size A n c xs :=
  ⟨h.len, h.le, h.cap, h.nil, fun ad e j u hu => hg.cell (h.cell ad e j u hu) (by rw [block_add]; exact hr ad e)⟩
theorem Rd.of_own {base : Nat} {e : TypeId} (h : w.ownsRow base e size (.slice A n c) n xs) : Rd w size A n c xs := by
  rcases h.2 with ⟨hv, hn⟩ | ⟨g, cap, cur, hv, hg, hh, hnc, hcm, hs, ht⟩
  · injection hv with h1 h2 h3
    subst h1 h2 h3
    exact ⟨h.1, Nat.le_refl _, Nat.zero_le _, fun _ => rfl, fun ad e => by cases e⟩
  · injection hv with h1 h2 h3
    subst h1 h3
    exact ⟨h.1, hnc, hcm, fun e => (by cases e), fun ad e => by injection e with e; subst e; exact h.cells rfl⟩
theorem Rd.nil_ : Rd w size none 0 0 [] := ⟨by simp, Nat.le_refl _, Nat.zero_le _, fun _ => rfl, fun ad e => by cases e⟩
theorem Rd.cut (h : Rd w size A n c xs) {k : Nat} (hk : k ≤ n) :
    Rd w size (if c = k then A else A.map (·.add (k * size))) (n - k) (c - k) (xs.drop (k * size)) := by
  have hl := h.le
  have hc := h.cap
  refine ⟨by rw [List.length_drop, h.len, Nat.sub_mul], by omega, by omega, fun e => ?_, fun ad e j u hu => ?_⟩
  · have : A = none := by split at e <;> simp_all
    have := h.nil this; omega
  · split at e
    · have : n = k := by omega
      subst this
      have := h.len
      rw [List.drop_eq_nil_of_le (by omega)] at hu
      simp at hu
    · cases A with
      | none => simp at e
      | some a0 =>
        simp only [Option.map_some, Option.some.injEq] at e
        subst e
        rw [add_add]
        exact h.cell a0 rfl _ u (by rw [← hu, List.getElem?_drop])
theorem Rd.upto (h : Rd w size A n c xs) {k : Nat} (hk : k ≤ n) : Rd w size A k c (xs.take (k * size)) := by
  have hl := h.le
  have hc := h.cap
  refine ⟨?_, by omega, h.cap, h.nil, fun ad e j u hu => h.cell ad e j u ?_⟩
  · rw [List.length_take, h.len]
    exact Nat.min_eq_left (Nat.mul_le_mul_right _ hk)
  · rw [List.getElem?_take] at hu
    split at hu
    · exact hu
    · cases hu
/-- an element that is one cell: its address, and what stands there -/
theorem Rd.at1 (h : Rd w 1 A n c xs) {k : Nat} (hk : k < n) : ∃ ad u, A = some ad ∧ xs[k]? = some u ∧ w.cell? (ad.add k) = some u := by
  have hl : k < xs.length := by rw [h.len]; omega
  cases hA : A with
  | none => have := h.nil hA; have := h.le; omega
  | some ad => exact ⟨ad, xs[k], rfl, List.getElem?_eq_getElem hl, h.cell ad hA k _ (List.getElem?_eq_getElem hl)⟩
end

theorem Rd.blen {w : World} {A : Option Addr} {n c : Nat} {b : List UInt8} (h : Byt w A n c b) : b.length = n := by have := h.len; simpa [bytesV] using this

theorem Rd.atB {w : World} {A : Option Addr} {n c : Nat} {b : List UInt8} (h : Byt w A n c b) {k : Nat} (hk : k < n) : ∃ ad x, A = some ad ∧ RowKit.Hid (b[k]? = some x) ∧ w.cell? (ad.add k) = some (.int .u8 (x.toNat : Int)) ∧ x.toNat < 256 := by
  obtain ⟨ad, u, hA, hu, hc⟩ := Rd.at1 h hk
  have hl := h.blen
  have : b[k]? = some (b[k]'(by omega)) := List.getElem?_eq_getElem (by omega)
  rw [bytesV_get this] at hu
  injection hu with hu
  subst hu
  exact ⟨ad, _, hA, this, hc, UInt8.toNat_lt _⟩

/-- A row of the call's own, as a literal slice. -/
abbrev Own (w : World) (base : Nat) (e : TypeId) (size : Nat) (A : Option Addr) (n c : Nat) (xs : List Value) : Prop := w.ownsRow base e size (.slice A n c) n xs

theorem Own.rd {w : World} {base : Nat} {e : TypeId} {size : Nat} {A : Option Addr} {n c : Nat} {xs : List Value} (h : Own w base e size A n c xs) : Rd w size A n c xs := Rd.of_own h
theorem Own.mono {w : World} {base b' : Nat} {e : TypeId} {size : Nat} {A : Option Addr} {n c : Nat} {xs : List Value} (h : Own w base e size A n c xs) (hb : b' ≤ base) : Own w b' e size A n c xs := by
  refine ⟨h.1, ?_⟩
  rcases h.2 with h | ⟨g, cap, cur, hv, hg, r⟩
  · exact .inl h
  · exact .inr ⟨g, cap, cur, hv, by omega, r⟩
theorem Own.bel {w w' : World} {base : Nat} {e : TypeId} {size : Nat} {A : Option Addr} {n c : Nat} {xs : List Value} (h : Own w base e size A n c xs) (hb : Below w.heap.size w w') : Own w' base e size A n c xs :=
  h.kept (row := none) ⟨hb.os, hb.tape, hb.output, hb.size, fun k hk _ => hb.block k hk⟩ (by cases A <;> simp [Value.ownBlock])
theorem Own.drewN {w : World} {base : Nat} {e : TypeId} {size : Nat} {A : Option Addr} {n c : Nat} {xs : List Value} (h : Own w base e size A n c xs) (k : Nat) : Own (w.drewN k) base e size A n c xs := h

theorem own_empty (w : World) (base : Nat) (e : TypeId) (size : Nat) (hb : base ≤ w.heap.size) : Own (w.alloc (.cells #[] e)) base e size (some ⟨w.heap.size, 0, none⟩) 0 0 [] :=
  World.ownsRow_made w #[] 0 hb (Nat.zero_le _) (by simp)
theorem own_lit (w : World) (base : Nat) (e : TypeId) (size : Nat) (cs : Array Value) (n : Nat) (hb : base ≤ w.heap.size) (hm : n ≤ maxLen) (hs : cs.size = n * size) : Own (w.alloc (.cells cs e)) base e size (some ⟨w.heap.size, 0, none⟩) n n cs.toList :=
  World.ownsRow_lit w cs n hb hm hs
theorem rd_one (w : World) (e : TypeId) (v : Value) : Rd (w.alloc (.cells #[v] e)) 1 (some ⟨w.heap.size, 0, none⟩) 1 1 [v] :=
  (own_lit w w.heap.size e 1 #[v] 1 (Nat.le_refl _) (by simp [maxLen]) (by simp)).rd
theorem bel_alloc {B : Nat} {w0 w : World} (h : Below B w0 w) (hB : B ≤ w.heap.size) (o : Obj) : Below B w0 (w.alloc o) := h.alloc hB o
theorem size_alloc_le {B : Nat} {w : World} (hB : B ≤ w.heap.size) (o : Obj) : B ≤ (w.alloc o).heap.size := by simp; omega

section append
variable {P : Program} (w : World)
theorem run_append_rd (base : Nat) (t ty e : TypeId) (i : TypeInfo) (z : Value) (size bytes : Nat) (ht : P.underlying t = some (.slice e)) (hi : P.info? e = some i) (hz : i.zero = some z)
    (hsize : i.size = size) (hby : i.bytes = bytes) (hzs : z.cells.size = size) (hsz : 0 < size)
    (A : Option Addr) (n c : Nat) (xs : List Value) (hown : Own w base e size A n c xs)
    (A' : Option Addr) (m c' : Nat) (news : List Value) (hr : Rd w size A' m c' news) (h1 : ∀ u ∈ news, u.oneCell' = true)
    (h63 : n + m ≤ maxLen) (hbytes : (n + m) * bytes ≤ 140737488355328) (hbase : base ≤ w.heap.size) :
    ∃ A2 c2 w', (Builtin.append_ #[t, t] ty #[.slice A n c, .slice A' m c']).run P w = .ok (.slice A2 (n + m) c2) w' ∧ Own w' base e size A2 (n + m) c2 (xs ++ news) ∧ w.grownBy w' (Value.slice A n c).ownBlock ∧
      ((Value.slice A2 (n + m) c2).ownBlock = (Value.slice A n c).ownBlock ∨ (Value.slice A2 (n + m) c2).ownBlock = some w.heap.size) := by
  have key : ∃ v' w', (Builtin.append_ #[t, t] ty #[.slice A n c, .slice A' m c']).run P w = .ok v' w' ∧ w'.ownsRow base e size v' (n + m) (xs ++ news) ∧ w.grownBy w' (Value.slice A n c).ownBlock ∧
      (v'.ownBlock = (Value.slice A n c).ownBlock ∨ v'.ownBlock = some w.heap.size) := by
    rcases A' with _ | ad
    · have hc0 := hr.nil rfl
      have hm : m = 0 := by have := hr.le; omega
      subst hm; subst hc0
      have hn : news = [] := List.eq_nil_of_length_eq_zero (by simpa using hr.len)
      subst hn
      have hrun := run_append_owned_none (P := P) w base t ty e i size ht hi _ n xs hown
      exact ⟨_, w, hrun, by simpa using hown, World.grownBy.refl w _, .inl rfl⟩
    · obtain ⟨v', w', hrun, h2, h3, _, h5⟩ := run_append_own_at (P := P) w base t ty e i z size bytes ht hi hz hsize hby hzs hsz _ n xs hown ad m c' news hr.len (hr.cell ad rfl) h1 h63 hbytes hbase
      exact ⟨v', w', hrun, h2, h3, h5⟩
  obtain ⟨v', w', hrun, h2, h3, h4⟩ := key
  rcases h2.2 with ⟨rfl, hn⟩ | ⟨g, cap, cur, rfl, _⟩
  · rw [hn] at h2 ⊢
    exact ⟨none, 0, w', by simpa using hrun, h2, h3, h4⟩
  · exact ⟨_, _, w', hrun, h2, h3, h4⟩

theorem wp_append_rd {o : Oper} {a : Act} {K : Act → World → Prop} {Q : Exit → Act → World → Prop} (s x : Operand) (t : TypeId)
    (ho : o.op = .call { callee := .builtin .append, args := #[s, x], argTypes := #[t, t] })
    (w0 : World) (base : Nat) (hB : Below base w0 w) (hbase : base ≤ w.heap.size) (e : TypeId) (z : Value) (size bytes : Nat) (ht : P.underlying t = some (.slice e)) (hinfo : (P.info? e).map (fun i => (i.zero, i.size, i.bytes)) = some (some z, size, bytes))
    (hzs : z.cells.size = size) (hsz : 0 < size)
    (A : Option Addr) (n c : Nat) (xs : List Value) (hs : a.eval s = .slice A n c) (hown : Own w base e size A n c xs)
    (A' : Option Addr) (m c' : Nat) (news : List Value) (hx : a.eval x = .slice A' m c') (hr : Rd w size A' m c' news) (h1 : ∀ u ∈ news, u.oneCell' = true)
    (N : Nat) (ys : List Value) (hN : n + m = N) (hys : xs ++ news = ys)
    (h63 : N ≤ maxLen) (hbytes : N * bytes ≤ 140737488355328)
    (h : ∀ A2 c2 w', Own w' base e size A2 N c2 ys → Below base w0 w' → w.grownBy w' (Value.slice A n c).ownBlock → ((Value.slice A2 N c2).ownBlock = (Value.slice A n c).ownBlock ∨ (Value.slice A2 N c2).ownBlock = some w.heap.size) →
      K (a.put o.dst (.slice A2 N c2)) w') : o.wp P a w K Q := by
  subst hN hys
  obtain ⟨i, hi, hz, hsize, hby⟩ := info_parts hinfo
  obtain ⟨A2, c2, w', hrun, h2, h3, h4⟩ := run_append_rd (P := P) w base t o.type e i z size bytes ht hi hz hsize hby hzs hsz A n c xs hown A' m c' news hr h1 h63 hbytes hbase
  unfold Oper.wp execOp
  simp only [ho, resolve, invoke, builtin, Sem.run_bind, Sem.run_pure, Result.andThen_ok, List.map_toArray, List.map_cons, List.map_nil, hs, hx, hrun]
  exact h A2 c2 w' h2 (hB.grown h3 hbase (fun k hk => (hown.lt k hk).1)) h3 h4

theorem wpL_append {ops : Array Oper} {rest : List Oper} {o : Oper} {a : Act} {Q : Exit → Act → World → Prop} (hgd : o.guard = none) (s x : Operand) (t : TypeId)
    (ho : o.op = .call { callee := .builtin .append, args := #[s, x], argTypes := #[t, t] })
    (w0 : World) (base : Nat) (hB : Below base w0 w) (hbase : base ≤ w.heap.size) (e : TypeId) (z : Value) (size bytes : Nat) (ht : P.underlying t = some (.slice e)) (hinfo : (P.info? e).map (fun i => (i.zero, i.size, i.bytes)) = some (some z, size, bytes))
    (hzs : z.cells.size = size) (hsz : 0 < size)
    (A : Option Addr) (n c : Nat) (xs : List Value) (hs : a.eval s = .slice A n c) (hown : Own w base e size A n c xs)
    (A' : Option Addr) (m c' : Nat) (news : List Value) (hx : a.eval x = .slice A' m c') (hr : Rd w size A' m c' news) (h1 : ∀ u ∈ news, u.oneCell' = true)
    (N : Nat) (ys : List Value) (hN : n + m = N) (hys : xs ++ news = ys)
    (h63 : N ≤ maxLen) (hbytes : N * bytes ≤ 140737488355328)
    (h : ∀ A2 c2 w', Own w' base e size A2 N c2 ys → Below base w0 w' → w.grownBy w' (Value.slice A n c).ownBlock → ((Value.slice A2 N c2).ownBlock = (Value.slice A n c).ownBlock ∨ (Value.slice A2 N c2).ownBlock = some w.heap.size) →
      wpList P ops Q rest (a.put o.dst (.slice A2 N c2)) w') : wpList P ops Q (o :: rest) a w :=
  wpList_plain hgd fun _ hK => wp_append_rd w s x t ho w0 base hB hbase e z size bytes ht hinfo hzs hsz A n c xs hs hown A' m c' news hx hr h1 N ys hN hys h63 hbytes fun A2 c2 w' h2 h3 h4 h5 => hK _ _ (h A2 c2 w' h2 h3 h4 h5)

theorem wpL_make_cap {ops : Array Oper} {rest : List Oper} {o : Oper} {a : Act} {Q : Exit → Act → World → Prop}
    (hg : o.guard = none) (l c : Operand) (t : TypeId) (hop : o.op = Op.makeSlice t l c)
    (w0 : World) (base : Nat) (hB : Below base w0 w) (hbase : base ≤ w.heap.size) (e : TypeId) (z : Value) (size bytes : Nat) (h1 : P.underlying t = some (.slice e)) (hinfo : (P.info? e).map (fun i => (i.zero, i.size, i.bytes)) = some (some z, size, bytes))
    (kl kc : IntKind) (C : Int) (n : Nat) (hl : a.eval l = .int kl 0) (hc : a.eval c = .int kc C) (hC : C = (n : Int)) (b2 : bytes * n ≤ 281474976710656) (b3 : n ≤ maxLen)
    (hK : ∀ w', Own w' base e size (some ⟨w.heap.size, 0, none⟩) 0 n [] → Below base w0 w' → w.grownBy w' none → wpList P ops Q rest (a.put o.dst (.slice (some ⟨w.heap.size, 0, none⟩) 0 n)) w') :
    wpList P ops Q (o :: rest) a w := by
  obtain ⟨i, hi, hz, hsize, hby⟩ := info_parts hinfo
  exact wpList_make_own w hg l c t hop base e i z size h1 hi hz hsize kl kc C n hl hc hC (by rw [hby]; exact b2) b3 hbase fun w' h1 h2 => hK w' h1 (hB.grown h2 hbase (by simp)) h2

theorem wpL_make {ops : Array Oper} {rest : List Oper} {o : Oper} {a : Act} {Q : Exit → Act → World → Prop}
    (hg : o.guard = none) (l c : Operand) (t : TypeId) (hop : o.op = Op.makeSlice t l c)
    (w0 : World) (base : Nat) (hB : Below base w0 w) (hbase : base ≤ w.heap.size) (e : TypeId) (z : Value) (size bytes : Nat) (h1 : P.underlying t = some (.slice e)) (hinfo : (P.info? e).map (fun i => (i.zero, i.size, i.bytes)) = some (some z, size, bytes))
    (kl kc : IntKind) (L C : Int) (n : Nat) (hl : a.eval l = .int kl L) (hc : a.eval c = .int kc C) (hL : L = (n : Int)) (hC : C = (n : Int)) (b2 : bytes * n ≤ 281474976710656) (b3 : n ≤ maxLen)
    (ys : List Value) (hys : (madeCells z.cells (n * size)).toList = ys)
    (hK : ∀ w', Own w' base e size (some ⟨w.heap.size, 0, none⟩) n n ys → Below base w0 w' → w.grownBy w' none → wpList P ops Q rest (a.put o.dst (.slice (some ⟨w.heap.size, 0, none⟩) n n)) w') :
    wpList P ops Q (o :: rest) a w := by
  subst hys
  obtain ⟨i, hi, hz, hsize, hby⟩ := info_parts hinfo
  exact wpList_make_full w hg l c t hop base e i z size h1 hi hz hsize kl kc L C n hl hc hL hC (by rw [hby]; exact b2) b3 hbase fun w' h1 h2 => hK w' h1 (hB.grown h2 hbase (by simp)) h2
end append

theorem fold_bytes (l : List UInt8) : ∀ s : ByteArray, (l.map fun b => (b.toNat : Int)).foldl (fun r n => r.push (UInt8.ofNat n.toNat)) s = ⟨s.data ++ l.toArray⟩ := by
  induction l with
  | nil => intro s; simp
  | cons b l ih =>
    intro s
    rw [List.map_cons, List.foldl_cons, ih]
    simp [ByteArray.push]
theorem run_str {P : Program} (w : World) (src dst e : TypeId) (A : Option Addr) (n c : Nat) (l : List UInt8) (hs : P.underlying src = some (.slice e)) (he : P.underlying e = some (.int .u8)) (hd : P.underlying dst = some .string)
    (h : Byt w A n c l) : (convert src dst (.slice A n c)).run P w = .ok (.string ⟨l.toArray⟩) w := by
  rw [run_convert_bytes_string w src dst e A n c hs he hd]
  cases A with
  | none =>
    have h0 := h.nil rfl
    have hl := h.blen
    have hn : n = 0 := by have := h.le; omega
    have : l = [] := List.eq_nil_of_length_eq_zero (by omega)
    subst this hn h0
    rfl
  | some a =>
    have hl := h.blen
    have hload := run_loadCells_list (P := P) (w := w) a (bytesV l) (h.cell a rfl)
    rw [bytesV_length, hl] at hload
    have e1 : bytesV l = (l.map fun b => (b.toNat : Int)).map (Value.int .u8) := by simp [bytesV]
    rw [e1] at hload
    rw [run_bytesToString w a n c _ hload, fold_bytes]
    simp [ByteArray.empty, ByteArray.emptyWithCapacity]
    rfl
theorem str_eq (a b : List UInt8) : ((⟨a.toArray⟩ : ByteArray).toList == (⟨b.toArray⟩ : ByteArray).toList) = (a == b) := by
  simp [ByteArray.toList_eq]

theorem made_u8 (n : Nat) : (madeCells (Value.cells (.int .u8 0)) (n * 1)).toList = bytesV (List.replicate n 0) := by
  rw [Nat.mul_one]
  have : (Value.cells (.int .u8 0)) = #[.int .u8 0] := rfl
  rw [this, toList_madeCells_one]
  simp [bytesV]

/-- numbers of a width, wrapped -/
theorem wrap_u8_nat (x : Nat) : IntKind.u8.wrap (x : Int) = ((UInt8.ofNat x).toNat : Int) := by
  rw [IntKind.wrap_u8]
  simp [UInt8.toNat_ofNat']
end Go.Proofs.Ytpbcmghfhflkbaa.Tw
