/- Texts joined: what the disks, the rings and their reference do. Conditions: none. -/
import Derived.WalkKit
import Derived.WalkSpells
import Derived.WalkLawsBesides
import Derived.Lib.Hide
import Derived.Deep.Draws
import Derived.Deep.AppendLies
import Derived.Maps.AppendAt
import Derived.Deep.QuietTactic
import Derived.BigQuiet
import Derived.Deep.RegionHeld3
import Derived.StillTailTactics
import Derived.Laws.Rows
import Derived.Test.YtaldlapnhhhclaaGreatProg
/- Words that all texts of this seat use: a slice that reads as a list of cells; laws on make and append in the form of the walk. Conditions: none. -/
set_option linter.unusedVariables false
set_option linter.unusedSimpArgs false
namespace Go.Proofs.YtaldlapnhhhclaaGreat.Tw
open Go.RowKit

/-- bytes, as cells -/
def bytesV (l : List UInt8) : List Value := l.map fun b => Value.int .u8 (b.toNat : Int)
theorem bytesV_append (a b : List UInt8) : bytesV (a ++ b) = bytesV a ++ bytesV b := by simp [bytesV]
theorem bytesV_length (a : List UInt8) : (bytesV a).length = a.length := by simp [bytesV]
theorem bytesV_nil : bytesV [] = [] := rfl
theorem bytesV_cons (x : UInt8) (a : List UInt8) : bytesV (x :: a) = Value.int .u8 (x.toNat : Int) :: bytesV a := rfl
theorem bytesV_get {l : List UInt8} {j : Nat} {b : UInt8} (h : l[j]? = some b) : (bytesV l)[j]? = some (Value.int .u8 (b.toNat : Int)) := by simp [bytesV, h]
theorem bytesV_one {l : List UInt8} : ∀ u ∈ bytesV l, u.oneCell' = true := by
  intro u hu
  obtain ⟨_, _, rfl⟩ := List.mem_map.1 hu
  rfl
theorem bytesV_inj {a b : List UInt8} (h : bytesV a = bytesV b) : a = b := by
  induction a generalizing b with
  | nil => cases b <;> simp_all [bytesV]
  | cons x a ih =>
    cases b with
    | nil => simp [bytesV] at h
    | cons y b =>
      simp only [bytesV, List.map_cons, List.cons.injEq, Value.int.injEq, true_and] at h
      have := ih h.2
      rw [this, UInt8.toNat_inj.1 (by omega : x.toNat = y.toNat)]

theorem block_add (a : Addr) (n : Nat) : (a.add n).block = a.block := by unfold Addr.add; split <;> rfl
theorem add_add (a : Addr) (i j : Nat) : (a.add i).add j = a.add (i + j) := by
  unfold Addr.add
  by_cases hi : i = 0 <;> by_cases hj : j = 0 <;> simp [hi, hj, Nat.add_assoc]

/-- The slice value `.slice A n c` reads the cells xs in w (size cells an element). -/
structure Rd (w : World) (size : Nat) (A : Option Addr) (n c : Nat) (xs : List Value) : Prop where
  len : xs.length = n * size
  le : n ≤ c
  cap : c ≤ maxLen
  nil : A = none → c = 0
  cell : ∀ ad, A = some ad → ∀ j u, xs[j]? = some u → w.cell? (ad.add j) = some u

abbrev Byt (w : World) (A : Option Addr) (n c : Nat) (l : List UInt8) : Prop := Rd w 1 A n c (bytesV l)

section
variable {w w' : World} {size n c : Nat} {A : Option Addr} {xs : List Value}
theorem Rd.below {B : Nat} (h : Rd w size A n c xs) (hb : Below B w w') (hB : w.heap.size ≤ B) : Rd w' size A n c xs :=
  ⟨h.len, h.le, h.cap, h.nil, fun ad e j u hu => by
    have hc := h.cell ad e j u hu
    have := block_lt_of_cell hc
    rw [hb.cell (by omega)]; exact hc⟩
theorem Rd.bel (h : Rd w size A n c xs) (hb : Below w.heap.size w w') : Rd w' size A n c xs := h.below hb (Nat.le_refl _)
theorem Rd.keep (h : Rd w size A n c xs) (hk : ∀ p v, w.cell? p = some v → w'.cell? p = some v) : Rd w' size A n c xs :=
  ⟨h.len, h.le, h.cap, h.nil, fun ad e j u hu => hk _ _ (h.cell ad e j u hu)⟩
theorem Rd.drewN (h : Rd w size A n c xs) (k : Nat) : Rd (w.drewN k) size A n c xs := ⟨h.len, h.le, h.cap, h.nil, h.cell⟩
theorem Rd.alloc (h : Rd w size A n c xs) (o : Obj) : Rd (w.alloc o) size A n c xs := h.bel ((Below.refl _ _).alloc (Nat.le_refl _) o)
theorem Rd.grown (h : Rd w size A n c xs) {row : Option Nat} (hg : w.grownBy w' row) (hr : ∀ ad, A = some ad → some ad.block ≠ row) : Rd w' size A n c xs :=
  ⟨h.len, h.le, h.cap, h.nil, fun ad e j u hu => hg.cell (h.cell ad e j u hu) (by rw [block_add]; exact hr ad e)⟩
theorem Rd.of_own {base : Nat} {e : TypeId} (h : w.ownsRow base e size (.slice A n c) n xs) : Rd w size A n c xs := by
  rcases h.2 with ⟨hv, hn⟩ | ⟨g, cap, cur, hv, hg, hh, hnc, hcm, hs, ht⟩
  · injection hv with h1 h2 h3
    subst h1 h2 h3
    exact ⟨h.1, Nat.le_refl _, Nat.zero_le _, fun _ => rfl, fun ad e => by cases e⟩
  · injection hv with h1 h2 h3
    subst h1 h3
    exact ⟨h.1, hnc, hcm, fun e => (by cases e), fun ad e => by injection e with e; subst e; exact h.cells rfl⟩
theorem Rd.nil_ : Rd w size none 0 0 [] := ⟨by simp, Nat.le_refl _, Nat.zero_le _, fun _ => rfl, fun ad e => by cases e⟩
theorem Rd.cut (h : Rd w size A n c xs) {k : Nat} (hk : k ≤ n) :
    Rd w size (if c = k then A else A.map (·.add (k * size))) (n - k) (c - k) (xs.drop (k * size)) := by
  have hl := h.le
  have hc := h.cap
  refine ⟨by rw [List.length_drop, h.len, Nat.sub_mul], by omega, by omega, fun e => ?_, fun ad e j u hu => ?_⟩
  · have : A = none := by split at e <;> simp_all
    have := h.nil this; omega
  · split at e
    · have : n = k := by omega
      subst this
      have := h.len
      rw [List.drop_eq_nil_of_le (by omega)] at hu
      simp at hu
    · cases A with
      | none => simp at e
      | some a0 =>
        simp only [Option.map_some, Option.some.injEq] at e
        subst e
        rw [add_add]
        exact h.cell a0 rfl _ u (by rw [← hu, List.getElem?_drop])
theorem Rd.upto (h : Rd w size A n c xs) {k : Nat} (hk : k ≤ n) : Rd w size A k c (xs.take (k * size)) := by
  have hl := h.le
  have hc := h.cap
  refine ⟨?_, by omega, h.cap, h.nil, fun ad e j u hu => h.cell ad e j u ?_⟩
  · rw [List.length_take, h.len]
    exact Nat.min_eq_left (Nat.mul_le_mul_right _ hk)
  · rw [List.getElem?_take] at hu
    split at hu
    · exact hu
    · cases hu
/-- an element that is one cell: its address, and what stands there -/
theorem Rd.at1 (h : Rd w 1 A n c xs) {k : Nat} (hk : k < n) : ∃ ad u, A = some ad ∧ xs[k]? = some u ∧ w.cell? (ad.add k) = some u := by
  have hl : k < xs.length := by rw [h.len]; omega
  cases hA : A with
  | none => have := h.nil hA; have := h.le; omega
  | some ad => exact ⟨ad, xs[k], rfl, List.getElem?_eq_getElem hl, h.cell ad hA k _ (List.getElem?_eq_getElem hl)⟩
end

theorem Rd.blen {w : World} {A : Option Addr} {n c : Nat} {b : List UInt8} (h : Byt w A n c b) : b.length = n := by have := h.len; simpa [bytesV] using this

theorem Rd.atB {w : World} {A : Option Addr} {n c : Nat} {b : List UInt8} (h : Byt w A n c b) {k : Nat} (hk : k < n) : ∃ ad x, A = some ad ∧ RowKit.Hid (b[k]? = some x) ∧ w.cell? (ad.add k) = some (.int .u8 (x.toNat : Int)) ∧ x.toNat < 256 := by
  obtain ⟨ad, u, hA, hu, hc⟩ := Rd.at1 h hk
  have hl := h.blen
  have : b[k]? = some (b[k]'(by omega)) := List.getElem?_eq_getElem (by omega)
  rw [bytesV_get this] at hu
  injection hu with hu
  subst hu
  exact ⟨ad, _, hA, this, hc, UInt8.toNat_lt _⟩

/-- A row of the call's own, as a literal slice. -/
abbrev Own (w : World) (base : Nat) (e : TypeId) (size : Nat) (A : Option Addr) (n c : Nat) (xs : List Value) : Prop := w.ownsRow base e size (.slice A n c) n xs

theorem Own.rd {w : World} {base : Nat} {e : TypeId} {size : Nat} {A : Option Addr} {n c : Nat} {xs : List Value} (h : Own w base e size A n c xs) : Rd w size A n c xs := Rd.of_own h
theorem Own.mono {w : World} {base b' : Nat} {e : TypeId} {size : Nat} {A : Option Addr} {n c : Nat} {xs : List Value} (h : Own w base e size A n c xs) (hb : b' ≤ base) : Own w b' e size A n c xs := by
  refine ⟨h.1, ?_⟩
  rcases h.2 with h | ⟨g, cap, cur, hv, hg, r⟩
  · exact .inl h
  · exact .inr ⟨g, cap, cur, hv, by omega, r⟩
theorem Own.bel {w w' : World} {base : Nat} {e : TypeId} {size : Nat} {A : Option Addr} {n c : Nat} {xs : List Value} (h : Own w base e size A n c xs) (hb : Below w.heap.size w w') : Own w' base e size A n c xs :=
  h.kept (row := none) ⟨hb.os, hb.tape, hb.output, hb.size, fun k hk _ => hb.block k hk⟩ (by cases A <;> simp [Value.ownBlock])
theorem Own.drewN {w : World} {base : Nat} {e : TypeId} {size : Nat} {A : Option Addr} {n c : Nat} {xs : List Value} (h : Own w base e size A n c xs) (k : Nat) : Own (w.drewN k) base e size A n c xs := h

theorem own_empty (w : World) (base : Nat) (e : TypeId) (size : Nat) (hb : base ≤ w.heap.size) : Own (w.alloc (.cells #[] e)) base e size (some ⟨w.heap.size, 0, none⟩) 0 0 [] :=
  World.ownsRow_made w #[] 0 hb (Nat.zero_le _) (by simp)
theorem own_lit (w : World) (base : Nat) (e : TypeId) (size : Nat) (cs : Array Value) (n : Nat) (hb : base ≤ w.heap.size) (hm : n ≤ maxLen) (hs : cs.size = n * size) : Own (w.alloc (.cells cs e)) base e size (some ⟨w.heap.size, 0, none⟩) n n cs.toList :=
  World.ownsRow_lit w cs n hb hm hs
theorem rd_one (w : World) (e : TypeId) (v : Value) : Rd (w.alloc (.cells #[v] e)) 1 (some ⟨w.heap.size, 0, none⟩) 1 1 [v] :=
  (own_lit w w.heap.size e 1 #[v] 1 (Nat.le_refl _) (by simp [maxLen]) (by simp)).rd
theorem bel_alloc {B : Nat} {w0 w : World} (h : Below B w0 w) (hB : B ≤ w.heap.size) (o : Obj) : Below B w0 (w.alloc o) := h.alloc hB o
theorem size_alloc_le {B : Nat} {w : World} (hB : B ≤ w.heap.size) (o : Obj) : B ≤ (w.alloc o).heap.size := by simp; omega

section append
variable {P : Program} (w : World)
theorem run_append_rd (base : Nat) (t ty e : TypeId) (i : TypeInfo) (z : Value) (size bytes : Nat) (ht : P.underlying t = some (.slice e)) (hi : P.info? e = some i) (hz : i.zero = some z)
    (hsize : i.size = size) (hby : i.bytes = bytes) (hzs : z.cells.size = size) (hsz : 0 < size)
    (A : Option Addr) (n c : Nat) (xs : List Value) (hown : Own w base e size A n c xs)
    (A' : Option Addr) (m c' : Nat) (news : List Value) (hr : Rd w size A' m c' news) (h1 : ∀ u ∈ news, u.oneCell' = true)
    (h63 : n + m ≤ maxLen) (hbytes : (n + m) * bytes ≤ 140737488355328) (hbase : base ≤ w.heap.size) :
    ∃ A2 c2 w', (Builtin.append_ #[t, t] ty #[.slice A n c, .slice A' m c']).run P w = .ok (.slice A2 (n + m) c2) w' ∧ Own w' base e size A2 (n + m) c2 (xs ++ news) ∧ w.grownBy w' (Value.slice A n c).ownBlock ∧
      ((Value.slice A2 (n + m) c2).ownBlock = (Value.slice A n c).ownBlock ∨ (Value.slice A2 (n + m) c2).ownBlock = some w.heap.size) := by
  have key : ∃ v' w', (Builtin.append_ #[t, t] ty #[.slice A n c, .slice A' m c']).run P w = .ok v' w' ∧ w'.ownsRow base e size v' (n + m) (xs ++ news) ∧ w.grownBy w' (Value.slice A n c).ownBlock ∧
      (v'.ownBlock = (Value.slice A n c).ownBlock ∨ v'.ownBlock = some w.heap.size) := by
    rcases A' with _ | ad
    · have hc0 := hr.nil rfl
      have hm : m = 0 := by have := hr.le; omega
      subst hm; subst hc0
      have hn : news = [] := List.eq_nil_of_length_eq_zero (by simpa using hr.len)
      subst hn
      have hrun := run_append_owned_none (P := P) w base t ty e i size ht hi _ n xs hown
      exact ⟨_, w, hrun, by simpa using hown, World.grownBy.refl w _, .inl rfl⟩
    · obtain ⟨v', w', hrun, h2, h3, _, h5⟩ := run_append_own_at (P := P) w base t ty e i z size bytes ht hi hz hsize hby hzs hsz _ n xs hown ad m c' news hr.len (hr.cell ad rfl) h1 h63 hbytes hbase
      exact ⟨v', w', hrun, h2, h3, h5⟩
  obtain ⟨v', w', hrun, h2, h3, h4⟩ := key
  rcases h2.2 with ⟨rfl, hn⟩ | ⟨g, cap, cur, rfl, _⟩
  · rw [hn] at h2 ⊢
    exact ⟨none, 0, w', by simpa using hrun, h2, h3, h4⟩
  · exact ⟨_, _, w', hrun, h2, h3, h4⟩

theorem wp_append_rd {o : Oper} {a : Act} {K : Act → World → Prop} {Q : Exit → Act → World → Prop} (s x : Operand) (t : TypeId)
    (ho : o.op = .call { callee := .builtin .append, args := #[s, x], argTypes := #[t, t] })
    (w0 : World) (base : Nat) (hB : Below base w0 w) (hbase : base ≤ w.heap.size) (e : TypeId) (z : Value) (size bytes : Nat) (ht : P.underlying t = some (.slice e)) (hinfo : (P.info? e).map (fun i => (i.zero, i.size, i.bytes)) = some (some z, size, bytes))
    (hzs : z.cells.size = size) (hsz : 0 < size)
    (A : Option Addr) (n c : Nat) (xs : List Value) (hs : a.eval s = .slice A n c) (hown : Own w base e size A n c xs)
    (A' : Option Addr) (m c' : Nat) (news : List Value) (hx : a.eval x = .slice A' m c') (hr : Rd w size A' m c' news) (h1 : ∀ u ∈ news, u.oneCell' = true)
    (N : Nat) (ys : List Value) (hN : n + m = N) (hys : xs ++ news = ys)
    (h63 : N ≤ maxLen) (hbytes : N * bytes ≤ 140737488355328)
    (h : ∀ A2 c2 w', Own w' base e size A2 N c2 ys → Below base w0 w' → w.grownBy w' (Value.slice A n c).ownBlock → ((Value.slice A2 N c2).ownBlock = (Value.slice A n c).ownBlock ∨ (Value.slice A2 N c2).ownBlock = some w.heap.size) →
      K (a.put o.dst (.slice A2 N c2)) w') : o.wp P a w K Q := by
  subst hN hys
  obtain ⟨i, hi, hz, hsize, hby⟩ := info_parts hinfo
  obtain ⟨A2, c2, w', hrun, h2, h3, h4⟩ := run_append_rd (P := P) w base t o.type e i z size bytes ht hi hz hsize hby hzs hsz A n c xs hown A' m c' news hr h1 h63 hbytes hbase
  unfold Oper.wp execOp
  simp only [ho, resolve, invoke, builtin, Sem.run_bind, Sem.run_pure, Result.andThen_ok, List.map_toArray, List.map_cons, List.map_nil, hs, hx, hrun]
  exact h A2 c2 w' h2 (hB.grown h3 hbase (fun k hk => (hown.lt k hk).1)) h3 h4

theorem wpL_append {ops : Array Oper} {rest : List Oper} {o : Oper} {a : Act} {Q : Exit → Act → World → Prop} (hgd : o.guard = none) (s x : Operand) (t : TypeId)
    (ho : o.op = .call { callee := .builtin .append, args := #[s, x], argTypes := #[t, t] })
    (w0 : World) (base : Nat) (hB : Below base w0 w) (hbase : base ≤ w.heap.size) (e : TypeId) (z : Value) (size bytes : Nat) (ht : P.underlying t = some (.slice e)) (hinfo : (P.info? e).map (fun i => (i.zero, i.size, i.bytes)) = some (some z, size, bytes))
    (hzs : z.cells.size = size) (hsz : 0 < size)
    (A : Option Addr) (n c : Nat) (xs : List Value) (hs : a.eval s = .slice A n c) (hown : Own w base e size A n c xs)
    (A' : Option Addr) (m c' : Nat) (news : List Value) (hx : a.eval x = .slice A' m c') (hr : Rd w size A' m c' news) (h1 : ∀ u ∈ news, u.oneCell' = true)
    (N : Nat) (ys : List Value) (hN : n + m = N) (hys : xs ++ news = ys)
    (h63 : N ≤ maxLen) (hbytes : N * bytes ≤ 140737488355328)
    (h : ∀ A2 c2 w', Own w' base e size A2 N c2 ys → Below base w0 w' → w.grownBy w' (Value.slice A n c).ownBlock → ((Value.slice A2 N c2).ownBlock = (Value.slice A n c).ownBlock ∨ (Value.slice A2 N c2).ownBlock = some w.heap.size) →
      wpList P ops Q rest (a.put o.dst (.slice A2 N c2)) w') : wpList P ops Q (o :: rest) a w :=
  wpList_plain hgd fun _ hK => wp_append_rd w s x t ho w0 base hB hbase e z size bytes ht hinfo hzs hsz A n c xs hs hown A' m c' news hx hr h1 N ys hN hys h63 hbytes fun A2 c2 w' h2 h3 h4 h5 => hK _ _ (h A2 c2 w' h2 h3 h4 h5)

theorem wpL_make_cap {ops : Array Oper} {rest : List Oper} {o : Oper} {a : Act} {Q : Exit → Act → World → Prop}
    (hg : o.guard = none) (l c : Operand) (t : TypeId) (hop : o.op = Op.makeSlice t l c)
    (w0 : World) (base : Nat) (hB : Below base w0 w) (hbase : base ≤ w.heap.size) (e : TypeId) (z : Value) (size bytes : Nat) (h1 : P.underlying t = some (.slice e)) (hinfo : (P.info? e).map (fun i => (i.zero, i.size, i.bytes)) = some (some z, size, bytes))
    (kl kc : IntKind) (C : Int) (n : Nat) (hl : a.eval l = .int kl 0) (hc : a.eval c = .int kc C) (hC : C = (n : Int)) (b2 : bytes * n ≤ 281474976710656) (b3 : n ≤ maxLen)
    (hK : ∀ w', Own w' base e size (some ⟨w.heap.size, 0, none⟩) 0 n [] → Below base w0 w' → w.grownBy w' none → wpList P ops Q rest (a.put o.dst (.slice (some ⟨w.heap.size, 0, none⟩) 0 n)) w') :
    wpList P ops Q (o :: rest) a w := by
  obtain ⟨i, hi, hz, hsize, hby⟩ := info_parts hinfo
  exact wpList_make_own w hg l c t hop base e i z size h1 hi hz hsize kl kc C n hl hc hC (by rw [hby]; exact b2) b3 hbase fun w' h1 h2 => hK w' h1 (hB.grown h2 hbase (by simp)) h2

theorem wpL_make {ops : Array Oper} {rest : List Oper} {o : Oper} {a : Act} {Q : Exit → Act → World → Prop}
    (hg : o.guard = none) (l c : Operand) (t : TypeId) (hop : o.op = Op.makeSlice t l c)
    (w0 : World) (base : Nat) (hB : Below base w0 w) (hbase : base ≤ w.heap.size) (e : TypeId) (z : Value) (size bytes : Nat) (h1 : P.underlying t = some (.slice e)) (hinfo : (P.info? e).map (fun i => (i.zero, i.size, i.bytes)) = some (some z, size, bytes))
    (kl kc : IntKind) (L C : Int) (n : Nat) (hl : a.eval l = .int kl L) (hc : a.eval c = .int kc C) (hL : L = (n : Int)) (hC : C = (n : Int)) (b2 : bytes * n ≤ 281474976710656) (b3 : n ≤ maxLen)
    (ys : List Value) (hys : (madeCells z.cells (n * size)).toList = ys)
    (hK : ∀ w', Own w' base e size (some ⟨w.heap.size, 0, none⟩) n n ys → Below base w0 w' → w.grownBy w' none → wpList P ops Q rest (a.put o.dst (.slice (some ⟨w.heap.size, 0, none⟩) n n)) w') :
    wpList P ops Q (o :: rest) a w := by
  subst hys
  obtain ⟨i, hi, hz, hsize, hby⟩ := info_parts hinfo
  exact wpList_make_full w hg l c t hop base e i z size h1 hi hz hsize kl kc L C n hl hc hL hC (by rw [hby]; exact b2) b3 hbase fun w' h1 h2 => hK w' h1 (hB.grown h2 hbase (by simp)) h2
end append

theorem fold_bytes (l : List UInt8) : ∀ s : ByteArray, (l.map fun b => (b.toNat : Int)).foldl (fun r n => r.push (UInt8.ofNat n.toNat)) s = ⟨s.data ++ l.toArray⟩ := by
  induction l with
  | nil => intro s; simp
  | cons b l ih =>
    intro s
    rw [List.map_cons, List.foldl_cons, ih]
    simp [ByteArray.push]
theorem run_str {P : Program} (w : World) (src dst e : TypeId) (A : Option Addr) (n c : Nat) (l : List UInt8) (hs : P.underlying src = some (.slice e)) (he : P.underlying e = some (.int .u8)) (hd : P.underlying dst = some .string)
    (h : Byt w A n c l) : (convert src dst (.slice A n c)).run P w = .ok (.string ⟨l.toArray⟩) w := by
  rw [run_convert_bytes_string w src dst e A n c hs he hd]
  cases A with
  | none =>
    have h0 := h.nil rfl
    have hl := h.blen
    have hn : n = 0 := by have := h.le; omega
    have : l = [] := List.eq_nil_of_length_eq_zero (by omega)
    subst this hn h0
    rfl
  | some a =>
    have hl := h.blen
    have hload := run_loadCells_list (P := P) (w := w) a (bytesV l) (h.cell a rfl)
    rw [bytesV_length, hl] at hload
    have e1 : bytesV l = (l.map fun b => (b.toNat : Int)).map (Value.int .u8) := by simp [bytesV]
    rw [e1] at hload
    rw [run_bytesToString w a n c _ hload, fold_bytes]
    simp [ByteArray.empty, ByteArray.emptyWithCapacity]
    rfl
theorem str_eq (a b : List UInt8) : ((⟨a.toArray⟩ : ByteArray).toList == (⟨b.toArray⟩ : ByteArray).toList) = (a == b) := by
  simp [ByteArray.toList_eq]

theorem made_u8 (n : Nat) : (madeCells (Value.cells (.int .u8 0)) (n * 1)).toList = bytesV (List.replicate n 0) := by
  rw [Nat.mul_one]
  have : (Value.cells (.int .u8 0)) = #[.int .u8 0] := rfl
  rw [this, toList_madeCells_one]
  simp [bytesV]

/-- numbers of a width, wrapped -/
theorem wrap_u8_nat (x : Nat) : IntKind.u8.wrap (x : Int) = ((UInt8.ofNat x).toNat : Int) := by
  rw [IntKind.wrap_u8]
  simp [UInt8.toNat_ofNat']
end Go.Proofs.YtaldlapnhhhclaaGreat.Tw
/- Contracts of the package num and of its reference: numbers put behind bytes, highest byte first. Conditions: the bytes are at most 2^30. -/
namespace Go.Proofs.YtaldlapnhhhclaaGreat.Num
open Go.RowKit Tw
set_option maxHeartbeats 400000

theorem info_u8 : (Tryz.prog.info? 5).map (fun i => (i.zero, i.size, i.bytes)) = some (some (.int .u8 0), 1, 1) := by kernel_rfl

/-- the lowest k bytes of n, the highest first -/
def be : Nat → Nat → List UInt8
  | 0, _ => []
  | k + 1, n => UInt8.ofNat (n / 256 ^ k) :: be k n
theorem be_length (k n : Nat) : (be k n).length = k := by induction k <;> simp [be, *]

theorem c_join (A A' : Option Addr) (n c m c' N : Nat) (b l : List UInt8) (w : World) (hb : Byt w A n c b) (hl : Byt w A' m c' l) (hN : n + m = N) (hn : N ≤ 2147483648) :
    Calls Tryz.prog 212 #[.slice A n c, .slice A' m c'] w fun e w' => ∃ A2 c2, e = .returned (.slice A2 N c2) ∧ Own w' w.heap.size 5 1 A2 N c2 (bytesV (b ++ l)) ∧ Below w.heap.size w w' := by
  subst hN
  go_enter Tryz.func212, Tryz.ntmps212
  go_wp2_with (first
    | (at_make
       refine wpL_make_cap _ rfl _ _ _ rfl w w.heap.size (Below.refl _ _) (Nat.le_refl _) 5 _ 1 1 Tryz.underlying23 info_u8 _ _ _ (n + m) rfl rfl (by omega) (by omega) (by unfold maxLen; omega) ?_
       intro w1 hown1 hb1 hg1)
    | (at_builtin
       refine wpL_append _ rfl (.tmp 12) (.tmp 13) _ rfl w w.heap.size hb1 hb1.size 5 _ 1 1 Tryz.underlying23 info_u8 rfl (by omega) _ _ _ _ rfl hown1 _ _ _ _ rfl (hb.bel hb1) bytesV_one n (bytesV b) (by omega) rfl (by unfold maxLen; omega) (by omega) ?_
       intro A2 c2 w2 hown2 hb2 hg2 ho2)
    | (at_builtin
       refine wpL_append _ rfl (.tmp 15) (.tmp 16) _ rfl w w.heap.size hb2 hb2.size 5 _ 1 1 Tryz.underlying23 info_u8 rfl (by omega) _ _ _ _ rfl hown2 _ _ _ _ rfl (hl.bel hb2) bytesV_one (n + m) (bytesV (b ++ l)) (by omega) (bytesV_append _ _).symm (by unfold maxLen; omega) (by omega) ?_
       intro A3 c3 w3 hown3 hb3 hg3 ho3))
  go_ret
  exact ⟨A3, c3, rfl, hown3, hb3⟩

theorem put_step (k i : Nat) (n0 y : Nat) (hy : y = n0 / 256 ^ k) : (bytesV (List.replicate (i + 1) 0 ++ be k n0)).set i (.int .u8 ((y : Int) % 256)) = bytesV (List.replicate i 0 ++ be (k + 1) n0) := by
  have e : ((y : Int) % 256) = ((UInt8.ofNat (n0 / 256 ^ k)).toNat : Int) := by rw [← wrap_u8_nat, ← hy, IntKind.wrap_u8]
  rw [e]
  rw [show List.replicate (i + 1) (0 : UInt8) = List.replicate i 0 ++ [0] from List.replicate_succ' .., List.append_assoc]
  rw [bytesV_append, bytesV_append, List.set_append_right _ _ (by simp [bytesV])]
  simp [bytesV, be]
theorem pow_step (x k : Nat) : x / 256 ^ k / 256 = x / 256 ^ (k + 1) := by rw [Nat.div_div_eq_div_mul, Nat.pow_succ]

theorem put_cell (i k n0 : Nat) : (bytesV (List.replicate (i + 1) 0 ++ be k n0))[i]? = some (.int .u8 0) := by
  rw [show List.replicate (i + 1) (0 : UInt8) = List.replicate i 0 ++ [0] from List.replicate_succ' .., List.append_assoc, bytesV_append, List.getElem?_append_right (by simp [bytesV])]
  simp [bytesV]

theorem c_put_u32 (A : Option Addr) (n c : Nat) (b : List UInt8) (X : Int) (x : Nat) (sz : Int) (size N : Nat) (w : World) (hX : X = (x : Int)) (hsz : sz = (size : Int)) (hb : Byt w A n c b) (hx : x < 4294967296) (hs : size ≤ 8) (hN : n + size = N) (hn : N ≤ 2147483648) :
    Calls Tryz.prog 194 #[.slice A n c, .int .u32 X, .int .i64 sz] w fun e w' => ∃ A2 c2, e = .returned (.slice A2 N c2) ∧ Own w' w.heap.size 5 1 A2 N c2 (bytesV (b ++ be size x)) ∧ Below w.heap.size w w' := by
  subst hsz hX
  go_enter Tryz.func194, Tryz.ntmps194
  go_wp2_with (first
    | (at_make
       refine wpL_make _ rfl _ _ _ rfl w w.heap.size (Below.refl _ _) (Nat.le_refl _) 5 _ 1 1 Tryz.underlying23 info_u8 _ _ _ _ size rfl rfl (by omega) (by omega) (by omega) (by unfold maxLen; omega) _ (made_u8 size) ?_
       intro w1 hown1 hb1 hg1))
  go_loopw [1, 8] (fun v i wr => ∃ j k y : Nat, Hid (j + k = size) ∧ i = .int .i64 ((j : Int) - 1) ∧ v = .int .u32 (y : Int) ∧ Hid (y = x / 256 ^ k) ∧ y < 4294967296 ∧ Own wr w.heap.size 5 1 (some ⟨w.heap.size, 0, none⟩) size size (bytesV (List.replicate j 0 ++ be k x)) ∧ Below w.heap.size w wr) (fun _ i _ => (intOf i + 1).toNat)
  case atStart =>
    exact ⟨size, 0, x, Lib.hid (by omega), rfl, rfl, Lib.hid (by simp), hx, by simpa [be] using hown1, hb1⟩
  case round =>
    obtain ⟨j, k, y, hjk, rfl, rfl, hy, hyx, hown, hbr⟩ := hrel
    clear hown1 hb1 hg1
    rcases j with _ | i
    · have hk : k = size := by have := hjk.out; omega
      subst hk
      simp only [List.replicate_zero, List.nil_append] at hown
      clear hjk
      go_wp2_with (first
        | (go_at_call 212
           (with_reducible refine (c_join _ _ _ _ _ _ N _ _ _ (hb.bel hbr) hown.rd (by omega) (by omega)).mono ?_)
           rintro e w' ⟨A2, c2, rfl, hown2, hb2⟩))
      go_ret
      exact ⟨A2, c2, rfl, hown2.mono hbr.size, hbr.trans (hb2.mono hbr.size)⟩
    · rw [show ((i + 1 : Nat) : Int) - 1 = (i : Int) from by omega]
      have hi : i < size := by have := hjk.out; omega
      have hcell := hown.cellAt i (by omega)
      have hfr := hown.frozenAt i
      have hst := hown.stored i (.int .u8 ((y : Int) % 256))
      rw [put_step _ _ _ _ hy.out] at hst
      rw [put_cell] at hcell
      have Hst := Lib.hid hst
      clear hst hown
      go_wp2
      go_roundw
      case rel => exact ⟨i, k + 1, y / 256, Lib.hid (by have := hjk.out; omega), rfl, by simp, Lib.hid (by rw [hy.out, pow_step]), by omega, Hst.out.1, hbr.setCell (by simp) _⟩
      case measure => simp [intOf] <;> omega
theorem c_put_u64 (A : Option Addr) (n c : Nat) (b : List UInt8) (X : Int) (x : Nat) (sz : Int) (size N : Nat) (w : World) (hX : X = (x : Int)) (hsz : sz = (size : Int)) (hb : Byt w A n c b) (hx : x < 18446744073709551616) (hs : size ≤ 8) (hN : n + size = N) (hn : N ≤ 2147483648) :
    Calls Tryz.prog 193 #[.slice A n c, .int .u64 X, .int .i64 sz] w fun e w' => ∃ A2 c2, e = .returned (.slice A2 N c2) ∧ Own w' w.heap.size 5 1 A2 N c2 (bytesV (b ++ be size x)) ∧ Below w.heap.size w w' := by
  subst hsz hX
  go_enter Tryz.func193, Tryz.ntmps193
  go_wp2_with (first
    | (at_make
       refine wpL_make _ rfl _ _ _ rfl w w.heap.size (Below.refl _ _) (Nat.le_refl _) 5 _ 1 1 Tryz.underlying23 info_u8 _ _ _ _ size rfl rfl (by omega) (by omega) (by omega) (by unfold maxLen; omega) _ (made_u8 size) ?_
       intro w1 hown1 hb1 hg1))
  go_loopw [1, 8] (fun v i wr => ∃ j k y : Nat, Hid (j + k = size) ∧ i = .int .i64 ((j : Int) - 1) ∧ v = .int .u64 (y : Int) ∧ Hid (y = x / 256 ^ k) ∧ y < 18446744073709551616 ∧ Own wr w.heap.size 5 1 (some ⟨w.heap.size, 0, none⟩) size size (bytesV (List.replicate j 0 ++ be k x)) ∧ Below w.heap.size w wr) (fun _ i _ => (intOf i + 1).toNat)
  case atStart =>
    exact ⟨size, 0, x, Lib.hid (by omega), rfl, rfl, Lib.hid (by simp), hx, by simpa [be] using hown1, hb1⟩
  case round =>
    obtain ⟨j, k, y, hjk, rfl, rfl, hy, hyx, hown, hbr⟩ := hrel
    clear hown1 hb1 hg1
    rcases j with _ | i
    · have hk : k = size := by have := hjk.out; omega
      subst hk
      simp only [List.replicate_zero, List.nil_append] at hown
      clear hjk
      go_wp2_with (first
        | (go_at_call 212
           (with_reducible refine (c_join _ _ _ _ _ _ N _ _ _ (hb.bel hbr) hown.rd (by omega) (by omega)).mono ?_)
           rintro e w' ⟨A2, c2, rfl, hown2, hb2⟩))
      go_ret
      exact ⟨A2, c2, rfl, hown2.mono hbr.size, hbr.trans (hb2.mono hbr.size)⟩
    · rw [show ((i + 1 : Nat) : Int) - 1 = (i : Int) from by omega]
      have hi : i < size := by have := hjk.out; omega
      have hcell := hown.cellAt i (by omega)
      have hfr := hown.frozenAt i
      have hst := hown.stored i (.int .u8 ((y : Int) % 256))
      rw [put_step _ _ _ _ hy.out] at hst
      rw [put_cell] at hcell
      have Hst := Lib.hid hst
      clear hst hown
      go_wp2
      go_roundw
      case rel => exact ⟨i, k + 1, y / 256, Lib.hid (by have := hjk.out; omega), rfl, by simp, Lib.hid (by rw [hy.out, pow_step]), by omega, Hst.out.1, hbr.setCell (by simp) _⟩
      case measure => simp [intOf] <;> omega

theorem c_Put32 (A : Option Addr) (n c : Nat) (b : List UInt8) (X : Int) (x : Nat) (N : Nat) (w : World) (hb : Byt w A n c b) (hX : X = (x : Int)) (hx : x < 4294967296) (hN : n + 4 = N) (hn : N ≤ 2147483648) :
    Calls Tryz.prog 181 #[.slice A n c, .int .u32 X] w fun e w' => ∃ A2 c2, e = .returned (.slice A2 N c2) ∧ Own w' w.heap.size 5 1 A2 N c2 (bytesV (b ++ be 4 x)) ∧ Below w.heap.size w w' := by
  subst hX
  go_enter Tryz.func181, Tryz.ntmps181
  go_wp2_with (first
    | (go_at_call 194
       (with_reducible refine (c_put_u32 _ _ _ _ _ x 4 4 N _ rfl rfl hb hx (by omega) hN hn).mono ?_)
       rintro e w' ⟨A2, c2, rfl, hown2, hb2⟩))
  go_ret
  exact ⟨A2, c2, rfl, hown2, hb2⟩

theorem c_Put64 (A : Option Addr) (n c : Nat) (b : List UInt8) (X : Int) (x : Nat) (N : Nat) (w : World) (hb : Byt w A n c b) (hX : X = (x : Int)) (hx : x < 18446744073709551616) (hN : n + 8 = N) (hn : N ≤ 2147483648) :
    Calls Tryz.prog 180 #[.slice A n c, .int .u64 X] w fun e w' => ∃ A2 c2, e = .returned (.slice A2 N c2) ∧ Own w' w.heap.size 5 1 A2 N c2 (bytesV (b ++ be 8 x)) ∧ Below w.heap.size w w' := by
  subst hX
  go_enter Tryz.func180, Tryz.ntmps180
  go_wp2_with (first
    | (go_at_call 193
       (with_reducible refine (c_put_u64 _ _ _ _ _ x 8 8 N _ rfl rfl hb hx (by omega) hN hn).mono ?_)
       rintro e w' ⟨A2, c2, rfl, hown2, hb2⟩))
  go_ret
  exact ⟨A2, c2, rfl, hown2, hb2⟩

theorem rput_cell (b : List UInt8) (n i k n0 : Nat) (hbn : b.length = n) : (bytesV (b ++ (List.replicate (i + 1) 0 ++ be k n0)))[n + i]? = some (.int .u8 0) := by
  rw [bytesV_append, List.getElem?_append_right (by simp [bytesV, hbn])]
  simp only [bytesV_length, hbn, Nat.add_sub_cancel_left]
  exact put_cell i k n0
theorem rput_step (b : List UInt8) (n k i : Nat) (n0 y : Nat) (hbn : b.length = n) (hy : y = n0 / 256 ^ k) : (bytesV (b ++ (List.replicate (i + 1) 0 ++ be k n0))).set (n + i) (.int .u8 ((y : Int) % 256)) = bytesV (b ++ (List.replicate i 0 ++ be (k + 1) n0)) := by
  rw [bytesV_append, List.set_append_right _ _ (by simp [bytesV, hbn])]
  simp only [bytesV_length, hbn, Nat.add_sub_cancel_left]
  rw [put_step k i n0 y hy, ← bytesV_append]

theorem c_rPut (A : Option Addr) (n c : Nat) (b : List UInt8) (X : Int) (x : Nat) (sz : Int) (size N : Nat) (w : World) (hX : X = (x : Int)) (hsz : sz = (size : Int)) (hb : Byt w A n c b) (hx : x < 18446744073709551616) (hs : size ≤ 8) (hs0 : 0 < size) (hN : n + size = N) (hn : N ≤ 2147483648) :
    Calls Tryz.prog 183 #[.slice A n c, .int .u64 X, .int .i64 sz] w fun e w' => ∃ A2 c2, e = .returned (.slice A2 N c2) ∧ Own w' w.heap.size 5 1 A2 N c2 (bytesV (b ++ be size x)) ∧ Below w.heap.size w w' := by
  subst hsz hX
  have hbn := hb.blen
  have Hbn := Lib.hid hbn
  have HN := Lib.hid hN
  have hnN : n ≤ N := by omega
  clear hbn hN
  go_enter Tryz.func183, Tryz.ntmps183
  go_wp2_with (first
    | (at_builtin
       refine wpL_append _ rfl (.tmp 10) (.tmp 11) _ rfl w w.heap.size (bel_alloc (Below.refl _ _) (Nat.le_refl _) _) (size_alloc_le (Nat.le_refl _) _) 5 _ 1 1 Tryz.underlying23 info_u8 rfl (by omega) _ _ _ [] rfl (own_empty _ _ _ _ (Nat.le_refl _)) _ _ _ _ rfl (hb.alloc _) bytesV_one n (bytesV b) (by omega) rfl (by unfold maxLen; omega) (by omega) ?_
       intro A1 c1 w1 hown1 hb1 hg1 ho1))
  clear ho1 hg1
  go_loopw [7, 8] (fun v i wr => ∃ k m A1 c1, Hid (n + k = m) ∧ k ≤ size ∧ m ≤ N ∧ i = .int .i64 (k : Int) ∧ v = .slice A1 m c1 ∧ Own wr w.heap.size 5 1 A1 m c1 (bytesV (b ++ List.replicate k 0)) ∧ Below w.heap.size w wr) (fun _ i _ => size - (intOf i).toNat)
  case atStart => exact ⟨0, n, A1, c1, Lib.hid (by omega), by omega, hnN, rfl, rfl, by simpa using hown1, hb1⟩
  case round =>
    obtain ⟨k, m, A1, c1, hkm, hk, hm, rfl, rfl, hown, hbr⟩ := hrel
    by_cases hlt : k < size
    · have hmN : m + 1 ≤ N := by have := HN.out; have := hkm.out; omega
      go_wp2_with (first
        | (at_builtin
           go_loud (refine wpL_append _ rfl (.tmp 18) (.tmp 19) _ rfl w w.heap.size (bel_alloc hbr hbr.size _) (size_alloc_le hbr.size _) 5 _ 1 1 Tryz.underlying23 info_u8 rfl (by omega) _ _ _ _ rfl (hown.alloc _) _ _ _ _ rfl (rd_one _ _ _) (by simp [Value.oneCell']) (m + 1) (bytesV (b ++ List.replicate (k + 1) 0)) rfl (by simp [bytesV, List.replicate_succ']) (by unfold maxLen; omega) (by omega) ?_)
           intro A2 c2 w2 hown2 hb2 hg2 ho2))
      clear ho2 hg2
      go_wp2
      go_roundw
      case rel => exact ⟨k + 1, m + 1, A2, c2, Lib.hid (by have := hkm.out; omega), by omega, by omega, by go_num, rfl, hown2, hb2⟩
      case measure => simp [intOf] <;> omega
    · have hk : k = size := by omega
      have hm : m = N := by have := HN.out; have := hkm.out; omega
      subst hk hm
      obtain ⟨g, cap, hv, hg, hgl⟩ := hown.form (by have := HN.out; omega)
      injection hv with hv1 hv2 hv3
      subst hv1 hv3
      clear hkm hown1 hb1 hgl
      go_wp2_with fail
      go_loopw [1, 9] (fun v i wr => ∃ j q y : Nat, Hid (j + q = k) ∧ i = .int .i64 (((n + j : Nat) : Int) - 1) ∧ v = .int .u64 (y : Int) ∧ Hid (y = x / 256 ^ q) ∧ y < 18446744073709551616 ∧ Own wr w.heap.size 5 1 (some ⟨g, 0, none⟩) m c1 (bytesV (b ++ (List.replicate j 0 ++ be q x))) ∧ Below w.heap.size w wr) (fun _ i _ => (intOf i + 1).toNat)
      case atStart => exact ⟨k, 0, x, Lib.hid (by omega), by rw [HN.out], rfl, Lib.hid (by simp), hx, by simpa [be] using hown, hbr⟩
      case round =>
        clear hbr hown
        obtain ⟨j, q, y, hjq, rfl, rfl, hy, hyx, hown, hbr⟩ := hrel
        rcases j with _ | i
        · have hq : q = k := by have := hjq.out; omega
          subst hq
          simp only [List.replicate_zero, List.nil_append] at hown
          rw [Nat.add_zero]
          clear hjq
          go_wp2
          go_ret
          exact ⟨_, _, rfl, hown, hbr⟩
        · rw [show ((n + (i + 1) : Nat) : Int) - 1 = ((n + i : Nat) : Int) from by omega]
          have hi : n + i < m := by have := hjq.out; have := HN.out; omega
          have hcell := hown.cellAt (n + i) (by omega)
          have hfr := hown.frozenAt (n + i)
          have hst := hown.stored (n + i) (.int .u8 ((y : Int) % 256))
          rw [rput_step _ _ _ _ _ _ Hbn.out hy.out] at hst
          rw [rput_cell _ _ _ _ _ Hbn.out] at hcell
          have Hst := Lib.hid hst
          clear hst hown
          obtain ⟨p, hp⟩ : ∃ p, p = n + i := ⟨_, rfl⟩
          rw [← hp] at hcell hfr hi ⊢
          have hnp : n ≤ p := by omega
          have Hp := Lib.hid hp
          clear hp
          go_wp2
          go_roundw
          case rel => exact ⟨i, q + 1, y / 256, Lib.hid (by have := hjq.out; omega), by rw [Hp.out], by simp, Lib.hid (by rw [hy.out, pow_step]), by omega, by rw [Hp.out]; exact Hst.out.1, hbr.setCell (by simpa using hg) _⟩
          case measure => simp [intOf] <;> omega

theorem c_rPut32 (A : Option Addr) (n c : Nat) (b : List UInt8) (X : Int) (x : Nat) (N : Nat) (w : World) (hb : Byt w A n c b) (hX : X = (x : Int)) (hx : x < 4294967296) (hN : n + 4 = N) (hn : N ≤ 2147483648) :
    Calls Tryz.prog 164 #[.slice A n c, .int .u32 X] w fun e w' => ∃ A2 c2, e = .returned (.slice A2 N c2) ∧ Own w' w.heap.size 5 1 A2 N c2 (bytesV (b ++ be 4 x)) ∧ Below w.heap.size w w' := by
  subst hX
  go_enter Tryz.func164, Tryz.ntmps164
  go_wp2_with (first
    | (go_at_call 183
       (with_reducible refine (c_rPut _ _ _ _ _ x 4 4 N _ (by simp <;> omega) rfl hb (by omega) (by omega) (by omega) hN hn).mono ?_)
       rintro e w' ⟨A2, c2, rfl, hown2, hb2⟩))
  go_ret
  exact ⟨A2, c2, rfl, hown2, hb2⟩
theorem c_rPut64 (A : Option Addr) (n c : Nat) (b : List UInt8) (X : Int) (x : Nat) (N : Nat) (w : World) (hb : Byt w A n c b) (hX : X = (x : Int)) (hx : x < 18446744073709551616) (hN : n + 8 = N) (hn : N ≤ 2147483648) :
    Calls Tryz.prog 163 #[.slice A n c, .int .u64 X] w fun e w' => ∃ A2 c2, e = .returned (.slice A2 N c2) ∧ Own w' w.heap.size 5 1 A2 N c2 (bytesV (b ++ be 8 x)) ∧ Below w.heap.size w w' := by
  subst hX
  go_enter Tryz.func163, Tryz.ntmps163
  go_wp2_with (first
    | (go_at_call 183
       (with_reducible refine (c_rPut _ _ _ _ _ x 8 8 N _ (by simp <;> omega) rfl hb (by omega) (by omega) (by omega) hN hn).mono ?_)
       rintro e w' ⟨A2, c2, rfl, hown2, hb2⟩))
  go_ret
  exact ⟨A2, c2, rfl, hown2, hb2⟩
/-- the number of bytes, the highest first -/
def val (l : List UInt8) : Nat := l.foldl (fun n c => n * 256 + c.toNat) 0
theorem val_snoc (l : List UInt8) (c : UInt8) : val (l ++ [c]) = val l * 256 + c.toNat := by simp [val]
theorem val_lt' (l : List UInt8) : ∀ a, l.foldl (fun n (c : UInt8) => n * 256 + c.toNat) a < (a + 1) * 256 ^ l.length := by
  induction l with
  | nil => intro a; simp
  | cons c l ih =>
    intro a
    rw [List.foldl_cons, List.length_cons, Nat.pow_succ]
    refine Nat.lt_of_lt_of_le (ih _) ?_
    have := c.toNat_lt
    have h2 : a * 256 + c.toNat + 1 ≤ (a + 1) * 256 := by omega
    calc (a * 256 + c.toNat + 1) * 256 ^ l.length ≤ ((a + 1) * 256) * 256 ^ l.length := Nat.mul_le_mul_right _ h2
      _ = (a + 1) * (256 ^ l.length * 256) := by rw [Nat.mul_assoc, Nat.mul_comm 256]
theorem val_lt (l : List UInt8) : val l < 256 ^ l.length := by
  have := val_lt' l 0
  simpa [val] using this
theorem take_succ_byte (l : List UInt8) (k : Nat) (h : k < l.length) : l.take (k + 1) = l.take k ++ [l[k]] := by
  rw [List.take_succ_eq_append_getElem h]

theorem or8_u16 (y c : Nat) (hy : y < 256) (hc : c < 256) : bits .or .u16 (IntKind.u16.wrap ((y : Int) * 256)) (c : Int) = ((y * 256 + c : Nat) : Int) := by
  rw [IntKind.wrap_u16]
  have e : (y : Int) * 256 % 65536 = ((y * 256 : Nat) : Int) := by omega
  rw [e, u16_or_nat _ _ (by omega) (by omega), nat_join 8 _ _ (by omega) (by omega)]
theorem or8_u32 (y c : Nat) (hy : y < 16777216) (hc : c < 256) : bits .or .u32 ((y : Int) * 256 % 4294967296) (c : Int) = ((y * 256 + c : Nat) : Int) := by
  have e : (y : Int) * 256 % 4294967296 = ((y * 256 : Nat) : Int) := by omega
  rw [e, u32_or_nat _ _ (by omega) (by omega), nat_join 8 _ _ (by omega) (by omega)]
theorem or8_u64 (y c : Nat) (hy : y < 72057594037927936) (hc : c < 256) : bits .or .u64 (IntKind.u64.wrap ((y : Int) * 256)) (c : Int) = ((y * 256 + c : Nat) : Int) := by
  rw [IntKind.wrap_u64]
  have e : (y : Int) * 256 % 18446744073709551616 = ((y * 256 : Nat) : Int) := by omega
  rw [e, u64_or_nat _ _ (by omega) (by omega), nat_join 8 _ _ (by omega) (by omega)]
theorem val_take_lt (b : List UInt8) (k j : Nat) (h : k ≤ j) : val (b.take k) < 256 ^ j :=
  Nat.lt_of_lt_of_le (val_lt _) (Nat.pow_le_pow_right (by omega) (Nat.le_trans (by simp; omega) h))
theorem val_take_succ (b : List UInt8) (k : Nat) (x : UInt8) (h : b[k]? = some x) : val (b.take (k + 1)) = val (b.take k) * 256 + x.toNat := by
  obtain ⟨hl, rfl⟩ := List.getElem?_eq_some_iff.1 h
  rw [take_succ_byte b k hl, val_snoc]

theorem c_get_u32 (A : Option Addr) (n c : Nat) (b : List UInt8) (sz : Int) (size : Nat) (w : World) (hb : Byt w A n c b) (hsz : sz = (size : Int)) (hs : size ≤ 4) (hn : size ≤ n) :
    Calls Tryz.prog 220 #[.slice A n c, .int .i64 sz] w fun e w' => e = .returned (.tuple #[.int .u32 (val (b.take size) : Nat), .bool true]) ∧ w = w' := by
  subst hsz
  have hc := hb.le
  have hm := hb.cap
  unfold maxLen at hm
  have hl := hb.blen
  have Hl := Lib.hid hl
  clear hl
  go_enter Tryz.func220, Tryz.ntmps220
  go_wp2
  go_loop [6, 8, 17] (fun v u i => ∃ k y : Nat, k ≤ size ∧ i = .int .i64 (k : Int) ∧ v = .int .u32 (y : Int) ∧ Hid (y = val (b.take k))) (fun _ _ i => size - (intOf i).toNat)
  case atStart => exact ⟨0, 0, by omega, rfl, rfl, Lib.hid (by simp [val])⟩
  case round =>
    obtain ⟨k, y, hk, rfl, rfl, hy⟩ := hrel
    by_cases hlt : k < size
    · obtain ⟨ad, x, rfl, hx, hcell, hx256⟩ := hb.atB (k := k) (by omega)
      go_wp2
      go_round
      case rel => exact ⟨k + 1, y * 256 + x.toNat, by omega, by go_num, by rw [or8_u32 y _ (by rw [hy.out]; exact val_take_lt b k 3 (by omega)) hx256], Lib.hid (by rw [hy.out, val_take_succ b k x hx.out])⟩
      case measure => simp [intOf] <;> omega
    · have hk : k = size := by omega
      subst hk
      go_wp2
      go_ret2
      refine ⟨?_, rfl⟩
      rw [← hy.out]
      rfl
theorem c_get_u32_short (A : Option Addr) (n c : Nat) (sz : Int) (size : Nat) (w : World) (hsz : sz = (size : Int)) (hn : n < size) :
    Calls Tryz.prog 220 #[.slice A n c, .int .i64 sz] w fun e w' => e = .returned (.tuple #[.int .u32 0, .bool false]) ∧ w = w' := by
  subst hsz
  go_enter Tryz.func220, Tryz.ntmps220
  go_wp2
  go_ret2
  exact ⟨rfl, rfl⟩
theorem c_get_u64 (A : Option Addr) (n c : Nat) (b : List UInt8) (sz : Int) (size : Nat) (w : World) (hb : Byt w A n c b) (hsz : sz = (size : Int)) (hs : size ≤ 8) (hn : size ≤ n) :
    Calls Tryz.prog 221 #[.slice A n c, .int .i64 sz] w fun e w' => e = .returned (.tuple #[.int .u64 (val (b.take size) : Nat), .bool true]) ∧ w = w' := by
  subst hsz
  have hc := hb.le
  have hm := hb.cap
  unfold maxLen at hm
  have hl := hb.blen
  have Hl := Lib.hid hl
  clear hl
  go_enter Tryz.func221, Tryz.ntmps221
  go_wp2
  go_loop [6, 8, 17] (fun v u i => ∃ k y : Nat, k ≤ size ∧ i = .int .i64 (k : Int) ∧ v = .int .u64 (y : Int) ∧ Hid (y = val (b.take k))) (fun _ _ i => size - (intOf i).toNat)
  case atStart => exact ⟨0, 0, by omega, rfl, rfl, Lib.hid (by simp [val])⟩
  case round =>
    obtain ⟨k, y, hk, rfl, rfl, hy⟩ := hrel
    by_cases hlt : k < size
    · obtain ⟨ad, x, rfl, hx, hcell, hx256⟩ := hb.atB (k := k) (by omega)
      go_wp2
      go_round
      case rel => exact ⟨k + 1, y * 256 + x.toNat, by omega, by go_num, by rw [or8_u64 y _ (by rw [hy.out]; exact val_take_lt b k 7 (by omega)) hx256], Lib.hid (by rw [hy.out, val_take_succ b k x hx.out])⟩
      case measure => simp [intOf] <;> omega
    · have hk : k = size := by omega
      subst hk
      go_wp2
      go_ret2
      refine ⟨?_, rfl⟩
      rw [← hy.out]
      rfl
theorem c_get_u64_short (A : Option Addr) (n c : Nat) (sz : Int) (size : Nat) (w : World) (hsz : sz = (size : Int)) (hn : n < size) :
    Calls Tryz.prog 221 #[.slice A n c, .int .i64 sz] w fun e w' => e = .returned (.tuple #[.int .u64 0, .bool false]) ∧ w = w' := by
  subst hsz
  go_enter Tryz.func221, Tryz.ntmps221
  go_wp2
  go_ret2
  exact ⟨rfl, rfl⟩
theorem c_rGet (A : Option Addr) (n c : Nat) (b : List UInt8) (sz : Int) (size : Nat) (w : World) (hb : Byt w A n c b) (hsz : sz = (size : Int)) (hs : size ≤ 8) (hn : size ≤ n) :
    Calls Tryz.prog 169 #[.slice A n c, .int .i64 sz] w fun e w' => e = .returned (.tuple #[.int .u64 (val (b.take size) : Nat), .bool true]) ∧ w = w' := by
  subst hsz
  have hc := hb.le
  have hm := hb.cap
  unfold maxLen at hm
  have hl := hb.blen
  have Hl := Lib.hid hl
  clear hl
  go_enter Tryz.func169, Tryz.ntmps169
  go_wp2
  go_loop [6, 7] (fun v i => ∃ k y : Nat, k ≤ size ∧ i = .int .i64 (k : Int) ∧ v = .int .u64 (y : Int) ∧ Hid (y = val (b.take k))) (fun _ i => size - (intOf i).toNat)
  case atStart => exact ⟨0, 0, by omega, rfl, rfl, Lib.hid (by simp [val])⟩
  case round =>
    obtain ⟨k, y, hk, rfl, rfl, hy⟩ := hrel
    by_cases hlt : k < size
    · obtain ⟨ad, x, rfl, hx, hcell, hx256⟩ := hb.atB (k := k) (by omega)
      have hyb : y < 72057594037927936 := by rw [hy.out]; exact val_take_lt b k 7 (by omega)
      go_wp2
      go_round
      case rel => exact ⟨k + 1, y * 256 + x.toNat, by omega, by go_num, by congr 1; omega, Lib.hid (by rw [hy.out, val_take_succ b k x hx.out])⟩
      case measure => simp [intOf] <;> omega
    · have hk : k = size := by omega
      subst hk
      go_wp2
      go_ret2
      refine ⟨?_, rfl⟩
      rw [← hy.out]
      rfl
theorem c_rGet_short (A : Option Addr) (n c : Nat) (sz : Int) (size : Nat) (w : World) (hsz : sz = (size : Int)) (hn : n < size) :
    Calls Tryz.prog 169 #[.slice A n c, .int .i64 sz] w fun e w' => e = .returned (.tuple #[.int .u64 0, .bool false]) ∧ w = w' := by
  subst hsz
  go_enter Tryz.func169, Tryz.ntmps169
  go_wp2
  go_ret2
  exact ⟨rfl, rfl⟩
end Go.Proofs.YtaldlapnhhhclaaGreat.Num
/- What a step may turn: the blocks of a set, and new ones; slices that are full, and append onto them; a row of rows of bytes. Conditions: none. -/
namespace Go.Proofs.YtaldlapnhhhclaaGreat.Tw
open Go.RowKit

/-- Of the blocks that are there those of S alone may turn. -/
structure Fr (S : Nat → Prop) (w w' : World) : Prop where
  os : w'.os = w.os
  tape : w'.tape = w.tape
  output : w'.output = w.output
  size : w.heap.size ≤ w'.heap.size
  block : ∀ k, k < w.heap.size → ¬ S k → w'.heap[k]? = w.heap[k]?

section
variable {S S1 F : Nat → Prop} {w w' w1 w2 : World}
theorem Fr.refl (S : Nat → Prop) (w : World) : Fr S w w := ⟨rfl, rfl, rfl, Nat.le_refl _, fun _ _ _ => rfl⟩
theorem Fr.trans (h : Fr S w w1) (k : Fr S1 w1 w2) (hs : ∀ b, b < w.heap.size → S1 b → S b) : Fr S w w2 :=
  ⟨k.os.trans h.os, k.tape.trans h.tape, k.output.trans h.output, Nat.le_trans h.size k.size, fun i hi hn => (k.block i (Nat.lt_of_lt_of_le hi h.size) (fun e => hn (hs i hi e))).trans (h.block i hi hn)⟩
theorem Fr.mono (h : Fr S w w') (hs : ∀ k, k < w.heap.size → S k → S1 k) : Fr S1 w w' := ⟨h.os, h.tape, h.output, h.size, fun k hk hn => h.block k hk (fun e => hn (hs k hk e))⟩
theorem Fr.of_bel (h : Below w.heap.size w w') : Fr S w w' := ⟨h.os, h.tape, h.output, h.size, fun k hk _ => h.block k hk⟩
theorem Fr.bel {B : Nat} (h : Fr S w w') (hs : ∀ k, S k → B ≤ k) (hB : B ≤ w.heap.size) : Below B w w' := ⟨h.os, h.tape, h.output, h.size, fun k hk => h.block k (by omega) (fun e => by have := hs k e; omega)⟩
theorem Fr.grown {row : Option Nat} (h : w.grownBy w' row) (hs : ∀ k, some k = row → S k) : Fr S w w' := ⟨h.os, h.tape, h.output, h.size, fun k hk hn => h.block k hk (fun e => hn (hs k e))⟩
theorem Fr.setCell {p : Addr} (hp : S p.block) (u : Value) : Fr S w (w.setCell p u) :=
  ⟨rfl, rfl, rfl, by simp [World.setCell], fun k _ hn => Below.heap_setCell _ _ _ _ (fun e => hn (e ▸ hp))⟩
theorem Fr.alloc (o : Obj) : Fr S w (w.alloc o) := Fr.of_bel ((Below.refl _ _).alloc (Nat.le_refl _) o)
theorem Fr.drewN (n : Nat) : Fr S w (w.drewN n) := ⟨rfl, rfl, rfl, Nat.le_refl _, fun _ _ _ => rfl⟩

variable {size n c : Nat} {A : Option Addr} {xs : List Value}
theorem Rd.fr (h : Rd w size A n c xs) (hf : Fr S w w') (hd : ∀ ad, A = some ad → ¬ S ad.block) : Rd w' size A n c xs :=
  ⟨h.len, h.le, h.cap, h.nil, fun ad e j u hu => by
    have hc := h.cell ad e j u hu
    have hb := block_lt_of_cell hc
    rw [World.cell?_of_block (w := w) (hf.block _ hb (by rw [block_add]; exact hd ad e))]
    exact hc⟩
theorem Rd.full (h : Rd w size A n c xs) : Rd w size A n n xs := ⟨h.len, Nat.le_refl _, Nat.le_trans h.le h.cap, fun e => by have := h.nil e; have := h.le; omega, h.cell⟩
theorem Own.fr {base : Nat} {e : TypeId} (h : Own w base e size A n c xs) (hf : Fr S w w') (hd : ∀ ad, A = some ad → ¬ S ad.block) : Own w' base e size A n c xs := by
  refine ⟨h.1, ?_⟩
  rcases h.2 with h2 | ⟨g, cap, cur, hv, hg, hh, r⟩
  · exact .inl h2
  · refine .inr ⟨g, cap, cur, hv, hg, ?_, r⟩
    injection hv with h1 _ _
    have hlt : g < w.heap.size := by
      rcases Nat.lt_or_ge g w.heap.size with h | h
      · exact h
      · rw [Array.getElem?_eq_none h] at hh; cases hh
    rw [hf.block g hlt (hd _ h1)]
    exact hh
theorem Own.at0 {base : Nat} {e : TypeId} (h : Own w base e size A n c xs) : ∀ ad, A = some ad → base ≤ ad.block ∧ ad.block < w.heap.size := by
  intro ad hA
  subst hA
  exact h.lt ad.block rfl
theorem heap_fr {k : Nat} {o : Obj} (h : w.heap[k]? = some o) (hf : Fr S w w') (hd : ¬ S k) : w'.heap[k]? = some o := by
  have hlt : k < w.heap.size := by
    rcases Nat.lt_or_ge k w.heap.size with h1 | h1
    · exact h1
    · rw [Array.getElem?_eq_none h1] at h; cases h
  rw [hf.block k hlt hd, h]
theorem heap_lt {k : Nat} {o : Obj} (h : w.heap[k]? = some o) : k < w.heap.size := by
  rcases Nat.lt_or_ge k w.heap.size with h1 | h1
  · exact h1
  · rw [Array.getElem?_eq_none h1] at h; cases h
end

theorem quiet_same {P : Program} {f : FuncId} {args : Array Value} {w : World} {n : Nat} {v : Value}
    (h : Calls P f args (w.drewN n) fun e w' => e = .returned v ∧ w.drewN n = w') : Calls P f args (w.drewN n) fun e w'' => e = .returned v ∧ ∃ m, w'' = w.drewN m :=
  h.mono fun _ _ ⟨he, hm⟩ => ⟨he, n, hm.symm⟩
theorem quiet_drew {P : Program} {f : FuncId} {args : Array Value} {w : World} {n : Nat} {v : Value}
    (h : Calls P f args (w.drewN n) fun e w' => e = .returned v ∧ ∃ m, w' = (w.drewN n).drewN m) : Calls P f args (w.drewN n) fun e w'' => e = .returned v ∧ ∃ m, w'' = w.drewN m :=
  h.mono fun _ _ ⟨he, m, hm⟩ => ⟨he, n + m, by rw [hm, World.drewN_drewN]⟩

section
variable {P : Program} (w : World)
/-- append onto a slice that is full: a new row -/
theorem run_append_full (base : Nat) (t ty e : TypeId) (z : Value) (size bytes : Nat) (ht : P.underlying t = some (.slice e)) (hinfo : (P.info? e).map (fun i => (i.zero, i.size, i.bytes)) = some (some z, size, bytes))
    (hzs : z.cells.size = size) (A : Option Addr) (n : Nat) (xs : List Value) (hr0 : Rd w size A n n xs)
    (A' : Option Addr) (m c' : Nat) (news : List Value) (hr : Rd w size A' m c' news)
    (hm : 0 < m) (h63 : n + m ≤ maxLen) (hbytes : (n + m) * bytes ≤ 140737488355328) (hbase : base ≤ w.heap.size) :
    ∃ c2 w', (Builtin.append_ #[t, t] ty #[.slice A n n, .slice A' m c']).run P w = .ok (.slice (some ⟨w.heap.size, 0, none⟩) (n + m) c2) w' ∧ Own w' base e size (some ⟨w.heap.size, 0, none⟩) (n + m) c2 (xs ++ news) ∧ w.grownBy w' none := by
  obtain ⟨i, hi, hz, hsize, hby⟩ := info_parts hinfo
  subst hsize
  subst hby
  have hsmall : n + m ≤ 9223372036854775807 := by simp only [maxLen] at h63; omega
  have hlen : (xs ++ news).length = (n + m) * i.size := by rw [List.length_append, hr0.len, hr.len, Nat.add_mul]
  have grown : ∀ (old : Nat),
      Own (w.drew.alloc (.cells (xs.toArray ++ news.toArray ++ Builtin.zeroCells z.cells (grownCap w (n + m) old e - (n + m))) e)) base e i.size (some ⟨w.heap.size, 0, none⟩) (n + m) (grownCap w (n + m) old e) (xs ++ news) ∧
      w.grownBy (w.drew.alloc (.cells (xs.toArray ++ news.toArray ++ Builtin.zeroCells z.cells (grownCap w (n + m) old e - (n + m))) e)) none := by
    intro old
    have hge := grownCap_ge w (n + m) old e
    have hcm : grownCap w (n + m) old e ≤ maxLen := grownCap_le_maxLen w (n + m) old e h63
    refine ⟨⟨hlen, .inr ⟨w.heap.size, _, _, rfl, hbase, heap_alloc_new w.drew _, hge, hcm, ?_, ?_⟩⟩, ⟨rfl, rfl, rfl, by simp, fun k hk _ => Below.heap_alloc w.drew _ k hk⟩⟩
    · simp only [Array.size_append, List.size_toArray, size_zeroCells, hzs, hr0.len, hr.len, ← Nat.add_mul]
      congr 1
      omega
    · simp only [Array.toList_append, List.append_assoc]
      rw [← List.append_assoc, ← hlen]
      exact List.take_left
  cases A' with
  | none =>
    have := hr.nil rfl
    have := hr.le
    omega
  | some a =>
    cases A with
    | none =>
      have h0 := hr0.nil rfl
      subst h0
      have hx : xs = [] := List.eq_nil_of_length_eq_zero (by simpa using hr0.len)
      subst hx
      have hrun := run_append_nil (P := P) w t ty e i z ht hi hz a m c' news hr.len (hr.cell a rfl) hm (by omega) (by have hb := hbytes; simp only [Nat.zero_add] at hb; omega)
      have hg := grown 0
      simp only [Nat.zero_add, List.nil_append, Array.empty_append] at hg ⊢
      exact ⟨_, _, hrun, hg.1, hg.2⟩
    | some b =>
      have hrun := run_append_grow (P := P) w t ty e i z ht hi hz b n n xs hr0.len (hr0.cell b rfl) a m c' news hr.len (hr.cell a rfl) (by omega) (by omega) (growslice_fits (by omega) hbytes)
      have hg := grown n
      exact ⟨_, _, hrun, hg.1, hg.2⟩

/-- A row that is owned from its head on, or full. -/
def RowIn (w : World) (base : Nat) (e : TypeId) (size : Nat) (A : Option Addr) (n c : Nat) (xs : List Value) : Prop :=
  Own w base e size A n c xs ∨ (Rd w size A n c xs ∧ n = c)
theorem RowIn.rd {w : World} {base : Nat} {e : TypeId} {size : Nat} {A : Option Addr} {n c : Nat} {xs : List Value} (h : RowIn w base e size A n c xs) : Rd w size A n c xs := by
  rcases h with h | h
  · exact h.rd
  · exact h.1
theorem RowIn.fr {w w' : World} {S : Nat → Prop} {base : Nat} {e : TypeId} {size : Nat} {A : Option Addr} {n c : Nat} {xs : List Value} (h : RowIn w base e size A n c xs) (hf : Fr S w w') (hd : ∀ ad, A = some ad → ¬ S ad.block) : RowIn w' base e size A n c xs := by
  rcases h with h | h
  · exact .inl (h.fr hf hd)
  · exact .inr ⟨h.1.fr hf hd, h.2⟩

theorem run_append_in (base : Nat) (t ty e : TypeId) (z : Value) (size bytes : Nat) (ht : P.underlying t = some (.slice e)) (hinfo : (P.info? e).map (fun i => (i.zero, i.size, i.bytes)) = some (some z, size, bytes))
    (hzs : z.cells.size = size) (hsz : 0 < size) (A : Option Addr) (n c : Nat) (xs : List Value) (hown : RowIn w base e size A n c xs)
    (A' : Option Addr) (m c' : Nat) (news : List Value) (hr : Rd w size A' m c' news) (h1 : ∀ u ∈ news, u.oneCell' = true)
    (hm : 0 < m) (h63 : n + m ≤ maxLen) (hbytes : (n + m) * bytes ≤ 140737488355328) (hbase : base ≤ w.heap.size) :
    ∃ A2 c2 w', (Builtin.append_ #[t, t] ty #[.slice A n c, .slice A' m c']).run P w = .ok (.slice A2 (n + m) c2) w' ∧ Own w' base e size A2 (n + m) c2 (xs ++ news) ∧ w.grownBy w' (Value.slice A n c).ownBlock ∧
      ((Value.slice A2 (n + m) c2).ownBlock = (Value.slice A n c).ownBlock ∨ (Value.slice A2 (n + m) c2).ownBlock = some w.heap.size) := by
  rcases hown with hown | ⟨hr0, rfl⟩
  · obtain ⟨i, hi, hz, hsize, hby⟩ := info_parts hinfo
    exact run_append_rd (P := P) w base t ty e i z size bytes ht hi hz hsize hby hzs hsz A n c xs hown A' m c' news hr h1 h63 hbytes hbase
  · obtain ⟨c2, w', hrun, h2, h3⟩ := run_append_full (P := P) w base t ty e z size bytes ht hinfo hzs A n xs hr0 A' m c' news hr hm h63 hbytes hbase
    exact ⟨_, c2, w', hrun, h2, ⟨h3.os, h3.tape, h3.output, h3.size, fun k hk _ => h3.block k hk (by simp)⟩, .inr rfl⟩

/-- append onto an empty literal -/
theorem run_append_lit0 (base : Nat) (t ty e : TypeId) (z : Value) (size bytes : Nat) (ht : P.underlying t = some (.slice e)) (hinfo : (P.info? e).map (fun i => (i.zero, i.size, i.bytes)) = some (some z, size, bytes))
    (hzs : z.cells.size = size) (g : Nat) (hg : w.heap[g]? = some (.cells #[] e (0, 0))) (hgb : base ≤ g)
    (A' : Option Addr) (m c' : Nat) (news : List Value) (hr : Rd w size A' m c' news) (h63 : m ≤ maxLen) (hbytes : m * bytes ≤ 140737488355328) (hbase : base ≤ w.heap.size) :
    ∃ A2 c2 w', (Builtin.append_ #[t, t] ty #[.slice (some ⟨g, 0, none⟩) 0 0, .slice A' m c']).run P w = .ok (.slice A2 m c2) w' ∧ Own w' base e size A2 m c2 news ∧ w.grownBy w' none := by
  have hown : Own w base e size (some ⟨g, 0, none⟩) 0 0 [] := ⟨by simp, .inr ⟨g, 0, #[], rfl, hgb, hg, Nat.le_refl _, Nat.zero_le _, by simp, by simp⟩⟩
  rcases Nat.eq_zero_or_pos m with hm | hm
  · subst hm
    have hn : news = [] := List.eq_nil_of_length_eq_zero (by simpa using hr.len)
    subst hn
    obtain ⟨i, hi, hz, hsize, hby⟩ := info_parts hinfo
    cases A' with
    | none =>
      have hc := hr.nil rfl
      subst hc
      exact ⟨_, _, w, run_append_owned_none (P := P) w base t ty e i size ht hi _ 0 [] hown, hown, World.grownBy.refl _ _⟩
    | some a =>
      have hrun := run_append_room (P := P) w t ty e i ht hi g 0 0 #[] hg a 0 c' [] (by simp) (fun j u h => by simp at h) (fun u h => by simp at h) (by omega) (by simp)
      have hself := setRow_self w g #[] e (0, 0) hg
      simp only [List.take_nil, List.drop_nil, List.append_nil] at hrun
      rw [hself] at hrun
      exact ⟨_, _, w, hrun, hown, World.grownBy.refl _ _⟩
  · have hrd : Rd w size (some ⟨g, 0, none⟩) 0 0 [] := hown.rd
    obtain ⟨c2, w', hrun, h2, h3⟩ := run_append_full (P := P) w base t ty e z size bytes ht hinfo hzs _ 0 [] hrd A' m c' news hr hm (by omega) (by rw [Nat.zero_add]; exact hbytes) hbase
    simp only [Nat.zero_add, List.nil_append] at hrun h2
    exact ⟨_, c2, w', hrun, h2, h3⟩
theorem wp_append_lit0 {o : Oper} {a : Act} {K : Act → World → Prop} {Q : Exit → Act → World → Prop} (s x : Operand) (t : TypeId)
    (ho : o.op = .call { callee := .builtin .append, args := #[s, x], argTypes := #[t, t] })
    (base : Nat) (hbase : base ≤ w.heap.size) (e : TypeId) (z : Value) (size bytes : Nat) (ht : P.underlying t = some (.slice e)) (hinfo : (P.info? e).map (fun i => (i.zero, i.size, i.bytes)) = some (some z, size, bytes))
    (hzs : z.cells.size = size) (g : Nat) (hg : w.heap[g]? = some (.cells #[] e (0, 0))) (hgb : base ≤ g) (hs : a.eval s = .slice (some ⟨g, 0, none⟩) 0 0)
    (A' : Option Addr) (m c' : Nat) (news : List Value) (hx : a.eval x = .slice A' m c') (hr : Rd w size A' m c' news) (h63 : m ≤ maxLen) (hbytes : m * bytes ≤ 140737488355328)
    (h : ∀ A2 c2 w', Own w' base e size A2 m c2 news → w.grownBy w' none → K (a.put o.dst (.slice A2 m c2)) w') : o.wp P a w K Q := by
  obtain ⟨A2, c2, w', hrun, h2, h3⟩ := run_append_lit0 (P := P) w base t o.type e z size bytes ht hinfo hzs g hg hgb A' m c' news hr h63 hbytes hbase
  unfold Oper.wp execOp
  simp only [ho, resolve, invoke, builtin, Sem.run_bind, Sem.run_pure, Result.andThen_ok, List.map_toArray, List.map_cons, List.map_nil, hs, hx, hrun]
  exact h A2 c2 w' h2 h3
theorem heap_grown {w w' : World} {row : Option Nat} {k : Nat} {o : Obj} (h : w.heap[k]? = some o) (hg : w.grownBy w' row) (hr : some k ≠ row) : w'.heap[k]? = some o := (hg.block k (heap_lt h) hr).trans h

theorem wp_append_in {o : Oper} {a : Act} {K : Act → World → Prop} {Q : Exit → Act → World → Prop} (s x : Operand) (t : TypeId)
    (ho : o.op = .call { callee := .builtin .append, args := #[s, x], argTypes := #[t, t] })
    (base : Nat) (hbase : base ≤ w.heap.size) (e : TypeId) (z : Value) (size bytes : Nat) (ht : P.underlying t = some (.slice e)) (hinfo : (P.info? e).map (fun i => (i.zero, i.size, i.bytes)) = some (some z, size, bytes))
    (hzs : z.cells.size = size) (hsz : 0 < size)
    (A : Option Addr) (n c : Nat) (xs : List Value) (hs : a.eval s = .slice A n c) (hown : RowIn w base e size A n c xs)
    (A' : Option Addr) (m c' : Nat) (news : List Value) (hx : a.eval x = .slice A' m c') (hr : Rd w size A' m c' news) (h1 : ∀ u ∈ news, u.oneCell' = true) (hm : 0 < m)
    (N : Nat) (ys : List Value) (hN : n + m = N) (hys : xs ++ news = ys)
    (h63 : N ≤ maxLen) (hbytes : N * bytes ≤ 140737488355328)
    (h : ∀ A2 c2 w', Own w' base e size A2 N c2 ys → w.grownBy w' (Value.slice A n c).ownBlock → ((Value.slice A2 N c2).ownBlock = (Value.slice A n c).ownBlock ∨ (Value.slice A2 N c2).ownBlock = some w.heap.size) →
      K (a.put o.dst (.slice A2 N c2)) w') : o.wp P a w K Q := by
  subst hN hys
  obtain ⟨A2, c2, w', hrun, h2, h3, h4⟩ := run_append_in (P := P) w base t o.type e z size bytes ht hinfo hzs hsz A n c xs hown A' m c' news hr h1 hm h63 hbytes hbase
  unfold Oper.wp execOp
  simp only [ho, resolve, invoke, builtin, Sem.run_bind, Sem.run_pure, Result.andThen_ok, List.map_toArray, List.map_cons, List.map_nil, hs, hx, hrun]
  exact h A2 c2 w' h2 h3 h4
end
end Go.Proofs.YtaldlapnhhhclaaGreat.Tw
