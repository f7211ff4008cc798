/- What a step may turn: the blocks of a set, and new ones; slices that are full, and append onto them; a row of rows of bytes. Conditions: none. -/
import Derived.Test.YtpbcmghfhflkbaaTw
set_option linter.unusedVariables false
set_option linter.unusedSimpArgs false
namespace Go.Proofs.Ytpbcmghfhflkbaa.Tw
open Go.RowKit

/-- Of the blocks that are there those of S alone may turn. -/
structure Fr (S : Nat → Prop) (w w' : World) : Prop where
  os : w'.os = w.os
  tape : w'.tape = w.tape
  output : w'.output = w.output
  size : w.heap.size ≤ w'.heap.size
  block : ∀ k, k < w.heap.size → ¬ S k → w'.heap[k]? = w.heap[k]?

section
variable {S S1 F : Nat → Prop} {w w' w1 w2 : World}
theorem Fr.refl (S : Nat → Prop) (w : World) : Fr S w w := ⟨rfl, rfl, rfl, Nat.le_refl _, fun _ _ _ => rfl⟩
theorem Fr.trans (h : Fr S w w1) (k : Fr S1 w1 w2) (hs : ∀ b, b < w.heap.size → S1 b → S b) : Fr S w w2 :=
  ⟨k.os.trans h.os, k.tape.trans h.tape, k.output.trans h.output, Nat.le_trans h.size k.size, fun i hi hn => (k.block i (Nat.lt_of_lt_of_le hi h.size) (fun e => hn (hs i hi e))).trans (h.block i hi hn)⟩
theorem Fr.mono (h : Fr S w w') (hs : ∀ k, k < w.heap.size → S k → S1 k) : Fr S1 w w' := ⟨h.os, h.tape, h.output, h.size, fun k hk hn => h.block k hk (fun e => hn (hs k hk e))⟩
theorem Fr.of_bel (h : Below w.heap.size w w') : Fr S w w' := ⟨h.os, h.tape, h.output, h.size, fun k hk _ => h.block k hk⟩
theorem Fr.bel {B : Nat} (h : Fr S w w') (hs : ∀ k, S k → B ≤ k) (hB : B ≤ w.heap.size) : Below B w w' := ⟨h.os, h.tape, h.output, h.size, fun k hk => h.block k (by omega) (fun e => by have := hs k e; omega)⟩
theorem Fr.grown {row : Option Nat} (h : w.grownBy w' row) (hs : ∀ k, some k = row → S k) : Fr S w w' := ⟨h.os, h.tape, h.output, h.size, fun k hk hn => h.block k hk (fun e => hn (hs k e))⟩
theorem Fr.setCell {p : Addr} (hp : S p.block) (u : Value) : Fr S w (w.setCell p u) :=
  ⟨rfl, rfl, rfl, by simp [World.setCell], fun k _ hn => Below.heap_setCell _ _ _ _ (fun e => hn (e ▸ hp))⟩
theorem Fr.alloc (o : Obj) : Fr S w (w.alloc o) := Fr.of_bel ((Below.refl _ _).alloc (Nat.le_refl _) o)
theorem Fr.drewN (n : Nat) : Fr S w (w.drewN n) := ⟨rfl, rfl, rfl, Nat.le_refl _, fun _ _ _ => rfl⟩

variable {size n c : Nat} {A : Option Addr} {xs : List Value}
theorem Rd.fr (h : Rd w size A n c xs) (hf : Fr S w w') (hd : ∀ ad, A = some ad → ¬ S ad.block) : Rd w' size A n c xs :=
  ⟨h.len, h.le, h.cap, h.nil, fun ad e j u hu => by
    have hc := h.cell ad e j u hu
    have hb := block_lt_of_cell hc
    rw [World.cell?_of_block (w := w) (hf.block _ hb (by rw [block_add]; exact hd ad e))]
    exact hc⟩
theorem Rd.full (h : Rd w size A n c xs) : Rd w size A n n xs := ⟨h.len, Nat.le_refl _, Nat.le_trans h.le h.cap, fun e => by have := h.nil e; have := h.le; omega, h.cell⟩
theorem Own.fr {base : Nat} {e : TypeId} (h : Own w base e size A n c xs) (hf : Fr S w w') (hd : ∀ ad, A = some ad → ¬ S ad.block) : Own w' base e size A n c xs := by
  refine ⟨h.1, ?_⟩
  rcases h.2 with h2 | ⟨g, cap, cur, hv, hg, hh, r⟩
  · exact .inl h2
  · refine .inr ⟨g, cap, cur, hv, hg, ?_, r⟩
    injection hv with h1 _ _
    have hlt : g < w.heap.size := by
      rcases Nat.lt_or_ge g w.heap.size with h | h
      · exact h
      · rw [Array.getElem?_eq_none h] at hh; cases hh
    rw [hf.block g hlt (hd _ h1)]
    exact hh
theorem Own.at0 {base : Nat} {e : TypeId} (h : Own w base e size A n c xs) : ∀ ad, A = some ad → base ≤ ad.block ∧ ad.block < w.heap.size := by
  intro ad hA
  subst hA
  exact h.lt ad.block rfl
theorem heap_fr {k : Nat} {o : Obj} (h : w.heap[k]? = some o) (hf : Fr S w w') (hd : ¬ S k) : w'.heap[k]? = some o := by
  have hlt : k < w.heap.size := by
    rcases Nat.lt_or_ge k w.heap.size with h1 | h1
    · exact h1
    · rw [Array.getElem?_eq_none h1] at h; cases h
  rw [hf.block k hlt hd, h]
theorem heap_lt {k : Nat} {o : Obj} (h : w.heap[k]? = some o) : k < w.heap.size := by
  rcases Nat.lt_or_ge k w.heap.size with h1 | h1
  · exact h1
  · rw [Array.getElem?_eq_none h1] at h; cases h
end

theorem quiet_same {P : Program} {f : FuncId} {args : Array Value} {w : World} {n : Nat} {v : Value}
    (h : Calls P f args (w.drewN n) fun e w' => e = .returned v ∧ w.drewN n = w') : Calls P f args (w.drewN n) fun e w'' => e = .returned v ∧ ∃ m, w'' = w.drewN m :=
  h.mono fun _ _ ⟨he, hm⟩ => ⟨he, n, hm.symm⟩
theorem quiet_drew {P : Program} {f : FuncId} {args : Array Value} {w : World} {n : Nat} {v : Value}
    (h : Calls P f args (w.drewN n) fun e w' => e = .returned v ∧ ∃ m, w' = (w.drewN n).drewN m) : Calls P f args (w.drewN n) fun e w'' => e = .returned v ∧ ∃ m, w'' = w.drewN m :=
  h.mono fun _ _ ⟨he, m, hm⟩ => ⟨he, n + m, by rw [hm, World.drewN_drewN]⟩

section
variable {P : Program} (w : World)
/-- append onto a slice that is full: a new row -/
theorem run_append_full (base : Nat) (t ty e : TypeId) (z : Value) (size bytes : Nat) (ht : P.underlying t = some (.slice e)) (hinfo : (P.info? e).map (fun i => (i.zero, i.size, i.bytes)) = some (some z, size, bytes))
    (hzs : z.cells.size = size) (A : Option Addr) (n : Nat) (xs : List Value) (hr0 : Rd w size A n n xs)
    (A' : Option Addr) (m c' : Nat) (news : List Value) (hr : Rd w size A' m c' news)
    (hm : 0 < m) (h63 : n + m ≤ maxLen) (hbytes : (n + m) * bytes ≤ 140737488355328) (hbase : base ≤ w.heap.size) :
    ∃ c2 w', (Builtin.append_ #[t, t] ty #[.slice A n n, .slice A' m c']).run P w = .ok (.slice (some ⟨w.heap.size, 0, none⟩) (n + m) c2) w' ∧ Own w' base e size (some ⟨w.heap.size, 0, none⟩) (n + m) c2 (xs ++ news) ∧ w.grownBy w' none := by
  obtain ⟨i, hi, hz, hsize, hby⟩ := info_parts hinfo
  subst hsize
  subst hby
  have hsmall : n + m ≤ 9223372036854775807 := by simp only [maxLen] at h63; omega
  have hlen : (xs ++ news).length = (n + m) * i.size := by rw [List.length_append, hr0.len, hr.len, Nat.add_mul]
  have grown : ∀ (old : Nat),
      Own (w.drew.alloc (.cells (xs.toArray ++ news.toArray ++ Builtin.zeroCells z.cells (grownCap w (n + m) old e - (n + m))) e)) base e i.size (some ⟨w.heap.size, 0, none⟩) (n + m) (grownCap w (n + m) old e) (xs ++ news) ∧
      w.grownBy (w.drew.alloc (.cells (xs.toArray ++ news.toArray ++ Builtin.zeroCells z.cells (grownCap w (n + m) old e - (n + m))) e)) none := by
    intro old
    have hge := grownCap_ge w (n + m) old e
    have hcm : grownCap w (n + m) old e ≤ maxLen := grownCap_le_maxLen w (n + m) old e h63
    refine ⟨⟨hlen, .inr ⟨w.heap.size, _, _, rfl, hbase, heap_alloc_new w.drew _, hge, hcm, ?_, ?_⟩⟩, ⟨rfl, rfl, rfl, by simp, fun k hk _ => Below.heap_alloc w.drew _ k hk⟩⟩
    · simp only [Array.size_append, List.size_toArray, size_zeroCells, hzs, hr0.len, hr.len, ← Nat.add_mul]
      congr 1
      omega
    · simp only [Array.toList_append, List.append_assoc]
      rw [← List.append_assoc, ← hlen]
      exact List.take_left
  cases A' with
  | none =>
    have := hr.nil rfl
    have := hr.le
    omega
  | some a =>
    cases A with
    | none =>
      have h0 := hr0.nil rfl
      subst h0
      have hx : xs = [] := List.eq_nil_of_length_eq_zero (by simpa using hr0.len)
      subst hx
      have hrun := run_append_nil (P := P) w t ty e i z ht hi hz a m c' news hr.len (hr.cell a rfl) hm (by omega) (by have hb := hbytes; simp only [Nat.zero_add] at hb; omega)
      have hg := grown 0
      simp only [Nat.zero_add, List.nil_append, Array.empty_append] at hg ⊢
      exact ⟨_, _, hrun, hg.1, hg.2⟩
    | some b =>
      have hrun := run_append_grow (P := P) w t ty e i z ht hi hz b n n xs hr0.len (hr0.cell b rfl) a m c' news hr.len (hr.cell a rfl) (by omega) (by omega) (growslice_fits (by omega) hbytes)
      have hg := grown n
      exact ⟨_, _, hrun, hg.1, hg.2⟩

/-- A row that is owned from its head on, or full. -/
def RowIn (w : World) (base : Nat) (e : TypeId) (size : Nat) (A : Option Addr) (n c : Nat) (xs : List Value) : Prop :=
  Own w base e size A n c xs ∨ (Rd w size A n c xs ∧ n = c)
theorem RowIn.rd {w : World} {base : Nat} {e : TypeId} {size : Nat} {A : Option Addr} {n c : Nat} {xs : List Value} (h : RowIn w base e size A n c xs) : Rd w size A n c xs := by
  rcases h with h | h
  · exact h.rd
  · exact h.1
theorem RowIn.fr {w w' : World} {S : Nat → Prop} {base : Nat} {e : TypeId} {size : Nat} {A : Option Addr} {n c : Nat} {xs : List Value} (h : RowIn w base e size A n c xs) (hf : Fr S w w') (hd : ∀ ad, A = some ad → ¬ S ad.block) : RowIn w' base e size A n c xs := by
  rcases h with h | h
  · exact .inl (h.fr hf hd)
  · exact .inr ⟨h.1.fr hf hd, h.2⟩

theorem run_append_in (base : Nat) (t ty e : TypeId) (z : Value) (size bytes : Nat) (ht : P.underlying t = some (.slice e)) (hinfo : (P.info? e).map (fun i => (i.zero, i.size, i.bytes)) = some (some z, size, bytes))
    (hzs : z.cells.size = size) (hsz : 0 < size) (A : Option Addr) (n c : Nat) (xs : List Value) (hown : RowIn w base e size A n c xs)
    (A' : Option Addr) (m c' : Nat) (news : List Value) (hr : Rd w size A' m c' news) (h1 : ∀ u ∈ news, u.oneCell' = true)
    (hm : 0 < m) (h63 : n + m ≤ maxLen) (hbytes : (n + m) * bytes ≤ 140737488355328) (hbase : base ≤ w.heap.size) :
    ∃ A2 c2 w', (Builtin.append_ #[t, t] ty #[.slice A n c, .slice A' m c']).run P w = .ok (.slice A2 (n + m) c2) w' ∧ Own w' base e size A2 (n + m) c2 (xs ++ news) ∧ w.grownBy w' (Value.slice A n c).ownBlock ∧
      ((Value.slice A2 (n + m) c2).ownBlock = (Value.slice A n c).ownBlock ∨ (Value.slice A2 (n + m) c2).ownBlock = some w.heap.size) := by
  rcases hown with hown | ⟨hr0, rfl⟩
  · obtain ⟨i, hi, hz, hsize, hby⟩ := info_parts hinfo
    exact run_append_rd (P := P) w base t ty e i z size bytes ht hi hz hsize hby hzs hsz A n c xs hown A' m c' news hr h1 h63 hbytes hbase
  · obtain ⟨c2, w', hrun, h2, h3⟩ := run_append_full (P := P) w base t ty e z size bytes ht hinfo hzs A n xs hr0 A' m c' news hr hm h63 hbytes hbase
    exact ⟨_, c2, w', hrun, h2, ⟨h3.os, h3.tape, h3.output, h3.size, fun k hk _ => h3.block k hk (by simp)⟩, .inr rfl⟩

/-- append onto an empty literal -/
theorem run_append_lit0 (base : Nat) (t ty e : TypeId) (z : Value) (size bytes : Nat) (ht : P.underlying t = some (.slice e)) (hinfo : (P.info? e).map (fun i => (i.zero, i.size, i.bytes)) = some (some z, size, bytes))
    (hzs : z.cells.size = size) (g : Nat) (hg : w.heap[g]? = some (.cells #[] e (0, 0))) (hgb : base ≤ g)
    (A' : Option Addr) (m c' : Nat) (news : List Value) (hr : Rd w size A' m c' news) (h63 : m ≤ maxLen) (hbytes : m * bytes ≤ 140737488355328) (hbase : base ≤ w.heap.size) :
    ∃ A2 c2 w', (Builtin.append_ #[t, t] ty #[.slice (some ⟨g, 0, none⟩) 0 0, .slice A' m c']).run P w = .ok (.slice A2 m c2) w' ∧ Own w' base e size A2 m c2 news ∧ w.grownBy w' none := by
  have hown : Own w base e size (some ⟨g, 0, none⟩) 0 0 [] := ⟨by simp, .inr ⟨g, 0, #[], rfl, hgb, hg, Nat.le_refl _, Nat.zero_le _, by simp, by simp⟩⟩
  rcases Nat.eq_zero_or_pos m with hm | hm
  · subst hm
    have hn : news = [] := List.eq_nil_of_length_eq_zero (by simpa using hr.len)
    subst hn
    obtain ⟨i, hi, hz, hsize, hby⟩ := info_parts hinfo
    cases A' with
    | none =>
      have hc := hr.nil rfl
      subst hc
      exact ⟨_, _, w, run_append_owned_none (P := P) w base t ty e i size ht hi _ 0 [] hown, hown, World.grownBy.refl _ _⟩
    | some a =>
      have hrun := run_append_room (P := P) w t ty e i ht hi g 0 0 #[] hg a 0 c' [] (by simp) (fun j u h => by simp at h) (fun u h => by simp at h) (by omega) (by simp)
      have hself := setRow_self w g #[] e (0, 0) hg
      simp only [List.take_nil, List.drop_nil, List.append_nil] at hrun
      rw [hself] at hrun
      exact ⟨_, _, w, hrun, hown, World.grownBy.refl _ _⟩
  · have hrd : Rd w size (some ⟨g, 0, none⟩) 0 0 [] := hown.rd
    obtain ⟨c2, w', hrun, h2, h3⟩ := run_append_full (P := P) w base t ty e z size bytes ht hinfo hzs _ 0 [] hrd A' m c' news hr hm (by omega) (by rw [Nat.zero_add]; exact hbytes) hbase
    simp only [Nat.zero_add, List.nil_append] at hrun h2
    exact ⟨_, c2, w', hrun, h2, h3⟩
theorem wp_append_lit0 {o : Oper} {a : Act} {K : Act → World → Prop} {Q : Exit → Act → World → Prop} (s x : Operand) (t : TypeId)
    (ho : o.op = .call { callee := .builtin .append, args := #[s, x], argTypes := #[t, t] })
    (base : Nat) (hbase : base ≤ w.heap.size) (e : TypeId) (z : Value) (size bytes : Nat) (ht : P.underlying t = some (.slice e)) (hinfo : (P.info? e).map (fun i => (i.zero, i.size, i.bytes)) = some (some z, size, bytes))
    (hzs : z.cells.size = size) (g : Nat) (hg : w.heap[g]? = some (.cells #[] e (0, 0))) (hgb : base ≤ g) (hs : a.eval s = .slice (some ⟨g, 0, none⟩) 0 0)
    (A' : Option Addr) (m c' : Nat) (news : List Value) (hx : a.eval x = .slice A' m c') (hr : Rd w size A' m c' news) (h63 : m ≤ maxLen) (hbytes : m * bytes ≤ 140737488355328)
    (h : ∀ A2 c2 w', Own w' base e size A2 m c2 news → w.grownBy w' none → K (a.put o.dst (.slice A2 m c2)) w') : o.wp P a w K Q := by
  obtain ⟨A2, c2, w', hrun, h2, h3⟩ := run_append_lit0 (P := P) w base t o.type e z size bytes ht hinfo hzs g hg hgb A' m c' news hr h63 hbytes hbase
  unfold Oper.wp execOp
  simp only [ho, resolve, invoke, builtin, Sem.run_bind, Sem.run_pure, Result.andThen_ok, List.map_toArray, List.map_cons, List.map_nil, hs, hx, hrun]
  exact h A2 c2 w' h2 h3
theorem heap_grown {w w' : World} {row : Option Nat} {k : Nat} {o : Obj} (h : w.heap[k]? = some o) (hg : w.grownBy w' row) (hr : some k ≠ row) : w'.heap[k]? = some o := (hg.block k (heap_lt h) hr).trans h

theorem wp_append_in {o : Oper} {a : Act} {K : Act → World → Prop} {Q : Exit → Act → World → Prop} (s x : Operand) (t : TypeId)
    (ho : o.op = .call { callee := .builtin .append, args := #[s, x], argTypes := #[t, t] })
    (base : Nat) (hbase : base ≤ w.heap.size) (e : TypeId) (z : Value) (size bytes : Nat) (ht : P.underlying t = some (.slice e)) (hinfo : (P.info? e).map (fun i => (i.zero, i.size, i.bytes)) = some (some z, size, bytes))
    (hzs : z.cells.size = size) (hsz : 0 < size)
    (A : Option Addr) (n c : Nat) (xs : List Value) (hs : a.eval s = .slice A n c) (hown : RowIn w base e size A n c xs)
    (A' : Option Addr) (m c' : Nat) (news : List Value) (hx : a.eval x = .slice A' m c') (hr : Rd w size A' m c' news) (h1 : ∀ u ∈ news, u.oneCell' = true) (hm : 0 < m)
    (N : Nat) (ys : List Value) (hN : n + m = N) (hys : xs ++ news = ys)
    (h63 : N ≤ maxLen) (hbytes : N * bytes ≤ 140737488355328)
    (h : ∀ A2 c2 w', Own w' base e size A2 N c2 ys → w.grownBy w' (Value.slice A n c).ownBlock → ((Value.slice A2 N c2).ownBlock = (Value.slice A n c).ownBlock ∨ (Value.slice A2 N c2).ownBlock = some w.heap.size) →
      K (a.put o.dst (.slice A2 N c2)) w') : o.wp P a w K Q := by
  subst hN hys
  obtain ⟨A2, c2, w', hrun, h2, h3, h4⟩ := run_append_in (P := P) w base t o.type e z size bytes ht hinfo hzs hsz A n c xs hown A' m c' news hr h1 hm h63 hbytes hbase
  unfold Oper.wp execOp
  simp only [ho, resolve, invoke, builtin, Sem.run_bind, Sem.run_pure, Result.andThen_ok, List.map_toArray, List.map_cons, List.map_nil, hs, hx, hrun]
  exact h A2 c2 w' h2 h3 h4
end
end Go.Proofs.Ytpbcmghfhflkbaa.Tw
