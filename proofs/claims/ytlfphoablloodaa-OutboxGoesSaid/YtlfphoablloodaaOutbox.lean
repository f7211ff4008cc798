/- Contracts of the package outbox: what was sent and is not acked. Conditions: at most 2^20 bodies. -/
import Derived.Test.YtlfphoablloodaaProg
import Derived.Test.YtlfphoablloodaaNum
import Derived.Test.YtlfphoablloodaaFrame
import Derived.Test.YtlfphoablloodaaRegion
import Derived.IntWalk
namespace Go.Proofs.Ytlfphoablloodaa.Outbox
open Go.RowKit Tw
set_option maxHeartbeats 400000

theorem info_bs : (Try.prog.info? 22).map (fun i => (i.zero, i.size, i.bytes)) = some (some (.slice none 0 0), 1, 24) := by kernel_rfl
theorem info_int : (Try.prog.info? 3).map (fun i => (i.zero, i.size, i.bytes)) = some (some (.int .i64 0), 1, 8) := by kernel_rfl

theorem ret_int {k : IntKind} {a b : Int} (h : a = b) : Ending.returned (.int k a) = .returned (.int k b) := by rw [h]
theorem c_Clone (A : Option Addr) (n c : Nat) (b : List UInt8) (w : World) (hb : Byt w A n c b) (hn : n ≤ 140737488351232) :
    Calls Try.prog 99 #[.slice A n c] w fun e w' => ∃ A2 c2, e = .returned (.slice A2 n c2) ∧ Own w' w.heap.size 5 1 A2 n c2 (bytesV b) ∧ Below w.heap.size w w' := by
  have heq := fun (W : World) => Lib.run_eql_slice_nil (P := Try.prog) W 22 5 A n c 0 0 Try.underlying22
  cases A with
  | none =>
    have h0 := hb.nil rfl
    have hl := hb.blen
    have hn : n = 0 := by have := hb.le; omega
    subst hn h0
    obtain rfl : b = [] := List.eq_nil_of_length_eq_zero hl
    go_enter Try.func99, Try.ntmps99
    go_wp2
    go_ret
    exact ⟨none, 0, rfl, World.ownsRow_nil _ _ _ _, Below.refl _ _⟩
  | some ad =>
    go_enter Try.func99, Try.ntmps99
    go_wp2_with (first
      | (at_builtin
         refine wpL_append _ rfl (.tmp 5) (.tmp 6) _ rfl w w.heap.size (bel_alloc (Below.refl _ _) (Nat.le_refl _) _) (size_alloc_le (Nat.le_refl _) _) 5 _ 1 1 Try.underlying22 Num.info_u8 rfl (by omega) _ _ _ [] rfl (own_empty _ _ _ _ (Nat.le_refl _)) _ _ _ _ rfl (hb.alloc _) bytesV_one n (bytesV b) (by omega) rfl (by unfold maxLen; omega) (by omega) ?_
         intro A1 c1 w1 hown1 hb1 hg1 ho1))
    go_ret
    exact ⟨A1, c1, rfl, hown1, hb1⟩

/-- a slice of bytes within F, off M -/
def BytesIn (w : World) (F M : Nat → Prop) (v : Value) (b : List UInt8) : Prop := ∃ A n c, v = .slice A n c ∧ Byt w A n c b ∧ ∀ ad, A = some ad → F ad.block ∧ ¬ M ad.block
def Bodies (w : World) (F M : Nat → Prop) (vs : List Value) (bs : List (List UInt8)) : Prop := vs.length = bs.length ∧ ∀ (i : Nat) (b : List UInt8), bs[i]? = some b → ∃ v, vs[i]? = some v ∧ BytesIn w F M v b
theorem BytesIn.fr {w w' : World} {F M S M' F' : Nat → Prop} {v : Value} {b : List UInt8} (h : BytesIn w F M v b) (hf : Fr S w w') (hs : ∀ k, F k → ¬ M k → ¬ S k) (hm : ∀ k, F k → ¬ M k → F' k ∧ ¬ M' k) : BytesIn w' F' M' v b := by
  obtain ⟨A, n, c, rfl, hb, hF⟩ := h
  exact ⟨A, n, c, rfl, hb.fr hf (fun ad e => hs _ (hF ad e).1 (hF ad e).2), fun ad e => hm _ (hF ad e).1 (hF ad e).2⟩
theorem Bodies.fr {w w' : World} {F M S M' F' : Nat → Prop} {vs : List Value} {bs : List (List UInt8)} (h : Bodies w F M vs bs) (hf : Fr S w w') (hs : ∀ k, F k → ¬ M k → ¬ S k) (hm : ∀ k, F k → ¬ M k → F' k ∧ ¬ M' k) : Bodies w' F' M' vs bs :=
  ⟨h.1, fun i b hi => let ⟨v, hv, hb⟩ := h.2 i b hi; ⟨v, hv, hb.fr hf hs hm⟩⟩

structure OutAt (w : World) (B : Nat) (F : Nat → Prop) (p : Nat) (win first : Int) (bs : List (List UInt8)) (A : Option Addr) (c : Nat) (vs : List Value) : Prop where
  blk : w.heap[p]? = some (.cells #[.int .i64 win, .int .i64 first, .slice A bs.length c] 93 (0, 0))
  inF : ∀ k, F k → B ≤ k ∧ k < w.heap.size
  fp : F p
  row : RowIn w B 22 1 A bs.length c vs
  rowF : ∀ ad, A = some ad → F ad.block ∧ ad.block ≠ p
  bod : Bodies w F (fun k => k = p ∨ ∃ ad, A = some ad ∧ k = ad.block) vs bs
/-- The outbox at block p: its window, its first number, its bodies; all that it leads to lies in F. -/
def OutR (w : World) (B : Nat) (F : Nat → Prop) (p : Nat) (win first : Int) (bs : List (List UInt8)) : Prop := ∃ A c vs, OutAt w B F p win first bs A c vs

theorem OutR.fr {w w' : World} {B : Nat} {F S : Nat → Prop} {p : Nat} {win first : Int} {bs : List (List UInt8)} (h : OutR w B F p win first bs) (hf : Fr S w w') (hs : ∀ k, F k → ¬ S k) : OutR w' B F p win first bs := by
  obtain ⟨A, c, vs, h⟩ := h
  exact ⟨A, c, vs, heap_fr h.blk hf (hs _ h.fp), fun k hk => ⟨(h.inF k hk).1, Nat.lt_of_lt_of_le (h.inF k hk).2 hf.size⟩, h.fp, h.row.fr hf (fun ad e => hs _ (h.rowF ad e).1), h.rowF, h.bod.fr hf (fun k hk _ => hs k hk) (fun k h1 h2 => ⟨h1, h2⟩)⟩
theorem OutR.bel {w w' : World} {B : Nat} {F : Nat → Prop} {p : Nat} {win first : Int} {bs : List (List UInt8)} (h : OutR w B F p win first bs) (hf : Below w.heap.size w w') : OutR w' B F p win first bs :=
  h.fr (S := fun _ => False) (Fr.of_bel hf) (fun _ _ h => h)

theorem OutR.drewN {w : World} {B : Nat} {F : Nat → Prop} {p : Nat} {win first : Int} {bs : List (List UInt8)} (h : OutR w B F p win first bs) (m : Nat) : OutR (w.drewN m) B F p win first bs :=
  h.fr (S := fun _ => False) (Fr.drewN m) (fun _ _ h => h)
structure RefAt (w : World) (B : Nat) (F : Nat → Prop) (p : Nat) (win first : Int) (bs : List (List UInt8)) (A : Option Addr) (c : Nat) (vs : List Value) : Prop where
  blk : w.heap[p]? = some (.cells #[.slice A bs.length c, .int .i64 first, .int .i64 win] 90 (0, 0))
  inF : ∀ k, F k → B ≤ k ∧ k < w.heap.size
  fp : F p
  row : RowIn w B 22 1 A bs.length c vs
  rowF : ∀ ad, A = some ad → F ad.block ∧ ad.block ≠ p
  bod : Bodies w F (fun k => k = p ∨ ∃ ad, A = some ad ∧ k = ad.block) vs bs
/-- The outbox at block p: its window, its first number, its bodies; all that it leads to lies in F. -/
def RefR (w : World) (B : Nat) (F : Nat → Prop) (p : Nat) (win first : Int) (bs : List (List UInt8)) : Prop := ∃ A c vs, RefAt w B F p win first bs A c vs

theorem RefR.fr {w w' : World} {B : Nat} {F S : Nat → Prop} {p : Nat} {win first : Int} {bs : List (List UInt8)} (h : RefR w B F p win first bs) (hf : Fr S w w') (hs : ∀ k, F k → ¬ S k) : RefR w' B F p win first bs := by
  obtain ⟨A, c, vs, h⟩ := h
  exact ⟨A, c, vs, heap_fr h.blk hf (hs _ h.fp), fun k hk => ⟨(h.inF k hk).1, Nat.lt_of_lt_of_le (h.inF k hk).2 hf.size⟩, h.fp, h.row.fr hf (fun ad e => hs _ (h.rowF ad e).1), h.rowF, h.bod.fr hf (fun k hk _ => hs k hk) (fun k h1 h2 => ⟨h1, h2⟩)⟩
theorem RefR.bel {w w' : World} {B : Nat} {F : Nat → Prop} {p : Nat} {win first : Int} {bs : List (List UInt8)} (h : RefR w B F p win first bs) (hf : Below w.heap.size w w') : RefR w' B F p win first bs :=
  h.fr (S := fun _ => False) (Fr.of_bel hf) (fun _ _ h => h)

theorem RefR.drewN {w : World} {B : Nat} {F : Nat → Prop} {p : Nat} {win first : Int} {bs : List (List UInt8)} (h : RefR w B F p win first bs) (m : Nat) : RefR (w.drewN m) B F p win first bs :=
  h.fr (S := fun _ => False) (Fr.drewN m) (fun _ _ h => h)

theorem c_oNew_no (k : Int) (w : World) (h : k < 1 ∨ 64 < k) : Calls Try.prog 45 #[.int .i64 k] w fun e w' => e = .returned (.tuple #[.pointer none, .int .i64 2]) ∧ w = w' := by
  rcases h with h | h
  · go_enter Try.func45, Try.ntmps45
    go_wp2
    go_ret2
    exact ⟨rfl, rfl⟩
  · have h1 : decide (k < 1) = false := by simp; omega
    go_enter Try.func45, Try.ntmps45
    go_wp2
    go_ret2
    exact ⟨rfl, rfl⟩
theorem c_oNew (k : Int) (w : World) (h1 : 1 ≤ k) (h2 : k ≤ 64) : Calls Try.prog 45 #[.int .i64 k] w fun e w' =>
    e = .returned (.tuple #[.pointer (some ⟨w.heap.size, 0, none⟩), .int .i64 0]) ∧ OutR w' w.heap.size (fun b => b = w.heap.size) w.heap.size k 1 [] ∧ Below w.heap.size w w' := by
  go_enter Try.func45, Try.ntmps45
  go_wp2
  go_ret2
  refine ⟨rfl, ⟨none, 0, [], ⟨heap_alloc_new _ _, ?_, rfl, .inl (World.ownsRow_nil _ _ _ _), fun ad e => (by cases e), rfl, fun i b hi => by simp at hi⟩⟩, (Below.refl _ _).alloc (Nat.le_refl _) _⟩
  intro b hb
  subst hb
  simp

section
variable {w : World} {B : Nat} {F : Nat → Prop} {p : Nat} {win first : Int} {bs : List (List UInt8)}
theorem c_is (ho : OutR w B F p win first bs) (hw : 0 < win) : Calls Try.prog 96 #[.pointer (some ⟨p, 0, none⟩)] w fun e w' => e = .returned (.bool true) ∧ w = w' := by
  obtain ⟨A, c, vs, h⟩ := ho
  have c0 := cell_of_row w p 0 _ _ _ h.blk
  simp at c0
  clear h
  go_enter Try.func96, Try.ntmps96
  go_wp2
  go_ret
  exact ⟨rfl, rfl⟩
theorem c_wide (ho : OutR w B F p win first bs) (hb : bs.length ≤ 1048576) : Calls Try.prog 97 #[.pointer (some ⟨p, 0, none⟩)] w fun e w' => e = .returned (.int .i64 (min (bs.length : Int) win)) ∧ ∃ m, w' = w.drewN m := by
  obtain ⟨A, c, vs, h⟩ := ho
  have c0 := cell_of_row w p 0 _ _ _ h.blk
  have c2 := cell_of_row w p 2 _ _ _ h.blk
  simp at c0 c2
  clear h
  go_enter Try.func97, Try.ntmps97
  go_wp2_with fail
  go_quiet (fail)
  go_wp2
  all_goals
    go_ret
    refine ⟨ret_int ?_, _, rfl⟩
    omega
theorem c_Full (ho : OutR w B F p win first bs) (hw : 0 < win) (hb : bs.length ≤ 1048576) : Calls Try.prog 56 #[.pointer (some ⟨p, 0, none⟩)] w fun e w' => e = .returned (.bool (decide (win ≤ (bs.length : Int)))) ∧ ∃ m, w' = w.drewN m := by
  have ho' := ho
  obtain ⟨A, c, vs, h⟩ := ho
  have c0 := cell_of_row w p 0 _ _ _ h.blk
  have c2 := cell_of_row w p 2 _ _ _ h.blk
  simp at c0 c2
  clear h
  have Ho := Lib.hid ho'
  clear ho'
  go_enter Try.func56, Try.ntmps56
  go_wp2_with fail
  go_quiet ((go_at_call 96; exact quiet_same (c_is (Ho.out.drewN _) hw)))
  go_wp2
  go_ret
  exact ⟨rfl, _, rfl⟩

theorem oneCell_slice (A : Option Addr) (n c : Nat) : ∀ u ∈ [Value.slice A n c], u.oneCell' = true := by
  intro u hu
  simp at hu
  subst hu
  rfl

theorem own_apart {w : World} {b : Nat} {e : TypeId} {s : Nat} {A : Option Addr} {n c : Nat} {xs : List Value} {row : Option Nat} (h : Own w b e s A n c xs) (hr : ∀ k, some k = row → k < b) : (Value.slice A n c).ownBlock = none ∨ (Value.slice A n c).ownBlock ≠ row := by
  cases A with
  | none => exact .inl rfl
  | some ad =>
    right
    intro he
    have h1 := (h.at0 ad rfl).1
    have h2 := hr ad.block he
    omega
theorem addr_row {A : Option Addr} {n c : Nat} {k : Nat} (h : some k = (Value.slice A n c).ownBlock) : ∃ ad, A = some ad ∧ k = ad.block := by
  cases A with
  | none => simp [Value.ownBlock] at h
  | some ad => exact ⟨ad, rfl, by simpa [Value.ownBlock] using h⟩

theorem app_block {A A2 A3 : Option Addr} {n c N c2 s0 s1 : Nat} (ho : (Value.slice A2 N c2).ownBlock = (Value.slice A n c).ownBlock ∨ (Value.slice A2 N c2).ownBlock = some s1) (hs : s0 ≤ s1) (h3 : ∀ ad3, A3 = some ad3 → ad3.block < s1) :
    ∀ ad, A2 = some ad → (∃ ad0, A = some ad0 ∧ ad.block = ad0.block) ∨ s0 ≤ ad.block ∧ ∀ ad3, A3 = some ad3 → ad3.block ≠ ad.block := by
  rintro ad rfl
  rcases ho with h | h
  · obtain ⟨ad0, h1, h2⟩ := addr_row (k := ad.block) h
    exact .inl ⟨ad0, h1, h2⟩
  · have : ad.block = s1 := by simpa [Value.ownBlock] using h
    exact .inr ⟨by omega, fun ad3 e => by have := h3 ad3 e; omega⟩

theorem OutR.push_done {W0 w1 : World} {A : Option Addr} {c : Nat} {vs : List Value} (h : OutAt W0 B F p win first bs A c vs) (hB : W0.drew.grownBy w1 (Value.slice A bs.length c).ownBlock)
    {A8 B8 : Option Addr} {c8 n' d8 : Nat} {body : List UInt8} (hr : Own w1 B 22 1 A8 (bs.length + 1) c8 (vs ++ [.slice B8 n' d8])) (hb : Own w1 W0.heap.size 5 1 B8 n' d8 (bytesV body))
    (ha : ∀ ad, A8 = some ad → (∃ ad0, A = some ad0 ∧ ad.block = ad0.block) ∨ W0.heap.size ≤ ad.block ∧ ∀ ad3, B8 = some ad3 → ad3.block ≠ ad.block) :
    OutAt (w1.setCell ⟨p, 2, none⟩ (.slice A8 (bs.length + 1) c8)) B (fun k => F k ∨ W0.heap.size ≤ k ∧ k < w1.heap.size) p win first (bs ++ [body]) A8 c8 (vs ++ [.slice B8 n' d8]) ∧ Fr F W0 (w1.setCell ⟨p, 2, none⟩ (.slice A8 (bs.length + 1) c8)) := by
  have hp := heap_lt h.blk
  have hnp : some p ≠ (Value.slice A bs.length c).ownBlock := fun e => by
    obtain ⟨ad, h1, h2⟩ := addr_row e
    exact (h.rowF ad h1).2 h2.symm
  have hfr0 : Fr (fun k => some k = (Value.slice A bs.length c).ownBlock) W0 w1 := ⟨hB.os, hB.tape, hB.output, hB.size, fun k hk hn => hB.block k hk hn⟩
  have hblk1 : w1.heap[p]? = some (.cells #[.int .i64 win, .int .i64 first, .slice A bs.length c] 93 (0, 0)) := heap_fr h.blk hfr0 hnp
  have h8p : ∀ ad, A8 = some ad → ad.block ≠ p := fun ad e => by
    rcases ha ad e with ⟨ad0, h1, h2⟩ | ⟨h1, _⟩
    · rw [h2]; exact (h.rowF ad0 h1).2
    · omega
  have hset : Fr (fun k => k = p) w1 (w1.setCell ⟨p, 2, none⟩ (.slice A8 (bs.length + 1) c8)) := Fr.setCell (S := fun k => k = p) (p := ⟨p, 2, none⟩) rfl _
  have hB8 : ∀ ad, B8 = some ad → W0.heap.size ≤ ad.block ∧ ad.block < w1.heap.size := hb.at0
  have hsz := hB.size
  have hsz' : W0.heap.size ≤ w1.heap.size := hsz
  refine ⟨⟨?_, ?_, .inl h.fp, ?_, ?_, ?_⟩, ?_⟩
  · rw [heap_setCell_same _ p 2 _ _ _ hblk1]
    simp
  · intro k hk
    have e1 : (w1.setCell ⟨p, 2, none⟩ (.slice A8 (bs.length + 1) c8)).heap.size = w1.heap.size := by simp [World.setCell]
    rw [e1]
    rcases hk with hk | hk
    · have := h.inF k hk; omega
    · have := (h.inF p h.fp); omega
  · rw [List.length_append]
    exact .inl (hr.fr hset h8p)
  · intro ad e
    refine ⟨?_, h8p ad e⟩
    rcases ha ad e with ⟨ad0, h1, h2⟩ | ⟨h1, _⟩
    · rw [h2]; exact .inl (h.rowF ad0 h1).1
    · exact .inr ⟨h1, (hr.at0 ad e).2⟩
  · have hold : Bodies (w1.setCell ⟨p, 2, none⟩ (.slice A8 (bs.length + 1) c8)) (fun k => F k ∨ W0.heap.size ≤ k ∧ k < w1.heap.size) (fun k => k = p ∨ ∃ ad, A8 = some ad ∧ k = ad.block) vs bs := by
      refine (h.bod.fr (F' := F) (M' := fun k => k = p ∨ ∃ ad, A = some ad ∧ k = ad.block) hfr0 (fun k _ hn e => ?_) (fun k h1 h2 => ⟨h1, h2⟩)).fr hset (fun k _ hn e => hn (.inl e)) (fun k h1 h2 => ⟨.inl h1, fun e => ?_⟩)
      · obtain ⟨ad, h1, h2⟩ := addr_row e
        exact hn (.inr ⟨ad, h1, h2⟩)
      · rcases e with e | ⟨ad, e1, e2⟩
        · exact h2 (.inl e)
        · rcases ha ad e1 with ⟨ad0, g1, g2⟩ | ⟨g1, _⟩
          · exact h2 (.inr ⟨ad0, g1, by rw [e2, g2]⟩)
          · have := (h.inF k h1).2; omega
    refine ⟨by simp [h.bod.1], fun i b hi => ?_⟩
    rcases Nat.lt_or_ge i bs.length with hlt | hge
    · rw [List.getElem?_append_left hlt] at hi
      obtain ⟨v, hv, hbi⟩ := hold.2 i b hi
      exact ⟨v, by rw [List.getElem?_append_left (by rw [h.bod.1]; exact hlt)]; exact hv, hbi⟩
    · rw [List.getElem?_append_right hge] at hi
      have hi0 : i - bs.length = 0 := by
        rcases Nat.eq_zero_or_pos (i - bs.length) with h0 | h0
        · exact h0
        · rw [List.getElem?_eq_none (by simp; omega)] at hi; cases hi
      rw [hi0] at hi
      simp at hi
      subst hi
      refine ⟨.slice B8 n' d8, by rw [List.getElem?_append_right (by rw [h.bod.1]; exact hge), h.bod.1, hi0]; rfl, B8, n', d8, rfl, hb.rd.fr hset (fun ad e => by have := hB8 ad e; omega), fun ad e => ⟨.inr (hB8 ad e), fun e2 => ?_⟩⟩
      have := hB8 ad e
      rcases e2 with e2 | ⟨ad8, g1, g2⟩
      · omega
      · rcases ha ad8 g1 with ⟨ad0, q1, q2⟩ | ⟨_, q2⟩
        · have := (h.inF _ (h.rowF ad0 q1).1).2; omega
        · exact q2 ad e g2
  · refine (hfr0.mono (S1 := F) (fun k hk e => ?_)).trans hset (fun k _ e => by subst e; exact h.fp)
    obtain ⟨ad, h1, h2⟩ := addr_row e
    rw [h2]
    exact (h.rowF ad h1).1
theorem RefR.push_done {W0 w1 : World} {A : Option Addr} {c : Nat} {vs : List Value} (h : RefAt W0 B F p win first bs A c vs) (hB : W0.drew.grownBy w1 (Value.slice A bs.length c).ownBlock)
    {A8 B8 : Option Addr} {c8 n' d8 : Nat} {body : List UInt8} (hr : Own w1 B 22 1 A8 (bs.length + 1) c8 (vs ++ [.slice B8 n' d8])) (hb : Own w1 W0.heap.size 5 1 B8 n' d8 (bytesV body))
    (ha : ∀ ad, A8 = some ad → (∃ ad0, A = some ad0 ∧ ad.block = ad0.block) ∨ W0.heap.size ≤ ad.block ∧ ∀ ad3, B8 = some ad3 → ad3.block ≠ ad.block) :
    RefAt (w1.setCell ⟨p, 0, none⟩ (.slice A8 (bs.length + 1) c8)) B (fun k => F k ∨ W0.heap.size ≤ k ∧ k < w1.heap.size) p win first (bs ++ [body]) A8 c8 (vs ++ [.slice B8 n' d8]) ∧ Fr F W0 (w1.setCell ⟨p, 0, none⟩ (.slice A8 (bs.length + 1) c8)) := by
  have hp := heap_lt h.blk
  have hnp : some p ≠ (Value.slice A bs.length c).ownBlock := fun e => by
    obtain ⟨ad, h1, h2⟩ := addr_row e
    exact (h.rowF ad h1).2 h2.symm
  have hfr0 : Fr (fun k => some k = (Value.slice A bs.length c).ownBlock) W0 w1 := ⟨hB.os, hB.tape, hB.output, hB.size, fun k hk hn => hB.block k hk hn⟩
  have hblk1 : w1.heap[p]? = some (.cells #[.slice A bs.length c, .int .i64 first, .int .i64 win] 90 (0, 0)) := heap_fr h.blk hfr0 hnp
  have h8p : ∀ ad, A8 = some ad → ad.block ≠ p := fun ad e => by
    rcases ha ad e with ⟨ad0, h1, h2⟩ | ⟨h1, _⟩
    · rw [h2]; exact (h.rowF ad0 h1).2
    · omega
  have hset : Fr (fun k => k = p) w1 (w1.setCell ⟨p, 0, none⟩ (.slice A8 (bs.length + 1) c8)) := Fr.setCell (S := fun k => k = p) (p := ⟨p, 0, none⟩) rfl _
  have hB8 : ∀ ad, B8 = some ad → W0.heap.size ≤ ad.block ∧ ad.block < w1.heap.size := hb.at0
  have hsz := hB.size
  have hsz' : W0.heap.size ≤ w1.heap.size := hsz
  refine ⟨⟨?_, ?_, .inl h.fp, ?_, ?_, ?_⟩, ?_⟩
  · rw [heap_setCell_same _ p 0 _ _ _ hblk1]
    simp
  · intro k hk
    have e1 : (w1.setCell ⟨p, 0, none⟩ (.slice A8 (bs.length + 1) c8)).heap.size = w1.heap.size := by simp [World.setCell]
    rw [e1]
    rcases hk with hk | hk
    · have := h.inF k hk; omega
    · have := (h.inF p h.fp); omega
  · rw [List.length_append]
    exact .inl (hr.fr hset h8p)
  · intro ad e
    refine ⟨?_, h8p ad e⟩
    rcases ha ad e with ⟨ad0, h1, h2⟩ | ⟨h1, _⟩
    · rw [h2]; exact .inl (h.rowF ad0 h1).1
    · exact .inr ⟨h1, (hr.at0 ad e).2⟩
  · have hold : Bodies (w1.setCell ⟨p, 0, none⟩ (.slice A8 (bs.length + 1) c8)) (fun k => F k ∨ W0.heap.size ≤ k ∧ k < w1.heap.size) (fun k => k = p ∨ ∃ ad, A8 = some ad ∧ k = ad.block) vs bs := by
      refine (h.bod.fr (F' := F) (M' := fun k => k = p ∨ ∃ ad, A = some ad ∧ k = ad.block) hfr0 (fun k _ hn e => ?_) (fun k h1 h2 => ⟨h1, h2⟩)).fr hset (fun k _ hn e => hn (.inl e)) (fun k h1 h2 => ⟨.inl h1, fun e => ?_⟩)
      · obtain ⟨ad, h1, h2⟩ := addr_row e
        exact hn (.inr ⟨ad, h1, h2⟩)
      · rcases e with e | ⟨ad, e1, e2⟩
        · exact h2 (.inl e)
        · rcases ha ad e1 with ⟨ad0, g1, g2⟩ | ⟨g1, _⟩
          · exact h2 (.inr ⟨ad0, g1, by rw [e2, g2]⟩)
          · have := (h.inF k h1).2; omega
    refine ⟨by simp [h.bod.1], fun i b hi => ?_⟩
    rcases Nat.lt_or_ge i bs.length with hlt | hge
    · rw [List.getElem?_append_left hlt] at hi
      obtain ⟨v, hv, hbi⟩ := hold.2 i b hi
      exact ⟨v, by rw [List.getElem?_append_left (by rw [h.bod.1]; exact hlt)]; exact hv, hbi⟩
    · rw [List.getElem?_append_right hge] at hi
      have hi0 : i - bs.length = 0 := by
        rcases Nat.eq_zero_or_pos (i - bs.length) with h0 | h0
        · exact h0
        · rw [List.getElem?_eq_none (by simp; omega)] at hi; cases hi
      rw [hi0] at hi
      simp at hi
      subst hi
      refine ⟨.slice B8 n' d8, by rw [List.getElem?_append_right (by rw [h.bod.1]; exact hge), h.bod.1, hi0]; rfl, B8, n', d8, rfl, hb.rd.fr hset (fun ad e => by have := hB8 ad e; omega), fun ad e => ⟨.inr (hB8 ad e), fun e2 => ?_⟩⟩
      have := hB8 ad e
      rcases e2 with e2 | ⟨ad8, g1, g2⟩
      · omega
      · rcases ha ad8 g1 with ⟨ad0, q1, q2⟩ | ⟨_, q2⟩
        · have := (h.inF _ (h.rowF ad0 q1).1).2; omega
        · exact q2 ad e g2
  · refine (hfr0.mono (S1 := F) (fun k hk e => ?_)).trans hset (fun k _ e => by subst e; exact h.fp)
    obtain ⟨ad, h1, h2⟩ := addr_row e
    rw [h2]
    exact (h.rowF ad h1).1

theorem c_Push (ho : OutR w B F p win first bs) (hw : 0 < win) (hb : bs.length < 1048576) (hf0 : 0 ≤ first) (hf1 : first ≤ 1099511627776)
    (A' : Option Addr) (n' c' : Nat) (body : List UInt8) (hbody : Byt w A' n' c' body) (hn' : n' ≤ 140737488351232) (hBw : B ≤ w.heap.size) :
    Calls Try.prog 48 #[.pointer (some ⟨p, 0, none⟩), .slice A' n' c'] w fun e w' =>
      e = .returned (.tuple #[.int .i64 (first + bs.length), .bool (!decide (win ≤ (bs.length : Int)))]) ∧ ∃ F', OutR w' B F' p win first (bs ++ [body]) ∧ Fr F w w' ∧ ∀ k, F' k → F k ∨ w.heap.size ≤ k := by
  have Ho := Lib.hid ho
  clear ho
  go_enter Try.func48, Try.ntmps48
  go_wp2_with (first
    | (go_at_call 96; (with_reducible refine (c_is Ho.out hw).mono ?_); rintro e w' ⟨rfl, rfl⟩)
    | (go_at_call 56; (with_reducible refine (c_Full Ho.out hw (by omega)).mono ?_); rintro e w' ⟨rfl, m, rfl⟩))
  have hfr : Fr F w (w.drewN m) := Fr.drewN m
  have hbody0 := hbody.drewN m
  have hsz0 : (w.drewN m).heap.size = w.heap.size := rfl
  obtain ⟨A, c, vs, h⟩ := Ho.out.drewN m
  clear Ho
  generalize w.drewN m = W0 at *
  have c2 := cell_of_row W0 p 2 _ _ _ h.blk
  simp at c2
  have hplt := heap_lt h.blk
  have hlen : vs.length = bs.length := h.bod.1
  have hrow : ∀ k, some k = (Value.slice A bs.length c).ownBlock → k < W0.heap.size := by
    intro k hk
    obtain ⟨ad, hA, rfl⟩ := addr_row hk
    exact (h.inF _ (h.rowF ad hA).1).2
  have hBW : B ≤ W0.heap.size := by omega
  have hblen : bs.length + 1 ≤ maxLen := by unfold maxLen; omega
  have Hlen := Lib.hid hlen
  clear hlen
  refine wp_region_phi (by kernel_rfl) 11 ((Value.slice A bs.length c).ownBlock) (fun i_ => match i_ with | 8 => true | _ => false) (fun i_ v wz => match i_ with
    | 0 => v = .pointer (some ⟨p, 0, none⟩)
    | 1 => v = .pointer (some ⟨p, 0, none⟩)
    | 2 => v = .pointer (some ⟨p, 0, none⟩)
    | 3 => v = .pointer (some ⟨p, 2, none⟩)
    | 4 => v = .slice A bs.length c
    | 5 => v = .slice A' n' c'
    | 6 => ∃ A3 c3, v = .slice A3 n' c3 ∧ Own wz W0.heap.size 5 1 A3 n' c3 (bytesV body)
    | 7 => ∃ A3 c3 g, v = .slice (some ⟨g, 0, none⟩) 1 1 ∧ W0.heap.size ≤ g ∧ Own wz W0.heap.size 22 1 (some ⟨g, 0, none⟩) 1 1 [.slice A3 n' c3] ∧ Own wz W0.heap.size 5 1 A3 n' c3 (bytesV body)
    | 8 => ∃ A4 c4 A3 c3, v = .slice A4 (bs.length + 1) c4 ∧ Own wz B 22 1 A4 (bs.length + 1) c4 (vs ++ [.slice A3 n' c3]) ∧ Own wz W0.heap.size 5 1 A3 n' c3 (bytesV body) ∧ (∀ ad, A4 = some ad → (∃ ad0, A = some ad0 ∧ ad.block = ad0.block) ∨ W0.heap.size ≤ ad.block ∧ ∀ ad3, A3 = some ad3 → ad3.block ≠ ad.block)
    | 9 => v = .pointer (some ⟨p, 0, none⟩)
    | 10 => v = .pointer (some ⟨p, 2, none⟩)
    | _ => True) (by kernel_rfl) ?_ ?_ ?_
  · (repeat' (first | exact allLt_zero | refine allLt_succ ?_ ?_))
    · exact fun _ _ _ h _ => h
    · exact fun _ _ _ h _ => h
    · exact fun _ _ _ h _ => h
    · exact fun _ _ _ h _ => h
    · exact fun _ _ _ h _ => h
    · exact fun _ _ _ h _ => h
    · intro v w1 w2 h hg
      rw [show kindRow _ _ = ((Value.slice A bs.length c).ownBlock) from by kernel_rfl] at hg
      obtain ⟨A3, c3, rfl, hr⟩ := h
      exact ⟨A3, c3, rfl, hr.kept hg (own_apart hr hrow)⟩
    · intro v w1 w2 h hg
      rw [show kindRow _ _ = ((Value.slice A bs.length c).ownBlock) from by kernel_rfl] at hg
      obtain ⟨A3, c3, g, rfl, hg0, hr, hr2⟩ := h
      exact ⟨A3, c3, g, rfl, hg0, hr.kept hg (own_apart hr hrow), hr2.kept hg (own_apart hr2 hrow)⟩
    · intro v w1 w2 h hg
      rw [show kindRow _ _ = none from by kernel_rfl] at hg
      obtain ⟨A4, c4, A3, c3, rfl, hr, hb, ha⟩ := h
      exact ⟨A4, c4, A3, c3, rfl, hr.bel (bel_grown hg), hb.bel (bel_grown hg), ha⟩
    · exact fun _ _ _ h _ => h
    · exact fun _ _ _ h _ => h
  · (repeat' (first | exact allLt_zero | refine allLt_succ ?_ ?_))
    · intro a w' hf he
      have k0 : a.tmps.getD 0 undef = .pointer (some ⟨p, 0, none⟩) := hf.var (by kernel_rfl) rfl
      refine wpOp_step rfl (fun K hK => ?_)
      go_simp
      exact hK _ _ ⟨_, rfl, rfl, World.grownBy.refl _ _⟩
    · intro a w' hf he
      have k0 : a.tmps.getD 0 undef = .pointer (some ⟨p, 0, none⟩) := hf.var (by kernel_rfl) rfl
      refine wpOp_step rfl (fun K hK => ?_)
      go_simp
      exact hK _ _ ⟨_, rfl, rfl, World.grownBy.refl _ _⟩
    · intro a w' hf he
      have f1 : a.tmps.getD 14 undef = .pointer (some ⟨p, 0, none⟩) := he 1 (by kernel_rfl)
      refine wpOp_step rfl (fun K hK => ?_)
      go_simp
      exact hK _ _ ⟨_, rfl, rfl, World.grownBy.refl _ _⟩
    · intro a w' hf he
      have f2 : a.tmps.getD 15 undef = .pointer (some ⟨p, 0, none⟩) := he 2 (by kernel_rfl)
      refine wpOp_step rfl (fun K hK => ?_)
      go_simp
      exact hK _ _ ⟨_, rfl, rfl, World.grownBy.refl _ _⟩
    · intro a w' hf he
      have f3 : a.tmps.getD 16 undef = .pointer (some ⟨p, 2, none⟩) := he 3 (by kernel_rfl)
      rw [show kindRow _ _ = none from by kernel_rfl] at hf
      have q := hf.bel.cell (p := ⟨p, 2, none⟩) hplt
      rw [c2] at q
      refine wpOp_step rfl (fun K hK => ?_)
      go_simp
      exact hK _ _ ⟨_, rfl, rfl, World.grownBy.refl _ _⟩
    · intro a w' hf he
      have k1 : a.tmps.getD 1 undef = .slice A' n' c' := hf.var (by kernel_rfl) rfl
      refine wpOp_step rfl (fun K hK => ?_)
      go_simp
      exact hK _ _ ⟨_, rfl, rfl, World.grownBy.refl _ _⟩
    · intro a w' hf he
      have f5 : a.tmps.getD 18 undef = .slice A' n' c' := he 5 (by kernel_rfl)
      rw [show kindRow _ _ = none from by kernel_rfl] at hf
      refine wpOp_step rfl (fun K hK => ?_)
      go_simp
      refine (c_Clone _ _ _ body _ (hbody0.bel hf.bel) hn').mono ?_
      rintro e w2 ⟨A3, c3, rfl, hown, hb2⟩
      exact hK _ _ ⟨_, rfl, ⟨A3, c3, rfl, hown.mono hf.bel.size⟩, grown_bel hb2⟩
    · intro a w' hf he
      obtain ⟨A6, c6, hv6, hb6⟩ := he 6 (by kernel_rfl)
      have f6 : a.tmps.getD 19 undef = _ := hv6
      have e6 : a.tmps[19]?.getD undef = _ := Array.getD_eq_getD_getElem? .. ▸ f6
      rw [show kindRow _ _ = none from by kernel_rfl] at hf
      refine wpOp_step rfl (fun K hK => ?_)
      go_simp
      exact hK _ _ ⟨_, rfl, ⟨A6, c6, _, rfl, hf.bel.size, own_lit w' _ _ 1 #[.slice A6 n' c6] 1 hf.bel.size (by simp [maxLen]) (by simp), hb6.alloc _⟩, World.grownBy_alloc _ _ _⟩
    · intro a w' hf he
      have f4 : a.tmps.getD 17 undef = .slice A bs.length c := he 4 (by kernel_rfl)
      obtain ⟨A7, c7, g7, hv7, hg7, hr7, hb7⟩ := he 7 (by kernel_rfl)
      have f7 : a.tmps.getD 20 undef = _ := hv7
      rw [show kindRow _ _ = none from by kernel_rfl] at hf
      refine wpOp_step rfl (fun K hK => ?_)
      rw [if_pos (by rfl)]
      refine wp_append_in w' (.tmp 17) (.tmp 20) 88 rfl B (Nat.le_trans hBW hf.bel.size) 22 _ 1 24 Try.underlying88 info_bs rfl (by omega) A bs.length c vs f4 (h.row.fr (S := fun _ => False) (Fr.of_bel hf.bel) (fun _ _ h => h)) _ 1 1 _ f7 hr7.rd (oneCell_slice _ _ _) (by omega) (bs.length + 1) _ rfl rfl hblen (by omega) ?_
      intro A2 c2 w2 hown2 hg2 ho2
      exact hK _ _ ⟨_, rfl, ⟨A2, c2, A7, c7, rfl, hown2, hb7.kept hg2 (own_apart hb7 hrow), app_block ho2 hf.bel.size (fun ad3 e => (hb7.at0 ad3 e).2)⟩, hg2⟩
    · intro a w' hf he
      have f0 : a.tmps.getD 13 undef = .pointer (some ⟨p, 0, none⟩) := he 0 (by kernel_rfl)
      refine wpOp_step rfl (fun K hK => ?_)
      go_simp
      exact hK _ _ ⟨_, rfl, rfl, World.grownBy.refl _ _⟩
    · intro a w' hf he
      have f9 : a.tmps.getD 22 undef = .pointer (some ⟨p, 0, none⟩) := he 9 (by kernel_rfl)
      refine wpOp_step rfl (fun K hK => ?_)
      go_simp
      exact hK _ _ ⟨_, rfl, rfl, World.grownBy.refl _ _⟩
  · intro a w' hf he
    obtain ⟨u13, f0⟩ : ∃ u, a.tmps.getD 13 undef = u := ⟨_, rfl⟩
    obtain ⟨u14, f1⟩ : ∃ u, a.tmps.getD 14 undef = u := ⟨_, rfl⟩
    obtain ⟨u15, f2⟩ : ∃ u, a.tmps.getD 15 undef = u := ⟨_, rfl⟩
    obtain ⟨u16, f3⟩ : ∃ u, a.tmps.getD 16 undef = u := ⟨_, rfl⟩
    obtain ⟨u17, f4⟩ : ∃ u, a.tmps.getD 17 undef = u := ⟨_, rfl⟩
    obtain ⟨u18, f5⟩ : ∃ u, a.tmps.getD 18 undef = u := ⟨_, rfl⟩
    obtain ⟨u19, f6⟩ : ∃ u, a.tmps.getD 19 undef = u := ⟨_, rfl⟩
    obtain ⟨u20, f7⟩ : ∃ u, a.tmps.getD 20 undef = u := ⟨_, rfl⟩
    obtain ⟨A8, c8, B8, d8, hv8, hr8, hb8, ha8⟩ := he 8 (by decide)
    have f8 : a.tmps.getD 21 undef = _ := hv8
    obtain ⟨u22, f9⟩ : ∃ u, a.tmps.getD 22 undef = u := ⟨_, rfl⟩
    have f10 : a.tmps.getD 23 undef = .pointer (some ⟨p, 2, none⟩) := he 10 (by decide)
    have hlit := hf.lit ((13, u13) :: (14, u14) :: (15, u15) :: (16, u16) :: (17, u17) :: (18, u18) :: (19, u19) :: (20, u20) :: (21, _) :: (22, u22) :: (23, .pointer (some ⟨p, 2, none⟩)) :: []) (by kernel_rfl) ⟨f0, f1, f2, f3, f4, f5, f6, f7, f8, f9, f10, trivial⟩
    have hB := hf.grown
    clear he hf f0 f1 f2 f3 f4 f5 f6 f7 f8 f9 f10 hv8
    subst hlit
    simp only [putAll_nil, putAll_cons, Act.put, List.setIfInBounds_toArray, List.set_cons_zero, List.set_cons_succ]
    simp only [List.drop_succ_cons, List.drop_zero]
    obtain ⟨hdone, hfrd⟩ := OutR.push_done h hB hr8 hb8 ha8
    have hnp : some p ≠ (Value.slice A bs.length c).ownBlock := fun e => by
      obtain ⟨ad, h1, h2⟩ := addr_row e
      exact (h.rowF ad h1).2 h2.symm
    have hblk1 : w'.heap[p]? = some (.cells #[.int .i64 win, .int .i64 first, .slice A bs.length c] 93 (0, 0)) := (hB.block p hplt hnp).trans h.blk
    have c21 := cell_of_row w' p 2 _ _ _ hblk1
    simp at c21
    have f21' := frozen_of_row w' p 2 _ _ hblk1
    have Hdone := Lib.hid hdone
    have hsz1 : W0.heap.size ≤ w'.heap.size := hB.size
    clear hdone hblk1 hr8 hb8 ha8 hB h c2
    go_wp2_with fail
    generalize w'.setCell ⟨p, 2, none⟩ (.slice A8 (bs.length + 1) c8) = W2 at *
    have c1 := cell_of_row W2 p 1 _ _ _ Hdone.out.blk
    have c22 := cell_of_row W2 p 2 _ _ _ Hdone.out.blk
    simp at c1 c22
    go_quiet (fail)
    go_wp2
    go_ret2
    refine ⟨?_, (fun k => F k ∨ W0.heap.size ≤ k ∧ k < w'.heap.size), OutR.drewN ⟨A8, c8, _, Hdone.out⟩ _, (hfr.trans hfrd (fun _ _ h => h)).trans (Fr.drewN (S := F) _) (fun _ _ h => h), ?_⟩
    · refine congrArg (fun z => Ending.returned (.tuple #[.int .i64 z, .bool !decide (win ≤ (bs.length : Int))])) ?_
      omega
    · rintro k (hk | hk)
      · exact .inl hk
      · exact .inr (by omega)

/-- numbers, as cells -/
def intsV (l : List Int) : List Value := l.map fun z => Value.int .i64 z
/-- k numbers from a on -/
def from_ (a : Int) (k : Nat) : List Int := (List.range k).map fun j => a + (j : Nat)
theorem from_succ (a : Int) (k : Nat) : from_ a (k + 1) = from_ a k ++ [a + (k : Nat)] := by simp [from_, List.range_succ]
theorem from_length (a : Int) (k : Nat) : (from_ a k).length = k := by simp [from_]
theorem intsV_append (a b : List Int) : intsV (a ++ b) = intsV a ++ intsV b := by simp [intsV]

theorem OutR.c1 {w : World} {B : Nat} {F : Nat → Prop} {p : Nat} {win first : Int} {bs : List (List UInt8)} (h : OutR w B F p win first bs) : w.cell? ⟨p, 1, none⟩ = some (.int .i64 first) := by
  obtain ⟨A, c, vs, h⟩ := h
  have c1 := cell_of_row w p 1 _ _ _ h.blk
  simpa using c1

theorem c_numbers (ho : OutR w B F p win first bs) (hb : bs.length ≤ 1048576) (hw : 0 < win) (hw2 : win ≤ 64) (hf0 : 0 ≤ first) (hf1 : first ≤ 2199023255552) (i : Int) (hi0 : 0 ≤ i) (hi1 : i ≤ 64) (N : Nat) (hN : (N : Int) = max (min (bs.length : Int) win - i) 0) :
    Calls Try.prog 98 #[.pointer (some ⟨p, 0, none⟩), .int .i64 i] w fun e w' => ∃ A2 c2, e = .returned (.slice A2 N c2) ∧ Own w' w.heap.size 3 1 A2 N c2 (intsV (from_ (first + i) N)) ∧ Below w.heap.size w w' := by
  have Ho := Lib.hid ho
  have HN := Lib.hid hN
  have hN64 : N ≤ 64 := by omega
  clear ho hN
  go_enter Try.func98, Try.ntmps98
  go_wp2_with (first
    | (go_at_call 97; (with_reducible refine (c_wide Ho.out (by omega)).mono ?_); rintro e w' ⟨rfl, m, rfl⟩))
  case inl =>
    have hN0 : N = 0 := by have := HN.out; omega
    subst hN0
    go_loopw [5, 6, 12] (fun v u x wr => ∃ (k : Nat) (A2 : Option Addr) (c2 : Nat), k ≤ 0 ∧ x = .int .i64 (k : Int) ∧ v = .slice A2 k c2 ∧ Own wr w.heap.size 3 1 A2 k c2 (intsV (from_ (first + i) k)) ∧ Below w.heap.size w wr) (fun _ _ x _ => 0 - (intOf x).toNat)
    case atStart => exact ⟨0, none, 0, by omega, rfl, rfl, World.ownsRow_nil _ _ _ _, (Below.refl _ _).trans ⟨rfl, rfl, rfl, Nat.le_refl _, fun _ _ => rfl⟩⟩
    case round =>
      obtain ⟨k, A2, c2, hk, rfl, rfl, hown, hbr⟩ := hrel
      by_cases hlt : k < 0
      · have c1 := (Ho.out.bel hbr).c1
        go_wp2_with (first
          | (at_builtin
             refine wpL_append _ rfl (.tmp 15) (.tmp 24) _ rfl w w.heap.size (bel_alloc hbr hbr.size _) (size_alloc_le hbr.size _) 3 _ 1 8 Try.underlying78 info_int rfl (by omega) _ _ _ _ rfl (hown.alloc _) _ _ _ _ rfl (rd_one _ _ _) (by simp [Value.oneCell']) (k + 1) (intsV (from_ (first + i) (k + 1))) rfl (by rw [from_succ, intsV_append]; rfl) (by unfold maxLen; omega) (by omega) ?_
             intro A3 c3 w3 hown3 hb3 hg3 ho3))
        all_goals
          clear hg3 ho3
          go_wp2
          go_roundw
          case rel => exact ⟨k + 1, A3, c3, by omega, by go_num, rfl, hown3, hb3⟩
          case measure => simp [intOf] <;> omega
      · have hk : k = 0 := by omega
        subst hk
        go_wp2
        go_ret
        exact ⟨A2, c2, rfl, hown, hbr⟩
  case inr =>
    have e : min (bs.length : Int) win - i = (N : Int) := by have := HN.out; omega
    rw [e]
    clear e
    go_loopw [5, 6, 12] (fun v u x wr => ∃ (k : Nat) (A2 : Option Addr) (c2 : Nat), k ≤ N ∧ x = .int .i64 (k : Int) ∧ v = .slice A2 k c2 ∧ Own wr w.heap.size 3 1 A2 k c2 (intsV (from_ (first + i) k)) ∧ Below w.heap.size w wr) (fun _ _ x _ => N - (intOf x).toNat)
    case atStart => exact ⟨0, none, 0, by omega, rfl, rfl, World.ownsRow_nil _ _ _ _, (Below.refl _ _).trans ⟨rfl, rfl, rfl, Nat.le_refl _, fun _ _ => rfl⟩⟩
    case round =>
      obtain ⟨k, A2, c2, hk, rfl, rfl, hown, hbr⟩ := hrel
      by_cases hlt : k < N
      · have c1 := (Ho.out.bel hbr).c1
        go_wp2_with (first
          | (at_builtin
             refine wpL_append _ rfl (.tmp 15) (.tmp 24) _ rfl w w.heap.size (bel_alloc hbr hbr.size _) (size_alloc_le hbr.size _) 3 _ 1 8 Try.underlying78 info_int rfl (by omega) _ _ _ _ rfl (hown.alloc _) _ _ _ _ rfl (rd_one _ _ _) (by simp [Value.oneCell']) (k + 1) (intsV (from_ (first + i) (k + 1))) rfl (by rw [from_succ, intsV_append]; rfl) (by unfold maxLen; omega) (by omega) ?_
             intro A3 c3 w3 hown3 hb3 hg3 ho3))
        all_goals
          clear hg3 ho3
          go_wp2
          go_roundw
          case rel => exact ⟨k + 1, A3, c3, by omega, by go_num, rfl, hown3, hb3⟩
          case measure => simp [intOf] <;> omega
      · have hk : k = N := by omega
        subst hk
        go_wp2
        go_ret
        exact ⟨A2, c2, rfl, hown, hbr⟩

theorem c_Window (ho : OutR w B F p win first bs) (hb : bs.length ≤ 1048576) (hw : 0 < win) (hw2 : win ≤ 64) (hf0 : 0 ≤ first) (hf1 : first ≤ 2199023255552) (N : Nat) (hN : (N : Int) = min (bs.length : Int) win) :
    Calls Try.prog 58 #[.pointer (some ⟨p, 0, none⟩)] w fun e w' => ∃ A2 c2, e = .returned (.slice A2 N c2) ∧ Own w' w.heap.size 3 1 A2 N c2 (intsV (from_ first N)) ∧ Below w.heap.size w w' := by
  have Ho := Lib.hid ho
  have HN := Lib.hid hN
  clear ho hN
  go_enter Try.func58, Try.ntmps58
  go_wp2_with (first
    | (go_at_call 96; (with_reducible refine (c_is Ho.out hw).mono ?_); rintro e w' ⟨rfl, rfl⟩)
    | (go_at_call 98; (with_reducible refine (c_numbers Ho.out (by omega) hw hw2 hf0 hf1 0 (by omega) (by omega) N (by have := HN.out; omega)).mono ?_); rintro e w' ⟨A2, c2, rfl, hown, hb2⟩; rw [Int.add_zero] at hown))
  go_ret
  exact ⟨A2, c2, rfl, hown, hb2⟩

theorem c_Len (ho : OutR w B F p win first bs) (hw : 0 < win) (hb : bs.length ≤ 1048576) :
    Calls Try.prog 49 #[.pointer (some ⟨p, 0, none⟩)] w fun e w' => e = .returned (.int .i64 (bs.length : Nat)) ∧ w = w' := by
  have Ho := Lib.hid ho
  obtain ⟨A, c, vs, h⟩ := ho
  have c2 := cell_of_row w p 2 _ _ _ h.blk
  simp at c2
  clear h
  go_enter Try.func49, Try.ntmps49
  go_wp2_with (first
    | (go_at_call 96; (with_reducible refine (c_is Ho.out hw).mono ?_); rintro e w' ⟨rfl, rfl⟩))
  go_ret
  exact ⟨rfl, rfl⟩

theorem OutR.at_ (ho : OutR w B F p win first bs) : ∃ A c vs, OutAt w B F p win first bs A c vs := ho

theorem c_Acked_no (ho : OutR w B F p win first bs) (hb : bs.length ≤ 1048576) (hw : 0 < win) (hw2 : win ≤ 64) (hf0 : 1 ≤ first) (hf1 : first ≤ 1099511627776) (n : Int) (hn : n < first ∨ first + min (bs.length : Int) win - 1 < n) :
    Calls Try.prog 47 #[.pointer (some ⟨p, 0, none⟩), .int .i64 n] w fun e w' => e = .returned (.slice none 0 0) ∧ Below w.heap.size w w' := by
  have Ho := Lib.hid ho
  have c1 := ho.c1
  clear ho
  obtain ⟨wd, hwd⟩ : ∃ wd : Int, wd = min (bs.length : Int) win := ⟨_, rfl⟩
  rw [← hwd] at hn
  have hw64 : 0 ≤ wd ∧ wd ≤ 64 := by omega
  have Hwd := Lib.hid hwd
  clear hwd
  by_cases h0 : n < first
  · clear hn
    go_enter Try.func47, Try.ntmps47
    go_wp2_with (first
      | (go_at_call 96; (with_reducible refine (c_is Ho.out hw).mono ?_); rintro e w' ⟨rfl, rfl⟩)
      | (go_at_call 97; (with_reducible refine (c_wide Ho.out (by omega)).mono ?_); rintro e w' ⟨rfl, m, rfl⟩; rw [← Hwd.out]))
    go_ret
    exact ⟨rfl, ⟨rfl, rfl, rfl, Nat.le_refl _, fun _ _ => rfl⟩⟩
  · have hn : first + wd - 1 < n := by omega
    go_enter Try.func47, Try.ntmps47
    go_wp2_with (first
      | (go_at_call 96; (with_reducible refine (c_is Ho.out hw).mono ?_); rintro e w' ⟨rfl, rfl⟩)
      | (go_at_call 97; (with_reducible refine (c_wide Ho.out (by omega)).mono ?_); rintro e w' ⟨rfl, m, rfl⟩; rw [← Hwd.out]))
    go_ret
    exact ⟨rfl, ⟨rfl, rfl, rfl, Nat.le_refl _, fun _ _ => rfl⟩⟩

theorem acked_done {W0 w1 : World} {A : Option Addr} {c g : Nat} {vs : List Value} (h : OutAt W0 B F p win first bs A c vs) (hB : Below W0.heap.size W0 w1) (hg : g ≤ bs.length) :
    OutR ((w1.setCell ⟨p, 2, none⟩ (.slice (if bs.length = g then A else Option.map (fun x => x.add g) A) (bs.length - g) (bs.length - g))).setCell ⟨p, 1, none⟩ (.int .i64 (first + g))) B F p win (first + g) (bs.drop g) ∧
    Fr F W0 ((w1.setCell ⟨p, 2, none⟩ (.slice (if bs.length = g then A else Option.map (fun x => x.add g) A) (bs.length - g) (bs.length - g))).setCell ⟨p, 1, none⟩ (.int .i64 (first + g))) := by
  have hblk1 : w1.heap[p]? = some (.cells #[.int .i64 win, .int .i64 first, .slice A bs.length c] 93 (0, 0)) := heap_fr (S := fun _ => False) h.blk (Fr.of_bel hB) (fun h => h)
  have hAA : ∀ ad, (if bs.length = g then A else Option.map (fun x => x.add g) A) = some ad → ∃ a0, A = some a0 ∧ ad.block = a0.block := by
    intro ad e
    split at e
    · exact ⟨ad, e, rfl⟩
    · cases A with
      | none => simp at e
      | some a0 =>
        simp at e
        subst e
        exact ⟨a0, rfl, block_add _ _⟩
  have hcut := (h.row.rd.full).cut hg
  simp only [Nat.mul_one] at hcut
  generalize (if bs.length = g then A else Option.map (fun x => x.add g) A) = AA at *
  have hset : Fr (fun k => k = p) w1 ((w1.setCell ⟨p, 2, none⟩ (.slice AA (bs.length - g) (bs.length - g))).setCell ⟨p, 1, none⟩ (.int .i64 (first + g))) :=
    (Fr.setCell (S := fun k => k = p) (p := ⟨p, 2, none⟩) rfl _).trans (Fr.setCell (S := fun k => k = p) (p := ⟨p, 1, none⟩) rfl _) (fun _ _ h => h)
  have hall : Fr (fun k => k = p) W0 ((w1.setCell ⟨p, 2, none⟩ (.slice AA (bs.length - g) (bs.length - g))).setCell ⟨p, 1, none⟩ (.int .i64 (first + g))) := (Fr.of_bel hB).trans hset (fun _ _ h => h)
  refine ⟨⟨AA, bs.length - g, vs.drop g, ?_, ?_, h.fp, .inr ⟨?_, ?_⟩, ?_, ?_, ?_⟩, hall.mono (fun k _ e => by subst e; exact h.fp)⟩
  · have h2 := heap_setCell_same _ p 2 _ _ (.slice AA (bs.length - g) (bs.length - g)) hblk1
    rw [heap_setCell_same _ p 1 _ _ _ h2]
    simp
  · exact fun k hk => ⟨(h.inF k hk).1, Nat.lt_of_lt_of_le (h.inF k hk).2 hall.size⟩
  · rw [List.length_drop]
    exact hcut.fr hall (fun ad e => by obtain ⟨a0, h1, h2⟩ := hAA ad e; rw [h2]; exact (h.rowF a0 h1).2)
  · simp
  · intro ad e
    obtain ⟨a0, h1, h2⟩ := hAA ad e
    rw [h2]
    exact h.rowF a0 h1
  · simp [h.bod.1]
  · intro i b hi
    rw [List.getElem?_drop] at hi
    obtain ⟨v, hv, hb⟩ := h.bod.2 _ b hi
    refine ⟨v, by rw [List.getElem?_drop]; exact hv, hb.fr hall (fun k _ hn e => hn (.inl e)) (fun k h1 h2 => ⟨h1, fun e => h2 ?_⟩)⟩
    rcases e with e | ⟨ad, e1, e2⟩
    · exact .inl e
    · obtain ⟨a0, q1, q2⟩ := hAA ad e1
      exact .inr ⟨a0, q1, by rw [e2, q2]⟩

set_option maxRecDepth 100000 in
theorem c_Acked (ho : OutR w B F p win first bs) (hb : bs.length ≤ 1048576) (hw : 0 < win) (hw2 : win ≤ 64) (hf0 : 1 ≤ first) (hf1 : first ≤ 1099511627776) (g : Nat) (n : Int) (hn : n = first + g - 1) (hg0 : 0 < g) (hg1 : (g : Int) ≤ min (bs.length : Int) win) (N : Nat) (hN : (N : Int) = max (min ((bs.length : Int) - g) win - (min (bs.length : Int) win - g)) 0) :
    Calls Try.prog 47 #[.pointer (some ⟨p, 0, none⟩), .int .i64 n] w fun e w' => ∃ A2 c2, e = .returned (.slice A2 N c2) ∧ Rd w' 1 A2 N c2 (intsV (from_ (first + min (bs.length : Int) win) N)) ∧
      OutR w' B F p win (first + g) (bs.drop g) ∧ Fr F w w' ∧ ∀ ad, A2 = some ad → w.heap.size ≤ ad.block := by
  have Ho := Lib.hid ho
  have c1 := ho.c1
  clear ho
  obtain ⟨wd, hwd⟩ : ∃ wd : Int, wd = min (bs.length : Int) win := ⟨_, rfl⟩
  rw [← hwd] at hg1 hN
  rw [← hwd]
  have hw64 : 0 ≤ wd ∧ wd ≤ 64 := by omega
  have Hwd := Lib.hid hwd
  have HN := Lib.hid hN
  have Hn := Lib.hid hn
  have hn1 : first ≤ n := by omega
  have hn2 : n ≤ first + wd - 1 := by omega
  clear hwd hN hn
  go_enter Try.func47, Try.ntmps47
  go_wp2_with (first
    | (go_at_call 96; (with_reducible refine (c_is Ho.out hw).mono ?_); rintro e w' ⟨rfl, rfl⟩)
    | (go_at_call 97; (with_reducible refine (c_wide Ho.out (by omega)).mono ?_); rintro e w' ⟨rfl, m, rfl⟩; rw [← Hwd.out]))
  rw [show n - first + 1 = (g : Int) from by have := Hn.out; omega]
  have hgl : g ≤ bs.length := by have := Hwd.out; omega
  obtain ⟨A, c, vs, h⟩ := Ho.out.drewN m
  have Ho2 := Lib.hid (Ho.out.drewN m)
  clear Ho
  have hfr : Fr F w (w.drewN m) := Fr.drewN m
  generalize w.drewN m = W0 at *
  have c2 := cell_of_row W0 p 2 _ _ _ h.blk
  simp at c2
  have hplt := heap_lt h.blk
  have hcl := h.row.rd.le
  have hcm := h.row.rd.cap
  unfold maxLen at hcm
  refine wp_region_phi (by kernel_rfl) 19 none (fun _ => false) (fun i_ v wz => match i_ with
    | 0 => v = .pointer (some ⟨p, 0, none⟩)
    | 1 => v = .pointer (some ⟨p, 0, none⟩)
    | 2 => v = .pointer (some ⟨p, 0, none⟩)
    | 3 => v = .pointer (some ⟨p, 2, none⟩)
    | 4 => v = .slice A bs.length c
    | 5 => v = .int .i64 (g : Int)
    | 6 => v = .pointer (some ⟨p, 0, none⟩)
    | 7 => v = .pointer (some ⟨p, 0, none⟩)
    | 8 => v = .pointer (some ⟨p, 2, none⟩)
    | 9 => v = .slice A bs.length c
    | 10 => v = .int .i64 (bs.length : Nat)
    | 11 => v = .pointer (some ⟨p, 0, none⟩)
    | 12 => v = .pointer (some ⟨p, 0, none⟩)
    | 13 => v = .pointer (some ⟨p, 2, none⟩)
    | 14 => v = .slice A bs.length c
    | 15 => v = .int .i64 (bs.length : Nat)
    | 16 => v = .slice (if bs.length = g then A else Option.map (fun x => x.add g) A) (bs.length - g) (bs.length - g)
    | 17 => v = .pointer (some ⟨p, 0, none⟩)
    | 18 => v = .pointer (some ⟨p, 2, none⟩)
    | _ => True) (by kernel_rfl) ?_ ?_ ?_
  · (repeat' (first | exact allLt_zero | refine allLt_succ ?_ ?_))
    · exact fun _ _ _ h _ => h
    · exact fun _ _ _ h _ => h
    · exact fun _ _ _ h _ => h
    · exact fun _ _ _ h _ => h
    · exact fun _ _ _ h _ => h
    · exact fun _ _ _ h _ => h
    · exact fun _ _ _ h _ => h
    · exact fun _ _ _ h _ => h
    · exact fun _ _ _ h _ => h
    · exact fun _ _ _ h _ => h
    · exact fun _ _ _ h _ => h
    · exact fun _ _ _ h _ => h
    · exact fun _ _ _ h _ => h
    · exact fun _ _ _ h _ => h
    · exact fun _ _ _ h _ => h
    · exact fun _ _ _ h _ => h
    · exact fun _ _ _ h _ => h
    · exact fun _ _ _ h _ => h
    · exact fun _ _ _ h _ => h
  · (repeat' (first | exact allLt_zero | refine allLt_succ ?_ ?_))
    · intro a w' hf he
      have k0 : a.tmps.getD 0 undef = .pointer (some ⟨p, 0, none⟩) := hf.var (by kernel_rfl) rfl
      refine wpOp_step rfl (fun K hK => ?_)
      go_simp
      exact hK _ _ ⟨_, rfl, rfl, World.grownBy.refl _ _⟩
    · intro a w' hf he
      have k0 : a.tmps.getD 0 undef = .pointer (some ⟨p, 0, none⟩) := hf.var (by kernel_rfl) rfl
      refine wpOp_step rfl (fun K hK => ?_)
      go_simp
      exact hK _ _ ⟨_, rfl, rfl, World.grownBy.refl _ _⟩
    · intro a w' hf he
      have f1 : a.tmps.getD 37 undef = .pointer (some ⟨p, 0, none⟩) := he 1 (by kernel_rfl)
      refine wpOp_step rfl (fun K hK => ?_)
      go_simp
      exact hK _ _ ⟨_, rfl, rfl, World.grownBy.refl _ _⟩
    · intro a w' hf he
      have f2 : a.tmps.getD 38 undef = .pointer (some ⟨p, 0, none⟩) := he 2 (by kernel_rfl)
      refine wpOp_step rfl (fun K hK => ?_)
      go_simp
      exact hK _ _ ⟨_, rfl, rfl, World.grownBy.refl _ _⟩
    · intro a w' hf he
      have f3 : a.tmps.getD 39 undef = .pointer (some ⟨p, 2, none⟩) := he 3 (by kernel_rfl)
      rw [show kindRow _ _ = none from by kernel_rfl] at hf
      have q := hf.bel.cell (p := ⟨p, 2, none⟩) hplt
      rw [c2] at q
      refine wpOp_step rfl (fun K hK => ?_)
      go_simp
      exact hK _ _ ⟨_, rfl, rfl, World.grownBy.refl _ _⟩
    · intro a w' hf he
      have k6 : a.tmps.getD 6 undef = .int .i64 (g : Int) := hf.var (by kernel_rfl) rfl
      refine wpOp_step rfl (fun K hK => ?_)
      go_simp
      exact hK _ _ ⟨_, rfl, rfl, World.grownBy.refl _ _⟩
    · intro a w' hf he
      have k0 : a.tmps.getD 0 undef = .pointer (some ⟨p, 0, none⟩) := hf.var (by kernel_rfl) rfl
      refine wpOp_step rfl (fun K hK => ?_)
      go_simp
      exact hK _ _ ⟨_, rfl, rfl, World.grownBy.refl _ _⟩
    · intro a w' hf he
      have f6 : a.tmps.getD 42 undef = .pointer (some ⟨p, 0, none⟩) := he 6 (by kernel_rfl)
      refine wpOp_step rfl (fun K hK => ?_)
      go_simp
      exact hK _ _ ⟨_, rfl, rfl, World.grownBy.refl _ _⟩
    · intro a w' hf he
      have f7 : a.tmps.getD 43 undef = .pointer (some ⟨p, 0, none⟩) := he 7 (by kernel_rfl)
      refine wpOp_step rfl (fun K hK => ?_)
      go_simp
      exact hK _ _ ⟨_, rfl, rfl, World.grownBy.refl _ _⟩
    · intro a w' hf he
      have f8 : a.tmps.getD 44 undef = .pointer (some ⟨p, 2, none⟩) := he 8 (by kernel_rfl)
      rw [show kindRow _ _ = none from by kernel_rfl] at hf
      have q := hf.bel.cell (p := ⟨p, 2, none⟩) hplt
      rw [c2] at q
      refine wpOp_step rfl (fun K hK => ?_)
      go_simp
      exact hK _ _ ⟨_, rfl, rfl, World.grownBy.refl _ _⟩
    · intro a w' hf he
      have f9 : a.tmps.getD 45 undef = .slice A bs.length c := he 9 (by kernel_rfl)
      refine wpOp_step rfl (fun K hK => ?_)
      go_simp
      exact hK _ _ ⟨_, rfl, rfl, World.grownBy.refl _ _⟩
    · intro a w' hf he
      have k0 : a.tmps.getD 0 undef = .pointer (some ⟨p, 0, none⟩) := hf.var (by kernel_rfl) rfl
      refine wpOp_step rfl (fun K hK => ?_)
      go_simp
      exact hK _ _ ⟨_, rfl, rfl, World.grownBy.refl _ _⟩
    · intro a w' hf he
      have f11 : a.tmps.getD 47 undef = .pointer (some ⟨p, 0, none⟩) := he 11 (by kernel_rfl)
      refine wpOp_step rfl (fun K hK => ?_)
      go_simp
      exact hK _ _ ⟨_, rfl, rfl, World.grownBy.refl _ _⟩
    · intro a w' hf he
      have f12 : a.tmps.getD 48 undef = .pointer (some ⟨p, 0, none⟩) := he 12 (by kernel_rfl)
      refine wpOp_step rfl (fun K hK => ?_)
      go_simp
      exact hK _ _ ⟨_, rfl, rfl, World.grownBy.refl _ _⟩
    · intro a w' hf he
      have f13 : a.tmps.getD 49 undef = .pointer (some ⟨p, 2, none⟩) := he 13 (by kernel_rfl)
      rw [show kindRow _ _ = none from by kernel_rfl] at hf
      have q := hf.bel.cell (p := ⟨p, 2, none⟩) hplt
      rw [c2] at q
      refine wpOp_step rfl (fun K hK => ?_)
      go_simp
      exact hK _ _ ⟨_, rfl, rfl, World.grownBy.refl _ _⟩
    · intro a w' hf he
      have f14 : a.tmps.getD 50 undef = .slice A bs.length c := he 14 (by kernel_rfl)
      refine wpOp_step rfl (fun K hK => ?_)
      go_simp
      exact hK _ _ ⟨_, rfl, rfl, World.grownBy.refl _ _⟩
    · intro a w' hf he
      have f4 : a.tmps.getD 40 undef = .slice A bs.length c := he 4 (by kernel_rfl)
      have f5 : a.tmps.getD 41 undef = .int .i64 (g : Int) := he 5 (by kernel_rfl)
      have f10 : a.tmps.getD 46 undef = .int .i64 (bs.length : Nat) := he 10 (by kernel_rfl)
      have f15 : a.tmps.getD 51 undef = .int .i64 (bs.length : Nat) := he 15 (by kernel_rfl)
      refine wpOp_step rfl (fun K hK => ?_)
      go_simp
      exact hK _ _ ⟨_, rfl, rfl, World.grownBy.refl _ _⟩
    · intro a w' hf he
      have f0 : a.tmps.getD 36 undef = .pointer (some ⟨p, 0, none⟩) := he 0 (by kernel_rfl)
      refine wpOp_step rfl (fun K hK => ?_)
      go_simp
      exact hK _ _ ⟨_, rfl, rfl, World.grownBy.refl _ _⟩
    · intro a w' hf he
      have f17 : a.tmps.getD 53 undef = .pointer (some ⟨p, 0, none⟩) := he 17 (by kernel_rfl)
      refine wpOp_step rfl (fun K hK => ?_)
      go_simp
      exact hK _ _ ⟨_, rfl, rfl, World.grownBy.refl _ _⟩
  · intro a w' hf he
    obtain ⟨u36, f0⟩ : ∃ u, a.tmps.getD 36 undef = u := ⟨_, rfl⟩
    obtain ⟨u37, f1⟩ : ∃ u, a.tmps.getD 37 undef = u := ⟨_, rfl⟩
    obtain ⟨u38, f2⟩ : ∃ u, a.tmps.getD 38 undef = u := ⟨_, rfl⟩
    obtain ⟨u39, f3⟩ : ∃ u, a.tmps.getD 39 undef = u := ⟨_, rfl⟩
    obtain ⟨u40, f4⟩ : ∃ u, a.tmps.getD 40 undef = u := ⟨_, rfl⟩
    obtain ⟨u41, f5⟩ : ∃ u, a.tmps.getD 41 undef = u := ⟨_, rfl⟩
    obtain ⟨u42, f6⟩ : ∃ u, a.tmps.getD 42 undef = u := ⟨_, rfl⟩
    obtain ⟨u43, f7⟩ : ∃ u, a.tmps.getD 43 undef = u := ⟨_, rfl⟩
    obtain ⟨u44, f8⟩ : ∃ u, a.tmps.getD 44 undef = u := ⟨_, rfl⟩
    obtain ⟨u45, f9⟩ : ∃ u, a.tmps.getD 45 undef = u := ⟨_, rfl⟩
    obtain ⟨u46, f10⟩ : ∃ u, a.tmps.getD 46 undef = u := ⟨_, rfl⟩
    obtain ⟨u47, f11⟩ : ∃ u, a.tmps.getD 47 undef = u := ⟨_, rfl⟩
    obtain ⟨u48, f12⟩ : ∃ u, a.tmps.getD 48 undef = u := ⟨_, rfl⟩
    obtain ⟨u49, f13⟩ : ∃ u, a.tmps.getD 49 undef = u := ⟨_, rfl⟩
    obtain ⟨u50, f14⟩ : ∃ u, a.tmps.getD 50 undef = u := ⟨_, rfl⟩
    obtain ⟨u51, f15⟩ : ∃ u, a.tmps.getD 51 undef = u := ⟨_, rfl⟩
    have f16 : a.tmps.getD 52 undef = .slice (if bs.length = g then A else Option.map (fun x => x.add g) A) (bs.length - g) (bs.length - g) := he 16 (by decide)
    obtain ⟨u53, f17⟩ : ∃ u, a.tmps.getD 53 undef = u := ⟨_, rfl⟩
    have f18 : a.tmps.getD 54 undef = .pointer (some ⟨p, 2, none⟩) := he 18 (by decide)
    have hlit := hf.lit ((36, u36) :: (37, u37) :: (38, u38) :: (39, u39) :: (40, u40) :: (41, u41) :: (42, u42) :: (43, u43) :: (44, u44) :: (45, u45) :: (46, u46) :: (47, u47) :: (48, u48) :: (49, u49) :: (50, u50) :: (51, u51) :: (52, .slice (if bs.length = g then A else Option.map (fun x => x.add g) A) (bs.length - g) (bs.length - g)) :: (53, u53) :: (54, .pointer (some ⟨p, 2, none⟩)) :: []) (by kernel_rfl) ⟨f0, f1, f2, f3, f4, f5, f6, f7, f8, f9, f10, f11, f12, f13, f14, f15, f16, f17, f18, trivial⟩
    have hB := hf.bel
    clear he hf f0 f1 f2 f3 f4 f5 f6 f7 f8 f9 f10 f11 f12 f13 f14 f15 f16 f17 f18 
    subst hlit
    simp only [putAll_nil, putAll_cons, Act.put, List.setIfInBounds_toArray, List.set_cons_zero, List.set_cons_succ]
    simp only [List.drop_succ_cons, List.drop_zero]
    have hblk1 := heap_fr (S := fun _ => False) h.blk (Fr.of_bel hB) (fun h => h)
    have c21 := cell_of_row w' p 2 _ _ _ hblk1
    have c11 := cell_of_row w' p 1 _ _ _ hblk1
    simp at c21 c11
    have f21 := frozen_of_row w' p 2 _ _ hblk1
    have f11 := frozen_of_row w' p 1 _ _ hblk1
    obtain ⟨hdone, hfrd⟩ := acked_done h hB hgl
    rw [show first + (g : Int) = n + 1 from by have := Hn.out; omega] at hdone hfrd
    have Hdone := Lib.hid hdone
    clear hdone hblk1 h Ho2
    clear hcl hcm c2
    have hfrd' := Lib.hid hfrd
    clear hfrd
    generalize (if bs.length = g then A else Option.map (fun x => x.add g) A) = AA at *
    go_wp2_with (first
      | (go_at_call 98
         (with_reducible refine (c_numbers Hdone.out (by simp; omega) hw hw2 (by omega) (by omega) (wd - g) (by omega) (by omega) N (by have := HN.out; simp; omega)).mono ?_)
         rintro e w2 ⟨A2, c2, rfl, hown, hb2⟩))
    go_ret
    refine ⟨A2, c2, rfl, ?_, ?_, (hfr.trans hfrd'.out (fun _ _ h => h)).trans (Fr.of_bel (S := F) hb2) (fun _ _ h => h), fun ad e => ?_⟩
    · rw [show first + wd = n + 1 + (wd - g) from by have := Hn.out; omega]
      exact hown.rd
    · rw [show first + (g : Int) = n + 1 from by have := Hn.out; omega]
      exact Hdone.out.bel hb2
    · have h1 := (hown.at0 ad e).1
      have h2 := hfrd'.out.size
      have h3 := hfr.size
      omega

end
end Go.Proofs.Ytlfphoablloodaa.Outbox
