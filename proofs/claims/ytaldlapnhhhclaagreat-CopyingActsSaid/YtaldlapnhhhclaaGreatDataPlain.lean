/- The data area of a disk that works, plainly: what is written is read, all other bytes are as they were. Conditions: none. -/
import Derived.Test.YtaldlapnhhhclaaGreatDataLaw
set_option linter.unusedVariables false
set_option linter.unusedSimpArgs false
namespace Go.Proofs.YtaldlapnhhhclaaGreat.Data
open Go.RowKit Tw Disk

def viewAt (d : Dsk) (j : Nat) : Sec := view (d.cells.getD j c0)
/-- sectors one behind the other -/
def cat (f : Nat → Sec) (m : Nat) : List UInt8 := (List.range m).flatMap f
theorem cat_succ (f : Nat → Sec) (m : Nat) : cat f (m + 1) = cat f m ++ f m := by simp [cat, List.range_succ]
theorem cat_len {f : Nat → Sec} {m : Nat} (h : ∀ i, i < m → (f i).length = 16) : (cat f m).length = m * 16 := by
  induction m with
  | zero => rfl
  | succ m ih => rw [cat_succ, List.length_append, ih fun i hi => h i (by omega), h m (by omega)]; omega
theorem cat_congr {f g : Nat → Sec} {m : Nat} (h : ∀ i, i < m → f i = g i) : cat f m = cat g m := by
  induction m with
  | zero => rfl
  | succ m ih => rw [cat_succ, cat_succ, ih fun i hi => h i (by omega), h m (by omega)]
theorem cat_add (f : Nat → Sec) (k m : Nat) : cat f (k + m) = cat f k ++ cat (fun i => f (k + i)) m := by
  induction m with
  | zero => simp [cat]
  | succ m ih => rw [← Nat.add_assoc, cat_succ, ih, cat_succ, List.append_assoc]
theorem cat_take {f : Nat → Sec} {k m : Nat} (h : ∀ i, i < m → (f i).length = 16) (hk : k ≤ m) : (cat f m).take (k * 16) = cat f k := by
  obtain ⟨j, rfl⟩ : ∃ j, m = k + j := ⟨m - k, by omega⟩
  rw [cat_add]
  exact List.take_left' (cat_len fun i hi => h i (by omega))
theorem cat_drop {f : Nat → Sec} {k m : Nat} (h : ∀ i, i < m → (f i).length = 16) (hk : k ≤ m) : (cat f m).drop (k * 16) = cat (fun i => f (k + i)) (m - k) := by
  obtain ⟨j, rfl⟩ : ∃ j, m = k + j := ⟨m - k, by omega⟩
  rw [cat_add, Nat.add_sub_cancel_left]
  exact List.drop_left' (cat_len fun i hi => h i (by omega))
theorem cat_secs {b : List UInt8} : ∀ {L : Nat}, b.length = L * 16 → cat (secAt b) L = b := by
  intro L h
  have key : ∀ k, k ≤ L → cat (secAt b) k = b.take (k * 16) := by
    intro k hk
    induction k with
    | zero => simp [cat]
    | succ k ih =>
      rw [cat_succ, ih (by omega), secAt, Nat.succ_mul, List.take_add]
  rw [key L (Nat.le_refl _), ← h, List.take_length]

/-- the disk works, and does not break -/
structure Fine (d : Dsk) : Prop where
  ok : d.Ok
  fuse : d.fuse < 0
  broken : d.broken = false
theorem fine_new {n : Nat} (h1 : 1 ≤ n) (h2 : n ≤ 1024) : Fine (Dsk.new n) := ⟨ok_new h1 h2, by simp [Dsk.new], rfl⟩
theorem fine_spend {d : Dsk} (h : Fine d) : d.spend = ({ d with fuse := d.fuse, broken := d.broken, ops := d.ops + 1 }, 0) := by
  have h1 := h.fuse
  unfold Dsk.spend Dsk.burn
  have h0 : ¬ d.fuse = 0 := by omega
  have h2 : ¬ 0 < d.fuse := by omega
  simp [h0, h2, h.broken]
theorem viewAt_len {d : Dsk} (h : d.Ok) (j : Nat) : (viewAt d j).length = 16 := by
  unfold viewAt
  rw [List.getD_eq_getElem?_getD]
  cases hj : d.cells[j]? with
  | none => exact zs_len
  | some c => exact h.view (List.mem_of_getElem? hj)
theorem fine_read {d : Dsk} (h : Fine d) {j : Nat} (hj : j < d.cells.length) : d.read (j : Int) = (viewAt d j, 0) := by
  have hh : d.has (j : Int) := (has_iff d _).2 (by omega)
  unfold Dsk.read
  rw [if_pos hh, h.broken, if_neg (by simp)]
  rfl
theorem fine_write {d : Dsk} (h : Fine d) (ho : d.ops < 1000000000) {j : Nat} (hj : j < d.cells.length) {s : Sec} (hs : s.length = 16) :
    (d.write (j : Int) s).2 = 0 ∧ Fine (d.write (j : Int) s).1 ∧ (d.write (j : Int) s).1.cells.length = d.cells.length ∧ ∀ i, viewAt (d.write (j : Int) s).1 i = if i = j then s else viewAt d i := by
  have hh : d.has (j : Int) := (has_iff d _).2 (by omega)
  have hsp := fine_spend h
  have hw : d.write (j : Int) s = (({ d with fuse := d.fuse, broken := d.broken, ops := d.ops + 1 } : Dsk).put (j : Int) s, 0) := by
    unfold Dsk.write
    rw [if_pos hh, hsp, if_pos rfl]
  have hok := write_ok h.ok ho (j : Int) hs
  have hln := write_cells_len d (j : Int) s
  rw [hw] at hok hln ⊢
  refine ⟨rfl, ⟨hok, h.fuse, h.broken⟩, hln, fun i => ?_⟩
  unfold viewAt Dsk.put
  simp only [Int.toNat_natCast, List.getD_eq_getElem?_getD]
  by_cases hi : i = j
  · subst hi
    rw [if_pos rfl, List.getElem?_set_self hj]
    rfl
  · rw [if_neg hi, List.getElem?_set_ne (by omega)]
theorem fine_wseq {o L : Nat} {b : List UInt8} (hb : b.length = L * 16) {d : Dsk} (h : Fine d) (ho : d.ops + L < 1000000000) (hl : 8 + o + L ≤ d.cells.length) : ∀ k, k ≤ L →
    (wseq o b d (List.range k)).2 = 0 ∧ Fine (wseq o b d (List.range k)).1 ∧ (wseq o b d (List.range k)).1.cells.length = d.cells.length ∧ ∀ i, viewAt (wseq o b d (List.range k)).1 i = if 8 + o ≤ i ∧ i < 8 + o + k then secAt b (i - 8 - o) else viewAt d i := by
  intro k
  induction k with
  | zero => intro _; exact ⟨rfl, h, rfl, fun i => by rw [if_neg (by omega)]; rfl⟩
  | succ k ih =>
    intro hk
    obtain ⟨h1, h2, h3, h4⟩ := ih (by omega)
    have hops := wseq_ops (o := o) (b := b) (List.range k) d
    rw [List.length_range] at hops
    rw [List.range_succ, wseq_snoc k h1]
    have hc : (8 + (o : Int) + (k : Int)) = ((8 + o + k : Nat) : Int) := by omega
    rw [hc]
    obtain ⟨q1, q2, q3, q4⟩ := fine_write h2 (by omega) (j := 8 + o + k) (by omega) (secAt_len hb (by omega : k < L))
    refine ⟨q1, q2, q3.trans h3, fun i => ?_⟩
    rw [q4 i, h4 i]
    by_cases hi : i = 8 + o + k
    · subst hi
      rw [if_pos rfl, if_pos (by omega), show 8 + o + k - 8 - o = k from by omega]
    · rw [if_neg hi]
      by_cases hr : 8 + o ≤ i ∧ i < 8 + o + k
      · rw [if_pos hr, if_pos (by omega)]
      · rw [if_neg hr, if_neg (by omega)]
theorem fine_rseq {o L : Nat} {d : Dsk} (h : Fine d) (hl : 8 + o + L ≤ d.cells.length) : ∀ k, k ≤ L →
    rseq o d (List.replicate (L * 16) 0) (List.range k) = (cat (fun i => viewAt d (8 + o + i)) k ++ List.replicate ((L - k) * 16) 0, 0) := by
  intro k
  induction k with
  | zero => intro _; simp [cat, rseq]
  | succ k ih =>
    intro hk
    have h1 := ih (by omega)
    rw [List.range_succ, rseq_snoc k (by rw [h1]), h1]
    have hc : (8 + (o : Int) + (k : Int)) = ((8 + o + k : Nat) : Int) := by omega
    rw [hc, fine_read h (by omega), if_pos rfl]
    refine Prod.ext ?_ rfl
    simp only
    have hcl : (cat (fun i => viewAt d (8 + o + i)) k).length = k * 16 := cat_len fun i _ => viewAt_len h.ok _
    rw [layAt, cat_succ, List.take_left' hcl, List.append_assoc]
    congr 2
    rw [List.drop_append, hcl, List.drop_eq_nil_of_le (by omega), List.nil_append, List.drop_replicate]
    congr 1
    omega
theorem secs_nat {d : Dsk} : secs d = ((d.cells.length - 8 : Nat) : Int) := by unfold secs; omega
theorem fine_dRead {d : Dsk} (h : Fine d) {x y : Nat} (hg : Span.Good (x : Int) (y : Int) (secs d)) : dRead d (x : Int) (y : Int) = (cat (fun i => viewAt d (8 + x + i)) y, 0) := by
  have hg2 := hg
  unfold Span.Good at hg2
  rw [secs_nat] at hg2
  unfold dRead
  rw [if_pos hg, Int.toNat_natCast, Int.toNat_natCast, fine_rseq h (by omega) y (Nat.le_refl _)]
  simp
/-- all bytes of the area -/
def area (d : Dsk) : List UInt8 := cat (fun i => viewAt d (8 + i)) (d.cells.length - 8)
theorem area_len {d : Dsk} (h : d.Ok) : (area d).length = (d.cells.length - 8) * 16 := cat_len fun i _ => viewAt_len h _
theorem fine_image {d : Dsk} (h : Fine d) (hn : 8 < d.cells.length) : dRead d 0 (secs d) = (area d, 0) := by
  have h1 := h.ok.n
  rw [secs_nat]
  have := fine_dRead h (x := 0) (y := d.cells.length - 8) (by unfold Span.Good; rw [secs_nat]; omega)
  simpa [area] using this
theorem fine_dWrite {d : Dsk} (h : Fine d) (ho : d.ops + 1024 < 1000000000) (x y : Int) (b : List UInt8) :
    ((dWrite d x y b).2 ≠ 0 ∧ (dWrite d x y b).1 = d) ∨ ((dWrite d x y b).2 = 0 ∧ ∃ o L : Nat, x = (o : Int) ∧ y = (L : Int) ∧ o + L ≤ d.cells.length - 8 ∧ b.length = L * 16 ∧ Fine (dWrite d x y b).1 ∧ (dWrite d x y b).1.cells.length = d.cells.length ∧ (dWrite d x y b).1.ops ≤ d.ops + 1024 ∧
      ∀ i, viewAt (dWrite d x y b).1 i = if 8 + o ≤ i ∧ i < 8 + o + L then secAt b (i - 8 - o) else viewAt d i) := by
  unfold dWrite
  by_cases hg : Span.Good x y (secs d)
  · rw [if_pos hg]
    by_cases hl : (b.length : Int) = y * 16
    · rw [if_pos hl]
      right
      have hn := h.ok.n
      unfold Span.Good at hg
      rw [secs_nat] at hg
      obtain ⟨o, rfl⟩ : ∃ o : Nat, x = (o : Int) := ⟨x.toNat, by omega⟩
      obtain ⟨L, rfl⟩ : ∃ L : Nat, y = (L : Int) := ⟨y.toNat, by omega⟩
      rw [Int.toNat_natCast, Int.toNat_natCast]
      obtain ⟨q1, q2, q3, q4⟩ := fine_wseq (o := o) (L := L) (b := b) (by omega) h (by omega) (by omega) L (Nat.le_refl _)
      have hops := wseq_ops (o := o) (b := b) (List.range L) d
      rw [List.length_range] at hops
      exact ⟨q1, o, L, rfl, rfl, by omega, by omega, q2, q3, by omega, q4⟩
    · rw [if_neg hl]
      exact .inl ⟨by simp, rfl⟩
  · rw [if_neg hg]
    exact .inl ⟨by simp, rfl⟩
/-- the law: what was written is read, all other bytes are as they were -/
theorem keeps_plain {d d' : Dsk} (h : Fine d) (h' : Fine d') (hc : d'.cells.length = d.cells.length) {o L : Nat} {b : List UInt8} (hl : o + L ≤ d.cells.length - 8) (hb : b.length = L * 16)
    (hv : ∀ i, viewAt d' i = if 8 + o ≤ i ∧ i < 8 + o + L then secAt b (i - 8 - o) else viewAt d i) :
    ((area d').take (16 * (o + L))).drop (16 * o) = b ∧ (area d').take (16 * o) = (area d).take (16 * o) ∧ (area d').drop (16 * (o + L)) = (area d).drop (16 * (o + L)) := by
  have k1 : ∀ i, i < d.cells.length - 8 → (viewAt d' (8 + i)).length = 16 := fun i _ => viewAt_len h'.ok _
  have k2 : ∀ i, i < d.cells.length - 8 → (viewAt d (8 + i)).length = 16 := fun i _ => viewAt_len h.ok _
  unfold area
  rw [hc, Nat.mul_comm 16 o, Nat.mul_comm 16 (o + L), cat_take k1 hl, cat_take k1 (by omega), cat_take k2 (by omega), cat_drop k1 hl, cat_drop k2 hl]
  refine ⟨?_, ?_, ?_⟩
  · rw [cat_drop (fun i hi => k1 i (by omega)) (by omega), Nat.add_sub_cancel_left]
    rw [← cat_secs hb]
    refine cat_congr fun i hi => ?_
    rw [hv, if_pos (by omega), show 8 + (o + i) - 8 - o = i from by omega]
  · refine cat_congr fun i hi => ?_
    rw [hv, if_neg (by omega)]
  · refine cat_congr fun i hi => ?_
    rw [hv, if_neg (by omega)]
end Go.Proofs.YtaldlapnhhhclaaGreat.Data
