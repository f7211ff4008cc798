/- The data area, plainly: spans written and read, sector by sector. Conditions: none. -/
import Derived.Test.YtaldlapnhhhclaaGreatData
set_option linter.unusedVariables false
set_option linter.unusedSimpArgs false
namespace Go.Proofs.YtaldlapnhhhclaaGreat.Data
open Go.RowKit Tw Disk

/-- the i-th sector of bytes -/
def secAt (b : List UInt8) (i : Nat) : Sec := (b.drop (i * 16)).take 16
theorem secAt_len {b : List UInt8} {L i : Nat} (h : b.length = L * 16) (hi : i < L) : (secAt b i).length = 16 := by
  simp [secAt]
  omega
/-- sectors written one behind the other; the first error ends it -/
def wseq (o : Nat) (b : List UInt8) : Dsk → List Nat → Dsk × Nat
  | d, [] => (d, 0)
  | d, i :: r => if (d.write (8 + (o : Int) + (i : Int)) (secAt b i)).2 = 0 then wseq o b (d.write (8 + (o : Int) + (i : Int)) (secAt b i)).1 r else d.write (8 + (o : Int) + (i : Int)) (secAt b i)
theorem wseq_cons (o : Nat) (b : List UInt8) (d : Dsk) (i : Nat) (r : List Nat) : wseq o b d (i :: r) = if (d.write (8 + (o : Int) + (i : Int)) (secAt b i)).2 = 0 then wseq o b (d.write (8 + (o : Int) + (i : Int)) (secAt b i)).1 r else (d.write (8 + (o : Int) + (i : Int)) (secAt b i)) := rfl
theorem wseq_append {o : Nat} {b : List UInt8} : ∀ {l : List Nat} {d : Dsk} {r : List Nat}, (wseq o b d l).2 = 0 → wseq o b d (l ++ r) = wseq o b (wseq o b d l).1 r
  | [], _, _, _ => rfl
  | i :: l, d, r, h => by
    rw [wseq_cons] at h
    rw [List.cons_append, wseq_cons, wseq_cons o b d i l]
    by_cases h1 : (d.write (8 + (o : Int) + (i : Int)) (secAt b i)).2 = 0
    · rw [if_pos h1] at h ⊢
      rw [if_pos h1]
      exact wseq_append h
    · rw [if_neg h1] at h
      exact (h1 h).elim
theorem wseq_fail {o : Nat} {b : List UInt8} : ∀ {l : List Nat} {d : Dsk} {r : List Nat}, (wseq o b d l).2 ≠ 0 → wseq o b d (l ++ r) = wseq o b d l
  | [], _, _, h => (h rfl).elim
  | i :: l, d, r, h => by
    rw [wseq_cons] at h
    rw [List.cons_append, wseq_cons, wseq_cons o b d i l]
    by_cases h1 : (d.write (8 + (o : Int) + (i : Int)) (secAt b i)).2 = 0
    · rw [if_pos h1] at h ⊢
      rw [if_pos h1]
      exact wseq_fail h
    · rw [if_neg h1, if_neg h1]
theorem wseq_snoc {o : Nat} {b : List UInt8} {l : List Nat} {d : Dsk} (i : Nat) (h : (wseq o b d l).2 = 0) : wseq o b d (l ++ [i]) = (wseq o b d l).1.write (8 + (o : Int) + (i : Int)) (secAt b i) := by
  rw [wseq_append h, wseq_cons]
  split
  · rename_i h1
    rw [wseq, ← h1]
  · rfl
theorem write_ops (d : Dsk) (x : Int) (s : Sec) : (d.write x s).1.ops ≤ d.ops + 1 := by
  have h : d.spend.1.ops ≤ d.ops + 1 := by
    unfold Dsk.spend Dsk.burn
    (repeat' split) <;> simp
  unfold Dsk.write
  (repeat' split) <;> first | exact h | (simp [Dsk.put]; exact h) | simp
theorem wseq_ops {o : Nat} {b : List UInt8} : ∀ (l : List Nat) (d : Dsk), (wseq o b d l).1.ops ≤ d.ops + l.length
  | [], d => Nat.le_refl _
  | i :: l, d => by
    have h := write_ops d (8 + (o : Int) + (i : Int)) (secAt b i)
    rw [wseq_cons, List.length_cons]
    split
    · have := wseq_ops (o := o) (b := b) l (d.write (8 + (o : Int) + (i : Int)) (secAt b i)).1
      omega
    · omega
theorem write_cells_len (d : Dsk) (x : Int) (s : Sec) : (d.write x s).1.cells.length = d.cells.length := by
  unfold Dsk.write
  (repeat' split) <;> simp [Dsk.put, spend_cells]
/-- a span written -/
def dWrite (d : Dsk) (x y : Int) (b : List UInt8) : Dsk × Nat := if Span.Good x y (secs d) then if (b.length : Int) = y * 16 then wseq x.toNat b d (List.range y.toNat) else (d, 2) else (d, 13)
/-- a sector's bytes laid at its place -/
def layAt (out : List UInt8) (i : Nat) (s : Sec) : List UInt8 := out.take (i * 16) ++ (s ++ out.drop (i * 16 + 16))
theorem layAt_len {out : List UInt8} {L i : Nat} {s : Sec} (h : out.length = L * 16) (hi : i < L) (hs : s.length = 16) : (layAt out i s).length = L * 16 := by
  simp [layAt]
  omega
/-- the bytes of sectors that are read one behind the other, and the error -/
def rseq (o : Nat) (d : Dsk) : List UInt8 → List Nat → List UInt8 × Nat
  | out, [] => (out, 0)
  | out, i :: r => if (d.read (8 + (o : Int) + (i : Int))).2 = 0 then rseq o d (layAt out i (d.read (8 + (o : Int) + (i : Int))).1) r else ([], (d.read (8 + (o : Int) + (i : Int))).2)
theorem rseq_cons (o : Nat) (d : Dsk) (out : List UInt8) (i : Nat) (r : List Nat) : rseq o d out (i :: r) = if (d.read (8 + (o : Int) + (i : Int))).2 = 0 then rseq o d (layAt out i (d.read (8 + (o : Int) + (i : Int))).1) r else ([], (d.read (8 + (o : Int) + (i : Int))).2) := rfl
theorem rseq_append {o : Nat} {d : Dsk} : ∀ {l : List Nat} {out : List UInt8} {r : List Nat}, (rseq o d out l).2 = 0 → rseq o d out (l ++ r) = rseq o d (rseq o d out l).1 r
  | [], _, _, _ => rfl
  | i :: l, out, r, h => by
    rw [rseq_cons] at h
    rw [List.cons_append, rseq_cons, rseq_cons o d out i l]
    by_cases h1 : (d.read (8 + (o : Int) + (i : Int))).2 = 0
    · rw [if_pos h1] at h ⊢
      rw [if_pos h1]
      exact rseq_append h
    · rw [if_neg h1] at h
      exact (h1 h).elim
theorem rseq_fail {o : Nat} {d : Dsk} : ∀ {l : List Nat} {out : List UInt8} {r : List Nat}, (rseq o d out l).2 ≠ 0 → rseq o d out (l ++ r) = rseq o d out l
  | [], _, _, h => (h rfl).elim
  | i :: l, out, r, h => by
    rw [rseq_cons] at h
    rw [List.cons_append, rseq_cons, rseq_cons o d out i l]
    by_cases h1 : (d.read (8 + (o : Int) + (i : Int))).2 = 0
    · rw [if_pos h1] at h ⊢
      rw [if_pos h1]
      exact rseq_fail h
    · rw [if_neg h1, if_neg h1]
theorem rseq_err {o : Nat} {d : Dsk} : ∀ {l : List Nat} {out : List UInt8}, (rseq o d out l).2 ≠ 0 → (rseq o d out l).1 = []
  | [], _, h => (h rfl).elim
  | i :: l, out, h => by
    rw [rseq_cons] at h ⊢
    by_cases h1 : (d.read (8 + (o : Int) + (i : Int))).2 = 0
    · rw [if_pos h1] at h ⊢
      exact rseq_err h
    · rw [if_neg h1]
theorem rseq_snoc {o : Nat} {d : Dsk} {out : List UInt8} {l : List Nat} (i : Nat) (h : (rseq o d out l).2 = 0) : rseq o d out (l ++ [i]) = if (d.read (8 + (o : Int) + (i : Int))).2 = 0 then (layAt (rseq o d out l).1 i (d.read (8 + (o : Int) + (i : Int))).1, 0) else ([], (d.read (8 + (o : Int) + (i : Int))).2) := by
  rw [rseq_append h, rseq_cons]
  rfl
theorem rseq_len {o L : Nat} {d : Dsk} (hd : d.Ok) : ∀ {l : List Nat} {out : List UInt8}, out.length = L * 16 → (∀ i ∈ l, i < L) → (rseq o d out l).2 = 0 → (rseq o d out l).1.length = L * 16
  | [], _, h, _, _ => h
  | i :: l, out, h, hl, he => by
    rw [rseq_cons] at he ⊢
    by_cases h1 : (d.read (8 + (o : Int) + (i : Int))).2 = 0
    · rw [if_pos h1] at he ⊢
      exact rseq_len hd (layAt_len h (hl i List.mem_cons_self) (read_len hd _)) (fun j hj => hl j (List.mem_cons_of_mem _ hj)) he
    · rw [if_neg h1] at he
      exact (h1 he).elim
theorem lay_splice (out : List UInt8) (i : Nat) (s : Sec) (hs : s.length = 16) : splice (bytesV out) (i * 16) (bytesV s) = bytesV (layAt out i s) := by
  simp only [splice, layAt, bytesV_append, bytesV_length, hs, bytesV_take, bytesV_drop]
/-- a span read -/
def dRead (d : Dsk) (x y : Int) : List UInt8 × Nat := if Span.Good x y (secs d) then rseq x.toNat d (List.replicate (y.toNat * 16) 0) (List.range y.toNat) else ([], 13)
theorem vals_range (L : Nat) : (List.finRange L).map Fin.val = List.range L := by
  refine List.ext_getElem (by simp) fun i h1 h2 => ?_
  simp
end Go.Proofs.YtaldlapnhhhclaaGreat.Data
