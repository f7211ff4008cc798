/- A disk, plainly: sectors, what is cached of them, the fuse, whether it broke, how many operations. Conditions: none. -/
import Derived.Test.YtpbcmghfhflkbaaTw
set_option linter.unusedVariables false
set_option linter.unusedSimpArgs false
namespace Go.Proofs.Ytpbcmghfhflkbaa.Disk
open Tw

abbrev Sec := List UInt8
def zs : Sec := List.replicate 16 0
abbrev Cl := Sec × Option Sec
structure Dsk where
  cells : List Cl
  fuse : Int
  broken : Bool
  ops : Nat
def view (c : Cl) : Sec := c.2.getD c.1
def c0 : Cl := (zs, none)
namespace Dsk
def new (n : Nat) : Dsk := ⟨List.replicate n c0, -1, false, 0⟩
def has (d : Dsk) (at_ : Int) : Prop := 0 ≤ at_ ∧ at_ < (d.cells.length : Int)
instance (d : Dsk) (at_ : Int) : Decidable (d.has at_) := by unfold has; infer_instance
def cell (d : Dsk) (at_ : Int) : Cl := d.cells.getD at_.toNat c0
/-- what is cached of a sector -/
def fresh (d : Dsk) (at_ : Int) : Option Sec := if d.has at_ then (d.cell at_).2 else none
def read (d : Dsk) (at_ : Int) : Sec × Nat := if d.has at_ then if d.broken then (zs, 3) else (view (d.cell at_), 0) else (zs, 13)
/-- one operation, if it can be done -/
def burn (d : Dsk) : Dsk := if d.fuse = 0 then { d with broken := true } else d
def spend (d : Dsk) : Dsk × Nat := if d.burn.broken then (d.burn, 3) else ({ d with fuse := if 0 < d.fuse then d.fuse - 1 else d.fuse, ops := d.ops + 1 }, 0)
def put (d : Dsk) (at_ : Int) (s : Sec) : Dsk := { d with cells := d.cells.set at_.toNat ((d.cell at_).1, some s) }
def write (d : Dsk) (at_ : Int) (s : Sec) : Dsk × Nat := if d.has at_ then if d.spend.2 = 0 then (d.spend.1.put at_ s, 0) else d.spend else (d, 13)
/-- all that is cached is durable -/
def allSafe (d : Dsk) : Dsk := { d with cells := d.cells.map fun c => (view c, none) }
def flush (d : Dsk) : Dsk × Nat := if d.spend.2 = 0 then (d.spend.1.allSafe, 0) else d.spend
def setFuse (d : Dsk) (k : Int) : Dsk := { d with fuse := max k (-1) }
/-- as it may be -/
structure Ok (d : Dsk) : Prop where
  n : 1 ≤ d.cells.length ∧ d.cells.length ≤ 1024
  safe : ∀ c ∈ d.cells, c.1.length = 16
  fresh : ∀ c ∈ d.cells, ∀ s, c.2 = some s → s.length = 16
  fuse : -1 ≤ d.fuse ∧ d.fuse ≤ 9223372036854775807
  ops : d.ops ≤ 1000000000
end Dsk
open Dsk
theorem has_iff (d : Dsk) (x : Int) : d.has x ↔ 0 ≤ x ∧ x < (d.cells.length : Int) := Iff.rfl
theorem zs_len : zs.length = 16 := by simp [zs]
theorem cell_get {d : Dsk} {at_ : Int} (h : d.has at_) : d.cells[at_.toNat]? = some (d.cell at_) := by
  unfold has at h
  unfold cell
  rw [List.getD_eq_getElem?_getD, List.getElem?_eq_getElem (by omega)]
  rfl
theorem cell_mem {d : Dsk} {at_ : Int} (h : d.has at_) : d.cell at_ ∈ d.cells := List.mem_of_getElem? (cell_get h)
theorem Dsk.Ok.view {d : Dsk} (h : d.Ok) {c : Cl} (hc : c ∈ d.cells) : (view c).length = 16 := by
  unfold Disk.view
  cases hs : c.2 with
  | none => exact h.safe c hc
  | some s => exact h.fresh c hc s hs
theorem ok_new {n : Nat} (h1 : 1 ≤ n) (h2 : n ≤ 1024) : (Dsk.new n).Ok :=
  ⟨by simp [new]; omega, fun c hc => by rw [List.eq_of_mem_replicate hc]; exact zs_len, (fun c hc s hs => by rw [List.eq_of_mem_replicate hc] at hs; cases hs), by simp [new], by simp [new]⟩
theorem burn_ok {d : Dsk} (h : d.Ok) : d.burn.Ok := by
  unfold burn
  split
  · exact ⟨h.n, h.safe, h.fresh, h.fuse, h.ops⟩
  · exact h
theorem spend_cells (d : Dsk) : d.spend.1.cells = d.cells := by
  unfold spend burn
  (repeat' split) <;> rfl
theorem spend_ok {d : Dsk} (h : d.Ok) (ho : d.ops < 1000000000) : d.spend.1.Ok := by
  unfold spend
  split
  · exact burn_ok h
  · exact ⟨h.n, h.safe, h.fresh, by have := h.fuse; simp only; split <;> omega, by simp only; omega⟩
theorem spend_err (d : Dsk) : d.spend.2 = 0 ∨ d.spend.2 = 3 := by
  unfold spend
  split
  · exact .inr rfl
  · exact .inl rfl
theorem put_ok {d : Dsk} (h : d.Ok) {at_ : Int} (ha : d.has at_) {s : Sec} (hs : s.length = 16) : (d.put at_ s).Ok := by
  refine ⟨by simpa [put] using h.n, fun c hc => ?_, fun c hc s' hs' => ?_, h.fuse, h.ops⟩
  · rcases List.mem_or_eq_of_mem_set hc with hc | rfl
    · exact h.safe c hc
    · exact h.safe (d.cell at_) (cell_mem ha)
  · rcases List.mem_or_eq_of_mem_set hc with hc | rfl
    · exact h.fresh c hc s' hs'
    · injection hs' with hs'
      subst hs'
      exact hs
theorem spend_has (d : Dsk) (at_ : Int) : d.spend.1.has at_ ↔ d.has at_ := by simp [has, spend_cells]
theorem write_ok {d : Dsk} (h : d.Ok) (ho : d.ops < 1000000000) (at_ : Int) {s : Sec} (hs : s.length = 16) : (d.write at_ s).1.Ok := by
  unfold write
  split
  · rename_i ha
    split
    · exact put_ok (spend_ok h ho) ((spend_has d at_).2 ha) hs
    · exact spend_ok h ho
  · exact h
theorem allSafe_ok {d : Dsk} (h : d.Ok) : d.allSafe.Ok := by
  refine ⟨by simpa [allSafe] using h.n, fun c hc => ?_, fun c hc s hs => ?_, h.fuse, h.ops⟩
  · obtain ⟨c', hc', rfl⟩ := List.mem_map.1 hc
    exact h.view hc'
  · obtain ⟨c', hc', rfl⟩ := List.mem_map.1 hc
    cases hs
theorem flush_ok {d : Dsk} (h : d.Ok) (ho : d.ops < 1000000000) : d.flush.1.Ok := by
  unfold flush
  split
  · exact allSafe_ok (spend_ok h ho)
  · exact spend_ok h ho
/-- the durable bytes, one behind the other -/
def durable (d : Dsk) : List UInt8 := d.cells.flatMap (·.1)
theorem flatMap_len {l : List Cl} (h : ∀ c ∈ l, c.1.length = 16) : (l.flatMap (·.1)).length = l.length * 16 := by
  induction l with
  | nil => rfl
  | cons c l ih => rw [List.flatMap_cons, List.length_append, ih fun c hc => h c (List.mem_cons_of_mem _ hc), h c List.mem_cons_self, List.length_cons, Nat.succ_mul]; omega
theorem durable_len {d : Dsk} (h : d.Ok) : (durable d).length = d.cells.length * 16 := flatMap_len h.safe
theorem flatMap_get {l : List Cl} (h : ∀ c ∈ l, c.1.length = 16) {i j : Nat} {c : Cl} (hc : l[i]? = some c) (hj : j < 16) : (l.flatMap (·.1))[i * 16 + j]? = c.1[j]? := by
  induction l generalizing i with
  | nil => simp at hc
  | cons a l ih =>
    have ha := h a List.mem_cons_self
    cases i with
    | zero =>
      simp at hc
      subst hc
      rw [List.flatMap_cons, List.getElem?_append_left (by omega), Nat.zero_mul, Nat.zero_add]
    | succ i =>
      simp at hc
      rw [List.flatMap_cons, List.getElem?_append_right (by rw [ha, Nat.succ_mul]; omega), ha, ← ih (fun c hc => h c (List.mem_cons_of_mem _ hc)) hc]
      congr 1
      rw [Nat.succ_mul]
      omega
theorem durable_get {d : Dsk} (h : d.Ok) {at_ : Int} (ha : d.has at_) {j : Nat} (hj : j < 16) : (durable d)[at_.toNat * 16 + j]? = (d.cell at_).1[j]? := flatMap_get h.safe (cell_get ha) hj
end Go.Proofs.Ytpbcmghfhflkbaa.Disk
