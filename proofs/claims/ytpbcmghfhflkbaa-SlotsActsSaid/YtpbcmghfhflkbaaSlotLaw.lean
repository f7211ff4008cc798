/- A ring of slots, plainly. Conditions: none. -/
import Derived.Test.YtpbcmghfhflkbaaDskLaw
import Derived.Test.YtpbcmghfhflkbaaSeal7
set_option linter.unusedVariables false
set_option linter.unusedSimpArgs false
namespace Go.Proofs.Ytpbcmghfhflkbaa.Slots
open Tw Disk Seal

abbrev Ent := Nat × Nat
def RingOk (b s : Int) : Prop := 2 ≤ s ∧ s ≤ 8 ∧ 0 ≤ b ∧ b ≤ 1024
instance (b s : Int) : Decidable (RingOk b s) := by unfold RingOk; infer_instance
/-- does the ring stand on a disk of so many sectors? -/
def On (b s : Int) (N : Nat) : Prop := RingOk b s ∧ b ≤ (N : Int) - s
instance (b s : Int) (N : Nat) : Decidable (On b s N) := by unfold On; infer_instance
def place (b s : Int) (n : Nat) : Int := b + ((n % s.toNat : Nat) : Int)
def told (b s at_ : Int) (x : Sec) : Ent := if (opened x).2.2 = true ∧ place b s (opened x).1 = at_ then ((opened x).1, (opened x).2.1) else (0, 0)
def readAt (d : Dsk) (b s at_ : Int) : Ent := if (d.read at_).2 = 0 then told b s at_ (d.read at_).1 else (0, 0)
def better (p x : Ent) : Ent := if p.1 < x.1 then x else p
def best (d : Dsk) (b s : Int) : Nat → Ent
  | 0 => (0, 0)
  | k + 1 => better (best d b s k) (readAt d b s (b + (k : Int)))
def latest (d : Dsk) (b s : Int) : Ent := if On b s d.cells.length then best d b s s.toNat else (0, 0)
def sput (d : Dsk) (b s : Int) (word : Nat) : Dsk × Nat :=
  if On b s d.cells.length then
    if d.broken = true then (d, 3)
    else if (latest d b s).1 = 4294967295 then (d, 13)
    else if (d.write (place b s ((latest d b s).1 + 1)) (rec ((latest d b s).1 + 1) word)).2 = 0 then (d.write (place b s ((latest d b s).1 + 1)) (rec ((latest d b s).1 + 1) word)).1.flush
    else d.write (place b s ((latest d b s).1 + 1)) (rec ((latest d b s).1 + 1) word)
  else (d, 2)
theorem opened_lt (x : Sec) : (opened x).1 < 4294967296 ∧ (opened x).2.1 < 18446744073709551616 := by
  unfold opened
  split
  · exact ⟨by have := Num.gv_lt 4 x; simpa using this, by have := Num.gv_lt 8 (x.drop 4); simpa using this⟩
  · simp
theorem readAt_lt (d : Dsk) (b s at_ : Int) : (readAt d b s at_).1 < 4294967296 ∧ (readAt d b s at_).2 < 18446744073709551616 := by
  unfold readAt told
  split
  · split
    · exact opened_lt _
    · simp
  · simp
theorem best_lt (d : Dsk) (b s : Int) (k : Nat) : (best d b s k).1 < 4294967296 ∧ (best d b s k).2 < 18446744073709551616 := by
  induction k with
  | zero => simp [best]
  | succ k ih =>
    unfold best better
    split
    · exact readAt_lt _ _ _ _
    · exact ih
theorem latest_lt (d : Dsk) (b s : Int) : (latest d b s).1 < 4294967296 ∧ (latest d b s).2 < 18446744073709551616 := by
  unfold latest
  split
  · exact best_lt _ _ _ _
  · simp
theorem place_on {b s : Int} {N : Nat} (h : On b s N) (n : Nat) : 0 ≤ place b s n ∧ place b s n < (N : Int) ∧ b ≤ place b s n := by
  unfold On RingOk at h
  unfold place
  have h1 : n % s.toNat < s.toNat := Nat.mod_lt _ (by omega)
  omega
theorem rec_len (n p : Nat) : (rec n p).length = 16 := rec_length n p
theorem sput_ok {d : Dsk} (h : d.Ok) (ho : d.ops + 1 < 1000000000) (b s : Int) (word : Nat) : (sput d b s word).1.Ok := by
  unfold sput
  split
  · split
    · exact h
    · split
      · exact h
      · have h1 := write_ok h (by omega) (place b s ((latest d b s).1 + 1)) (rec_len ((latest d b s).1 + 1) word)
        split
        · refine flush_ok h1 ?_
          have h2 : (d.write (place b s ((latest d b s).1 + 1)) (rec ((latest d b s).1 + 1) word)).1.ops ≤ d.ops + 1 := by
            unfold Dsk.write Dsk.put Dsk.spend Dsk.burn
            (repeat' split) <;> simp_all
          omega
        · exact h1
  · exact h
end Go.Proofs.Ytpbcmghfhflkbaa.Slots
