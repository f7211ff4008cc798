/- Sealed bytes, in plain words: the running sum over sealed bytes is one number; turning some of four bytes side by side turns it. Conditions: none. -/
import Derived.Test.YtpbcmghfhflkbaaCrcLaw
set_option linter.unusedVariables false
set_option linter.unusedSimpArgs false
namespace Go.Proofs.Ytpbcmghfhflkbaa.Crc

/-- n bytes, the lowest first -/
def le : Nat → Nat → List UInt8
  | 0, _ => []
  | n + 1, s => le n s ++ [UInt8.ofNat (s / 256 ^ n % 256)]
theorem le_length (n s : Nat) : (le n s).length = n := by
  induction n with
  | zero => rfl
  | succ n ih => simp [le, ih]
theorem le_head (n s : Nat) : le (n + 1) s = UInt8.ofNat (s % 256) :: le n (s / 256) := by
  induction n generalizing s with
  | zero => simp [le]
  | succ n ih =>
    rw [le, ih, le, List.cons_append]
    congr 4
    rw [Nat.div_div_eq_div_mul, Nat.pow_succ, Nat.mul_comm 256]
def sealed (b : List UInt8) : List UInt8 := b ++ le 4 (sum b)
theorem sealed_length (b : List UInt8) : (sealed b).length = b.length + 4 := by simp [sealed, le_length]

theorem ofNat_toNat (x : Nat) : (UInt8.ofNat (x % 256)).toNat = x % 256 := by simp

theorem run_le (n : Nat) : ∀ x s, s < 256 ^ n → run x (le n s) = bn (8 * n) (x ^^^ s) := by
  induction n with
  | zero => intro x s h; simp at h; subst h; simp [le, run, bn]
  | succ n ih =>
    intro x s h
    have hs : s / 256 < 256 ^ n := by
      rw [Nat.pow_succ] at h
      exact Nat.div_lt_of_lt_mul (by rw [Nat.mul_comm]; exact h)
    rw [le_head]
    show run (step x (UInt8.ofNat (s % 256)).toNat) (le n (s / 256)) = _
    rw [ih _ _ hs, ofNat_toNat, step, show 8 * (n + 1) = 8 + 8 * n from by omega, bn_add]
    congr 1
    have e1 : s = (s % 256) ^^^ (2 ^ 8 * (s / 256)) := by
      have h3 : (s % 256) &&& (2 ^ 8 * (s / 256)) = 0 := by
        apply Nat.eq_of_testBit_eq
        intro i
        rw [Nat.testBit_and, Nat.testBit_two_pow_mul, Nat.zero_testBit]
        by_cases hi : 8 ≤ i
        · have : (s % 256).testBit i = false := Nat.testBit_lt_two_pow (Nat.lt_of_lt_of_le (show s % 256 < 2 ^ 8 by omega) (Nat.pow_le_pow_right (by omega) hi))
          simp [this]
        · simp [hi]
      have h1 := Nat.two_pow_add_eq_or_of_lt (i := 8) (b := s % 256) (by omega) (s / 256)
      have h2 : 2 ^ 8 * (s / 256) + s % 256 = s := by omega
      apply Nat.eq_of_testBit_eq
      intro i
      have h4 : ((s % 256).testBit i && (2 ^ 8 * (s / 256)).testBit i) = false := by rw [← Nat.testBit_and, h3, Nat.zero_testBit]
      have h5 : s.testBit i = ((2 ^ 8 * (s / 256)).testBit i || (s % 256).testBit i) := by rw [← Nat.testBit_or, ← h1, h2]
      rw [h5, Nat.testBit_xor]
      revert h4
      generalize (2 ^ 8 * (s / 256)).testBit i = A
      generalize (s % 256).testBit i = B
      cases A <;> cases B <;> simp
    conv => rhs; rw [e1, ← Nat.xor_assoc, bn_xor, bn_shift]

theorem run_append (x : Nat) (a b : List UInt8) : run x (a ++ b) = run (run x a) b := by simp [run]

/-- the running sum over sealed bytes -/
theorem run_sealed (b : List UInt8) : run 4294967295 (sealed b) = bn 32 4294967295 := by
  have h := sum_lt b
  unfold sealed
  rw [run_append, run_le 4 _ _ (by simpa using h)]
  unfold sum
  rw [← Nat.xor_assoc, Nat.xor_self, Nat.zero_xor]

/-- bytes turned by others -/
def turn (a d : List UInt8) : List UInt8 := List.zipWith (· ^^^ ·) a d
theorem run_turn : ∀ (a d : List UInt8) (x y : Nat), a.length = d.length → run (x ^^^ y) (turn a d) = run x a ^^^ run y d
  | [], [], x, y, _ => rfl
  | c :: a, e :: d, x, y, h => by
    show run (step (x ^^^ y) (c ^^^ e).toNat) (turn a d) = run (step x c.toNat) a ^^^ run (step y e.toNat) d
    have hx : step (x ^^^ y) (c ^^^ e).toNat = step x c.toNat ^^^ step y e.toNat := by
      unfold step
      rw [← bn_xor]
      congr 1
      rw [UInt8.toNat_xor, Nat.xor_assoc, Nat.xor_assoc, ← Nat.xor_assoc y, Nat.xor_comm y, Nat.xor_assoc]
    rw [hx]
    exact run_turn a d _ _ (by simpa using h)
  | [], _ :: _, _, _, h => by simp at h
  | _ :: _, [], _, _, h => by simp at h
theorem run_zero (x k : Nat) : run x (List.replicate k 0) = bn (8 * k) x := by
  induction k generalizing x with
  | zero => rfl
  | succ k ih =>
    show run (step x 0) (List.replicate k 0) = _
    rw [ih, step, Nat.xor_zero, show 8 * (k + 1) = 8 + 8 * k from by omega, bn_add]
/-- four bytes at a place -/
def four4 (a k s : Nat) : List UInt8 := List.replicate a 0 ++ le 4 s ++ List.replicate k 0
theorem run_four4 {a k s : Nat} (hs : s < 4294967296) (h0 : s ≠ 0) : run 0 (four4 a k s) ≠ 0 := by
  unfold four4
  rw [run_append, run_append, run_zero 0 a, bn_zero, run_le 4 _ _ (by simpa using hs), run_zero, Nat.zero_xor, ← bn_add]
  intro h
  have := bn_inj (n := 8 * 4 + 8 * k) hs (by omega : 0 < 4294967296) (by rw [h, bn_zero])
  exact h0 this
theorem turned (p : List UInt8) (a k s : Nat) (hs : s < 4294967296) (h0 : s ≠ 0) (hp : run 4294967295 p = bn 32 4294967295) (hl : p.length = a + 4 + k) (b : List UInt8) : turn p (four4 a k s) ≠ sealed b := by
  intro h
  have h1 := run_sealed b
  rw [← h] at h1
  have h2 := run_turn p (four4 a k s) 4294967295 0 (by simp [four4, le_length, hl] <;> omega)
  rw [Nat.xor_zero, h1, hp] at h2
  refine run_four4 (a := a) (k := k) hs h0 ?_
  have h3 : bn 32 4294967295 ^^^ (bn 32 4294967295 ^^^ run 0 (four4 a k s)) = run 0 (four4 a k s) := by rw [← Nat.xor_assoc, Nat.xor_self, Nat.zero_xor]
  rw [← h3, ← h2, Nat.xor_self]
theorem no_zero : sealed (List.replicate 12 0) ≠ List.replicate 16 0 := by
  intro h
  have h1 := run_sealed (List.replicate 12 0)
  rw [h, run_zero] at h1
  revert h1
  decide +kernel
theorem sealed_inj {a b : List UInt8} (h : sealed a = sealed b) : a = b := by
  have hl : a.length = b.length := by have := congrArg List.length h; simpa [sealed_length] using this
  exact (List.append_inj h hl).1
theorem sealed_take (b : List UInt8) : (sealed b).take b.length = b := by simp [sealed]
end Go.Proofs.Ytpbcmghfhflkbaa.Crc
