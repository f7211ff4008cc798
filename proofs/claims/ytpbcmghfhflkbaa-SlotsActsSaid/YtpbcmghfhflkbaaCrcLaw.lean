/- The sum of Ethernet on naturals: one bit, one byte, any bytes; it is linear, and one to one. Conditions: none. -/
import Derived.Test.YtpbcmghfhflkbaaTw
set_option linter.unusedVariables false
set_option linter.unusedSimpArgs false
namespace Go.Proofs.Ytpbcmghfhflkbaa.Crc

/-- one bit -/
def b1 (x : Nat) : Nat := if x % 2 = 1 then (x / 2) ^^^ 3988292384 else x / 2
def bn : Nat → Nat → Nat
  | 0, x => x
  | n + 1, x => bn n (b1 x)
theorem bn_succ (n x : Nat) : bn (n + 1) x = b1 (bn n x) := by
  induction n generalizing x with
  | zero => rfl
  | succ n ih => rw [bn, ih]; rfl
theorem bn_add (n m x : Nat) : bn (n + m) x = bn m (bn n x) := by
  induction n generalizing x with
  | zero => simp [bn]
  | succ n ih => rw [show n + 1 + m = (n + m) + 1 from by omega, bn, ih]; rfl
/-- one byte -/
def step (x c : Nat) : Nat := bn 8 (x ^^^ c)
/-- any bytes -/
def run (x : Nat) (l : List UInt8) : Nat := l.foldl (fun x c => step x c.toNat) x
def sum (l : List UInt8) : Nat := run 4294967295 l ^^^ 4294967295

theorem xor_lt {a b : Nat} (n : Nat) (ha : a < 2 ^ n) (hb : b < 2 ^ n) : a ^^^ b < 2 ^ n := Nat.xor_lt_two_pow ha hb
theorem b1_lt {x : Nat} (h : x < 4294967296) : b1 x < 4294967296 := by
  unfold b1
  split
  · exact xor_lt 32 (by omega) (by omega)
  · omega
theorem bn_lt {n x : Nat} (h : x < 4294967296) : bn n x < 4294967296 := by
  induction n generalizing x with
  | zero => exact h
  | succ n ih => exact ih (b1_lt h)
theorem step_lt {x c : Nat} (h : x < 4294967296) (hc : c < 4294967296) : step x c < 4294967296 := bn_lt (xor_lt 32 h hc)
theorem run_lt {x : Nat} (h : x < 4294967296) (l : List UInt8) : run x l < 4294967296 := by
  induction l generalizing x with
  | nil => exact h
  | cons c l ih => exact ih (step_lt h (by have := c.toNat_lt; omega))
theorem sum_lt (l : List UInt8) : sum l < 4294967296 := xor_lt 32 (run_lt (by omega) l) (by omega)

theorem b1_xor (x y : Nat) : b1 (x ^^^ y) = b1 x ^^^ b1 y := by
  have hm : (x ^^^ y) % 2 = (x % 2) ^^^ (y % 2) := Nat.xor_mod_two_pow (n := 1)
  have hd : (x ^^^ y) / 2 = x / 2 ^^^ y / 2 := Nat.xor_div_two
  have e1 : (0 ^^^ 0 : Nat) = 0 := rfl
  have e2 : (0 ^^^ 1 : Nat) = 1 := rfl
  have e3 : (1 ^^^ 0 : Nat) = 1 := rfl
  have e4 : (1 ^^^ 1 : Nat) = 0 := rfl
  unfold b1
  rw [hm, hd]
  rcases Nat.mod_two_eq_zero_or_one x with hx | hx <;> rcases Nat.mod_two_eq_zero_or_one y with hy | hy <;> simp only [hx, hy, e1, e2, e3, e4]
  · rfl
  · simp only [if_true, if_neg (show ¬ (0 : Nat) = 1 by omega)]
    rw [Nat.xor_assoc]
  · simp only [if_true, if_neg (show ¬ (0 : Nat) = 1 by omega)]
    rw [Nat.xor_assoc, Nat.xor_comm (y / 2), ← Nat.xor_assoc]
  · simp only [if_true, if_neg (show ¬ (0 : Nat) = 1 by omega)]
    rw [Nat.xor_assoc, Nat.xor_comm (y / 2), ← Nat.xor_assoc 3988292384, Nat.xor_self, Nat.zero_xor]
theorem bn_xor (n x y : Nat) : bn n (x ^^^ y) = bn n x ^^^ bn n y := by
  induction n generalizing x y with
  | zero => rfl
  | succ n ih => simp only [bn, b1_xor, ih]
theorem bn_zero (n : Nat) : bn n 0 = 0 := by
  induction n with
  | zero => rfl
  | succ n ih => exact ih
theorem bn_shift (n x : Nat) : bn n (2 ^ n * x) = x := by
  induction n generalizing x with
  | zero => simp [bn]
  | succ n ih =>
    have h1 : 2 ^ (n + 1) * x = 2 * (2 ^ n * x) := by rw [Nat.pow_succ, Nat.mul_comm (2 ^ n) 2, Nat.mul_assoc]
    rw [bn, show b1 (2 ^ (n + 1) * x) = 2 ^ n * x from by unfold b1; rw [h1]; simp, ih]

/-- four bits at once -/
def tab (n : Nat) : Nat := bn 4 n
theorem four (x : Nat) : bn 4 x = (x / 16) ^^^ tab (x % 16) := by
  have hx : x = (2 ^ 4 * (x / 16)) ^^^ (x % 16) := by
    have h1 := Nat.two_pow_add_eq_or_of_lt (i := 4) (b := x % 16) (by omega) (x / 16)
    have h2 : 2 ^ 4 * (x / 16) + x % 16 = x := by omega
    have h3 : (2 ^ 4 * (x / 16)) &&& (x % 16) = 0 := by
      apply Nat.eq_of_testBit_eq
      intro i
      rw [Nat.testBit_and, Nat.testBit_two_pow_mul, Nat.zero_testBit]
      by_cases hi : 4 ≤ i
      · have : (x % 16).testBit i = false := Nat.testBit_lt_two_pow (Nat.lt_of_lt_of_le (show x % 16 < 2 ^ 4 by omega) (Nat.pow_le_pow_right (by omega) hi))
        simp [this]
      · simp [hi]
    apply Nat.eq_of_testBit_eq
    intro i
    have h4 : ((2 ^ 4 * (x / 16)).testBit i && (x % 16).testBit i) = false := by rw [← Nat.testBit_and, h3, Nat.zero_testBit]
    have h5 : x.testBit i = ((2 ^ 4 * (x / 16)).testBit i || (x % 16).testBit i) := by rw [← Nat.testBit_or, ← h1, h2]
    rw [h5, Nat.testBit_xor]
    revert h4
    generalize (2 ^ 4 * (x / 16)).testBit i = A
    generalize (x % 16).testBit i = B
    cases A <;> cases B <;> simp
  rw [hx]
  conv => lhs; rw [bn_xor, bn_shift]
  rw [← hx]
  rfl

theorem b1_inj {x y : Nat} (hx : x < 4294967296) (hy : y < 4294967296) (h : b1 x = b1 y) : x = y := by
  have top : ∀ z, z < 2147483648 → 2147483648 ≤ z ^^^ 3988292384 := by
    intro z hz
    have h1 : (z ^^^ 3988292384).testBit 31 = true := by
      rw [Nat.testBit_xor, Nat.testBit_lt_two_pow (show z < 2 ^ 31 by omega)]
      decide
    exact Nat.ge_two_pow_of_testBit h1
  unfold b1 at h
  split at h <;> split at h
  · have h2 : (x / 2 ^^^ 3988292384) ^^^ 3988292384 = (y / 2 ^^^ 3988292384) ^^^ 3988292384 := by rw [h]
    rw [Nat.xor_assoc, Nat.xor_assoc, Nat.xor_self, Nat.xor_zero, Nat.xor_zero] at h2
    omega
  · have := top (x / 2) (by omega); omega
  · have := top (y / 2) (by omega); omega
  · omega
theorem bn_inj {n x y : Nat} (hx : x < 4294967296) (hy : y < 4294967296) (h : bn n x = bn n y) : x = y := by
  induction n generalizing x y with
  | zero => exact h
  | succ n ih => exact b1_inj hx hy (ih (b1_lt hx) (b1_lt hy) h)
end Go.Proofs.Ytpbcmghfhflkbaa.Crc
