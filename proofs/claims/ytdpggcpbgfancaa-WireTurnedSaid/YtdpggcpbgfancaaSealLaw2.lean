/- What was sealed is got; what was turned is not; in plain words. Conditions: none. -/
import Derived.Test.YtdpggcpbgfancaaSeal7
namespace Go.Proofs.Ytdpggcpbgfancaa.Seal
open Go.RowKit Tw
open Crc (le sealed le_length sealed_length turn four4 run run_sealed turned no_zero sealed_inj)

theorem get_sealed (b : List UInt8) : get (sealed b) = (b, 0) := by
  have h : (sealed b).take ((sealed b).length - 4) = b := by rw [sealed_length, Nat.add_sub_cancel, sealed, List.take_left]
  rw [get_ok (by rw [sealed_length]; omega) (by rw [h]), h]
theorem fold_be (k n : Nat) : ∀ a, (Num.be k n).foldl (fun n (c : UInt8) => n * 256 + c.toNat) a = a * 256 ^ k + n % 256 ^ k := by
  induction k with
  | zero => intro a; simp [Num.be, Nat.mod_one]
  | succ k ih =>
    intro a
    rw [Num.be, List.foldl_cons, ih]
    have h1 : (UInt8.ofNat (n / 256 ^ k)).toNat = n / 256 ^ k % 256 := by simp
    rw [h1, Nat.pow_succ, Nat.mod_mul, Nat.add_mul, Nat.mul_assoc, Nat.mul_comm 256 (256 ^ k), Nat.mul_comm (n / 256 ^ k % 256)]
    omega
theorem val_be' (k n : Nat) (h : n < 256 ^ k) : Num.val (Num.be k n) = n := by
  have := fold_be k n 0
  unfold Num.val
  rw [this, Nat.mod_eq_of_lt h]
  omega
theorem opened_rec {x y : Nat} (hx : x < 4294967296) (hy : y < 18446744073709551616) : opened (rec x y) = (x, y, true) := by
  have hl := rec_length x y
  have e : rec x y = Num.be 4 x ++ (Num.be 8 y ++ le 4 (Crc.sum (Num.be 4 x ++ Num.be 8 y))) := by simp [rec, sealed]
  have h4 : Num.gv 4 (rec x y) = x := by
    rw [Num.gv_yes (by omega), e, List.take_left' (Num.be_length 4 x), val_be' 4 x (by simpa using hx)]
  have h8 : Num.gv 8 ((rec x y).drop 4) = y := by
    rw [Num.gv_yes (by rw [List.length_drop]; omega), e, List.drop_left' (Num.be_length 4 x), List.take_left' (Num.be_length 8 y), val_be' 8 y (by simpa using hy)]
  rw [opened_yes (by rw [h4, h8]), h4, h8]
theorem opened_zero : opened (List.replicate 16 0) = (0, 0, false) := by
  refine opened_no fun h => no_zero ?_
  have e : rec (Num.gv 4 (List.replicate 16 0)) (Num.gv 8 ((List.replicate 16 0).drop 4)) = sealed (List.replicate 12 0) := by
    have h4 : Num.gv 4 (List.replicate 16 0) = 0 := by decide +kernel
    have h8 : Num.gv 8 ((List.replicate 16 (0 : UInt8)).drop 4) = 0 := by decide +kernel
    rw [h4, h8]
    rfl
  rw [← e, h]

/-- k bytes of a number at a place, noughts else -/
def bits4 (a k m s : Nat) : List UInt8 := List.replicate a 0 ++ le k s ++ List.replicate (m - a - k) 0
theorem le_get (s : Nat) : ∀ k i, i < k → (le k s)[i]? = some (UInt8.ofNat (s / 256 ^ i % 256))
  | 0, _, h => by omega
  | k + 1, i, h => by
    rw [le]
    by_cases hi : i < k
    · rw [List.getElem?_append_left (by rw [le_length]; exact hi)]
      exact le_get s k i hi
    · have : i = k := by omega
      subst this
      rw [List.getElem?_append_right (by rw [le_length]; omega), le_length]
      simp
theorem bits4_length {a k m s : Nat} (h : a + k ≤ m) : (bits4 a k m s).length = m := by simp [bits4, le_length]; omega
theorem bits4_get {a k m s j : Nat} (h : a + k ≤ m) (hj : j < m) : (bits4 a k m s)[j]? = some (if a ≤ j ∧ j < a + k then UInt8.ofNat (s / 256 ^ (j - a) % 256) else 0) := by
  unfold bits4
  by_cases h1 : j < a
  · rw [List.append_assoc, List.getElem?_append_left (by simpa using h1), if_neg (by omega)]
    simp [h1]
  · by_cases h2 : j < a + k
    · rw [List.append_assoc, List.getElem?_append_right (by simp; omega), List.getElem?_append_left (by simp [le_length]; omega), if_pos ⟨by omega, h2⟩]
      simp only [List.length_replicate]
      exact le_get s k (j - a) (by omega)
    · rw [List.getElem?_append_right (by simp [le_length]; omega), if_neg (by omega), List.length_append, List.length_replicate, le_length, List.getElem?_replicate, if_pos (by omega)]
theorem turn_get {p d : List UInt8} {j : Nat} {x y : UInt8} (h1 : p[j]? = some x) (h2 : d[j]? = some y) : (turn p d)[j]? = some (x ^^^ y) := by
  unfold turn
  rw [List.getElem?_zipWith, h1, h2]
theorem turn_length {p d : List UInt8} (h : p.length = d.length) : (turn p d).length = p.length := by simp [turn, h]
theorem turn_bits_get {p : List UInt8} {a k m s j : Nat} {x : UInt8} (hp : p.length = m) (h : a + k ≤ m) (hx : p[j]? = some x) :
    (turn p (bits4 a k m s))[j]? = some (if a ≤ j ∧ j < a + k then x ^^^ UInt8.ofNat (s / 256 ^ (j - a) % 256) else x) := by
  have hj : j < m := by have := (List.getElem?_eq_some_iff.1 hx).1; omega
  rw [turn_get hx (bits4_get h hj)]
  split <;> simp
theorem turn_bits_none {p : List UInt8} {a m s : Nat} (hp : p.length = m) (h : a ≤ m) : turn p (bits4 a 0 m s) = p := by
  refine List.ext_getElem? fun j => ?_
  by_cases hj : j < m
  · rw [turn_bits_get hp (by omega) (List.getElem?_eq_getElem (by omega)), if_neg (by omega), List.getElem?_eq_getElem (by omega)]
  · rw [List.getElem?_eq_none (by rw [turn_length (by rw [bits4_length (by omega)]; exact hp)]; omega), List.getElem?_eq_none (by omega)]
theorem turn_bits_next {p : List UInt8} {a k m s : Nat} {x : UInt8} (hp : p.length = m) (h : a + (k + 1) ≤ m) (hx : p[a + k]? = some x) :
    (turn p (bits4 a k m s)).set (a + k) (x ^^^ UInt8.ofNat (s / 256 ^ k % 256)) = turn p (bits4 a (k + 1) m s) := by
  have hl : (turn p (bits4 a k m s)).length = m := by rw [turn_length (by rw [bits4_length (by omega)]; exact hp), hp]
  have hl2 : (turn p (bits4 a (k + 1) m s)).length = m := by rw [turn_length (by rw [bits4_length (by omega)]; exact hp), hp]
  refine List.ext_getElem? fun j => ?_
  by_cases hj : j < m
  · rw [turn_bits_get hp (by omega) (List.getElem?_eq_getElem (by omega))]
    by_cases he : j = a + k
    · subst he
      rw [List.getElem?_set_self (by omega), if_pos (by omega), Nat.add_sub_cancel_left]
      have h2 : p[a + k]? = some (p[a + k]'(by omega)) := List.getElem?_eq_getElem (by omega)
      rw [h2] at hx
      injection hx with hx
      rw [hx]
    · rw [List.getElem?_set_ne (by omega), turn_bits_get hp (by omega) (List.getElem?_eq_getElem (by omega))]
      by_cases h3 : a ≤ j ∧ j < a + k
      · rw [if_pos h3, if_pos (by omega)]
      · rw [if_neg h3, if_neg (by omega)]
  · rw [List.getElem?_eq_none (by simp; omega), List.getElem?_eq_none (by omega)]
theorem bits4_four (a m s : Nat) : bits4 a 4 m s = four4 a (m - a - 4) s := rfl
theorem get_turned (b : List UInt8) {a s : Nat} (hs : s < 4294967296) (h0 : s ≠ 0) (ha : a ≤ b.length) : get (turn (sealed b) (bits4 a 4 (b.length + 4) s)) = ([], 10) := by
  have hl : (turn (sealed b) (bits4 a 4 (b.length + 4) s)).length = b.length + 4 := by rw [turn_length (by rw [bits4_length (by omega), sealed_length]), sealed_length]
  refine get_sum (by omega) fun h => ?_
  rw [bits4_four] at h
  exact turned (sealed b) a (b.length + 4 - a - 4) s hs h0 (run_sealed b) (by rw [sealed_length]; omega) _ h.symm
theorem opened_turned {x y a s : Nat} (hs : s < 4294967296) (h0 : s ≠ 0) (ha : a ≤ 12) : opened (turn (rec x y) (bits4 a 4 16 s)) = (0, 0, false) := by
  refine opened_no fun h => ?_
  rw [bits4_four] at h
  exact turned (rec x y) a (16 - a - 4) s hs h0 (run_sealed _) (by rw [rec_length]; omega) _ h.symm
end Go.Proofs.Ytdpggcpbgfancaa.Seal
