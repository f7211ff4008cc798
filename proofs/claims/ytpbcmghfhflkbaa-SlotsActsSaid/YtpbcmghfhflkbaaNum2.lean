/- Contracts of num's tickets, boots and small numbers, and of their reference. Conditions: none. -/
import Derived.Test.YtpbcmghfhflkbaaNum
set_option linter.unusedVariables false
set_option linter.unusedSimpArgs false
namespace Go.Proofs.Ytpbcmghfhflkbaa.Num
open Go.RowKit Tw
set_option maxHeartbeats 400000

def tkOk (n : Int) : Bool := decide (0 ≤ n ∧ n < 16777216)
def tk (b : Nat) (n : Int) : Int := if tkOk n = true then (b : Int) * 16777216 + n else 0
theorem tkOk_true {n : Int} (h0 : 0 ≤ n) (h1 : n < 16777216) : tkOk n = true := by simp [tkOk, h0, h1]
theorem tkOk_false {n : Int} (h : n < 0 ∨ 16777216 ≤ n) : tkOk n = false := by simp [tkOk]; omega

theorem wraps_i64 (n : Int) (h₀ : 0 ≤ n) (h₁ : n < 2 ^ 63) : IntKind.i64.wrap n = n := by rw [IntKind.wrap_i64]; omega
theorem or24 (b : Nat) (n : Int) (hb : b < 4294967296) (h0 : 0 ≤ n) (h1 : n < 16777216) : bits .or .i64 ((b : Int) * 16777216) n = (b : Int) * 16777216 + n :=
  bits_join .i64 63 (by decide) wraps_i64 24 _ _ (by omega) (by omega) (by omega) h0 (by omega) (by omega)
theorem and24 (n : Int) (h0 : 0 ≤ n) (h1 : n < 72057594037927936) : bits .and .i64 n 16777215 = n % 16777216 :=
  bits_mask .i64 63 (by decide) wraps_i64 24 (by decide) n h0 (by omega)
def bootOf (t : Int) : Int := if 0 ≤ t ∧ t < 72057594037927936 then t / 16777216 else 0
def cntOf (t : Int) : Int := if 0 ≤ t ∧ t < 72057594037927936 then t % 16777216 else 0
theorem bootOf_no {t : Int} (h : t < 0 ∨ 72057594037927936 ≤ t) : bootOf t = 0 := by unfold bootOf; rw [if_neg (by omega)]
theorem cntOf_no {t : Int} (h : t < 0 ∨ 72057594037927936 ≤ t) : cntOf t = 0 := by unfold cntOf; rw [if_neg (by omega)]
theorem bootOf_yes {t : Int} (h0 : 0 ≤ t) (h1 : t < 72057594037927936) : bootOf t = t / 16777216 := by unfold bootOf; rw [if_pos ⟨h0, h1⟩]
theorem cntOf_yes {t : Int} (h0 : 0 ≤ t) (h1 : t < 72057594037927936) : cntOf t = t % 16777216 := by unfold cntOf; rw [if_pos ⟨h0, h1⟩]

def smOk (n : Nat) : Bool := decide (n ≤ 2147483647)
def sm (n : Nat) : Int := if n ≤ 2147483647 then n else 0
/-- what the first k bytes tell -/
def gv (k : Nat) (b : List UInt8) : Nat := if k ≤ b.length then val (b.take k) else 0
def gok (k : Nat) (b : List UInt8) : Bool := decide (k ≤ b.length)
theorem gv_yes {k : Nat} {b : List UInt8} (h : k ≤ b.length) : gv k b = val (b.take k) := if_pos h
theorem gv_no {k : Nat} {b : List UInt8} (h : b.length < k) : gv k b = 0 := if_neg (by omega)
theorem gok_yes {k : Nat} {b : List UInt8} (h : k ≤ b.length) : gok k b = true := by simp [gok, h]
theorem gok_no {k : Nat} {b : List UInt8} (h : b.length < k) : gok k b = false := by simp [gok]; omega
theorem gv_lt (k : Nat) (b : List UInt8) : gv k b < 256 ^ k := by
  unfold gv
  split
  · exact val_take_lt b k k (Nat.le_refl _)
  · exact Nat.pow_pos (by omega)

theorem c_Get16 (A : Option Addr) (n c : Nat) (b : List UInt8) (w : World) (hb : Byt w A n c b) :
    Calls Try.prog 208 #[.slice A n c] w fun e w' => e = .returned (.tuple #[.int .i64 (gv 2 b), .bool (gok 2 b)]) ∧ w = w' := by
  have hl := hb.blen
  by_cases h : 2 ≤ n
  · rw [gv_yes (by omega), gok_yes (by omega)]
    clear hl
    have hv := val_take_lt b 2 2 (Nat.le_refl _)
    generalize hq : val (b.take 2) = q at hv ⊢
    have Hq := Lib.hid hq
    clear hq
    go_enter Try.func208, Try.ntmps208
    go_wp2_with (first
      | (go_at_call 243; (with_reducible refine (c_get_u16 _ _ _ b 2 2 _ hb rfl (by omega) h).mono ?_); rintro e w' ⟨rfl, rfl⟩; rw [Hq.out]))
    go_ret2
    exact ⟨rfl, rfl⟩
  · rw [gv_no (by omega), gok_no (by omega)]
    clear hl
    go_enter Try.func208, Try.ntmps208
    go_wp2_with (first
      | (go_at_call 243; (with_reducible refine (c_get_u16_short _ _ _ 2 2 _ rfl (by omega)).mono ?_); rintro e w' ⟨rfl, rfl⟩))
    go_ret2
    exact ⟨rfl, rfl⟩
theorem c_Get32 (A : Option Addr) (n c : Nat) (b : List UInt8) (w : World) (hb : Byt w A n c b) :
    Calls Try.prog 244 #[.slice A n c] w fun e w' => e = .returned (.tuple #[.int .u32 (gv 4 b), .bool (gok 4 b)]) ∧ w = w' := by
  have hl := hb.blen
  by_cases h : 4 ≤ n
  · rw [gv_yes (by omega), gok_yes (by omega)]
    clear hl
    have hv := val_take_lt b 4 4 (Nat.le_refl _)
    generalize hq : val (b.take 4) = q at hv ⊢
    have Hq := Lib.hid hq
    clear hq
    go_enter Try.func244, Try.ntmps244
    go_wp2_with (first
      | (go_at_call 259; (with_reducible refine (c_get_u32 _ _ _ b 4 4 _ hb rfl (by omega) h).mono ?_); rintro e w' ⟨rfl, rfl⟩; rw [Hq.out]))
    go_ret2
    exact ⟨rfl, rfl⟩
  · rw [gv_no (by omega), gok_no (by omega)]
    clear hl
    go_enter Try.func244, Try.ntmps244
    go_wp2_with (first
      | (go_at_call 259; (with_reducible refine (c_get_u32_short _ _ _ 4 4 _ rfl (by omega)).mono ?_); rintro e w' ⟨rfl, rfl⟩))
    go_ret2
    exact ⟨rfl, rfl⟩
theorem c_Get64 (A : Option Addr) (n c : Nat) (b : List UInt8) (w : World) (hb : Byt w A n c b) :
    Calls Try.prog 245 #[.slice A n c] w fun e w' => e = .returned (.tuple #[.int .u64 (gv 8 b), .bool (gok 8 b)]) ∧ w = w' := by
  have hl := hb.blen
  by_cases h : 8 ≤ n
  · rw [gv_yes (by omega), gok_yes (by omega)]
    clear hl
    have hv := val_take_lt b 8 8 (Nat.le_refl _)
    generalize hq : val (b.take 8) = q at hv ⊢
    have Hq := Lib.hid hq
    clear hq
    go_enter Try.func245, Try.ntmps245
    go_wp2_with (first
      | (go_at_call 260; (with_reducible refine (c_get_u64 _ _ _ b 8 8 _ hb rfl (by omega) h).mono ?_); rintro e w' ⟨rfl, rfl⟩; rw [Hq.out]))
    go_ret2
    exact ⟨rfl, rfl⟩
  · rw [gv_no (by omega), gok_no (by omega)]
    clear hl
    go_enter Try.func245, Try.ntmps245
    go_wp2_with (first
      | (go_at_call 260; (with_reducible refine (c_get_u64_short _ _ _ 8 8 _ rfl (by omega)).mono ?_); rintro e w' ⟨rfl, rfl⟩))
    go_ret2
    exact ⟨rfl, rfl⟩
theorem c_rGetAll (A : Option Addr) (n c : Nat) (b : List UInt8) (sz : Int) (size : Nat) (w : World) (hsz : sz = (size : Int)) (hs : size ≤ 8) (hb : Byt w A n c b) :
    Calls Try.prog 173 #[.slice A n c, .int .i64 sz] w fun e w' => e = .returned (.tuple #[.int .u64 (gv size b), .bool (gok size b)]) ∧ w = w' := by
  have hl := hb.blen
  by_cases h : size ≤ n
  · rw [gv_yes (by omega), gok_yes (by omega)]
    exact c_rGet A n c b sz size w hb hsz hs h
  · rw [gv_no (by omega), gok_no (by omega)]
    exact c_rGet_short A n c sz size w hsz (by omega)

end Go.Proofs.Ytpbcmghfhflkbaa.Num
