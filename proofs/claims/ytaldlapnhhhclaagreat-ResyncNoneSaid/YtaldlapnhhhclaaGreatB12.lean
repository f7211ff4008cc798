/- Texts joined: what the disks, the rings and their reference do. Conditions: none. -/
import Derived.Test.YtaldlapnhhhclaaGreatB10
import Derived.Test.YtaldlapnhhhclaaGreatB11
import Derived.RangeFuncNested
import Derived.RangeFuncCalls
import Derived.RangeFuncLeaves
import Derived.Shelf.Abstract
import Derived.WalkKit
import Derived.OwnWalkIn
import Derived.Test.YtaldlapnhhhclaaGreatB1
import Derived.RangeFuncBound
import Derived.Shelf.RegionOpen
import Derived.RangeFuncBox
import Derived.TacticsInMore
import Derived.LoopNIn
import Derived.LoopIn
import Derived.Maps.AppendAt
import Derived.Deep.MidRow
import Derived.Test.YtaldlapnhhhclaaGreatProg
import Derived.Test.YtaldlapnhhhclaaGreatB8
import Derived.Test.YtaldlapnhhhclaaGreatB2
import Derived.Test.YtaldlapnhhhclaaGreatB6
import Derived.WalkSpells
import Derived.Deep.Cut
import Derived.Deep.CutBlock
import Derived.Carry
import Derived.Lib.SmallJoins
/- The lowest bit of a word, and how often a word's ones are counted: plain. Conditions: none. -/
set_option linter.unusedVariables false
set_option linter.unusedSimpArgs false
namespace Go.Proofs.YtaldlapnhhhclaaGreat.Bt
open Go.RowKit
set_option maxHeartbeats 1000000
theorem low_form : ∀ m : Nat, 0 < m → ∃ k j : Nat, m = 2 ^ k * (2 * j + 1)
  | m, h => by
    by_cases h2 : m % 2 = 1
    · exact ⟨0, m / 2, by omega⟩
    · obtain ⟨k, j, hk⟩ := low_form (m / 2) (by omega)
      refine ⟨k + 1, j, ?_⟩
      have : m = 2 * (m / 2) := by omega
      rw [this, hk, Nat.pow_succ]
      rw [Nat.mul_comm (2 ^ k) 2, Nat.mul_assoc]
termination_by m => m
theorem form_bit (k j i : Nat) : (2 ^ k * (2 * j + 1)).testBit i = (decide (i = k) || (decide (k < i) && j.testBit (i - k - 1))) := by
  rw [Nat.testBit_two_pow_mul]
  by_cases h1 : k ≤ i
  · obtain ⟨d, rfl⟩ : ∃ d, i = k + d := ⟨i - k, by omega⟩
    cases d with
    | zero => simp
    | succ d =>
      rw [show k + (d + 1) - k = d + 1 by omega, Nat.testBit_succ, show (2 * j + 1) / 2 = j by omega]
      simp
  · simp [h1]
    omega
theorem form_lt {k j : Nat} (h : 2 ^ k * (2 * j + 1) < 2 ^ 64) : k < 64 ∧ j < 2 ^ (63 - k) := by
  have hp : 0 < 2 ^ k := Nat.two_pow_pos k
  have h1 : 2 ^ k < 2 ^ 64 := Nat.lt_of_le_of_lt (by simpa using Nat.mul_le_mul_left (2 ^ k) (show 1 ≤ 2 * j + 1 by omega)) h
  have hk : k < 64 := (Nat.pow_lt_pow_iff_right (by omega)).1 h1
  refine ⟨hk, ?_⟩
  have h2 : 2 ^ 64 = 2 ^ k * (2 ^ (63 - k) * 2) := by
    rw [← Nat.pow_succ, ← Nat.pow_add]
    congr 1
    omega
  rw [h2] at h
  have := Nat.lt_of_mul_lt_mul_left h
  omega
theorem form_neg {k j : Nat} (h : 2 ^ k * (2 * j + 1) < 2 ^ 64) : 2 ^ 64 - 2 ^ k * (2 * j + 1) = 2 ^ k * (2 * (2 ^ (63 - k) - (j + 1)) + 1) := by
  obtain ⟨hk, hj⟩ := form_lt h
  have h2 : 2 ^ 64 = 2 ^ k * (2 ^ (63 - k) * 2) := by
    rw [← Nat.pow_succ, ← Nat.pow_add]
    congr 1
    omega
  rw [h2, ← Nat.mul_sub]
  congr 1
  omega
theorem low_and {k j : Nat} (h : 2 ^ k * (2 * j + 1) < 2 ^ 64) : 2 ^ k * (2 * j + 1) &&& (2 ^ 64 - 2 ^ k * (2 * j + 1)) = 2 ^ k := by
  obtain ⟨hk, hj⟩ := form_lt h
  rw [form_neg h]
  refine Nat.eq_of_testBit_eq fun i => ?_
  rw [Nat.testBit_and, form_bit, form_bit, Nat.testBit_two_pow_sub_succ hj, Nat.testBit_two_pow]
  by_cases h1 : i = k
  · simp [h1]
  · by_cases h2 : k < i
    · cases j.testBit (i - k - 1) <;> simp [h1, h2] <;> omega
    · simp [h1, h2]
      omega
theorem pred_and {k j : Nat} : 2 ^ k * (2 * j + 1) &&& (2 ^ k * (2 * j + 1) - 1) = 2 ^ (k + 1) * j := by
  have hp : 0 < 2 ^ k := Nat.two_pow_pos k
  have he : 2 ^ k * (2 * j + 1) - 1 = 2 ^ (k + 1) * j + (2 ^ k - 1) := by
    rw [Nat.mul_add, Nat.pow_succ, Nat.mul_one, Nat.mul_assoc]
    omega
  rw [he]
  refine Nat.eq_of_testBit_eq fun i => ?_
  have h2 : (2 ^ (k + 1) * j + (2 ^ k - 1)).testBit i = if i < k + 1 then (2 ^ k - 1).testBit i else j.testBit (i - (k + 1)) := by
    refine Nat.testBit_two_pow_mul_add j ?_ i
    rw [Nat.pow_succ]
    omega
  rw [Nat.testBit_and, form_bit, h2, Nat.testBit_two_pow_mul, Nat.testBit_two_pow_sub_one]
  by_cases h1 : i = k
  · subst h1
    simp
    omega
  · by_cases h3 : k < i
    · rw [if_neg (by omega)]
      rw [show i - k - 1 = i - (k + 1) by omega, decide_eq_false h1, decide_eq_true h3, decide_eq_true (show i ≥ k + 1 by omega)]
      simp
    · simp [h1, h3]
      omega
/-- a word's lowest one ahead of the others -/
theorem upTo_form {k j : Nat} (h : 2 ^ k * (2 * j + 1) < 2 ^ 64) : upTo (2 ^ k * (2 * j + 1)) 64 = k :: upTo (2 ^ (k + 1) * j) 64 := by
  obtain ⟨hk, hj⟩ := form_lt h
  unfold upTo
  have hr : List.range 64 = List.range k ++ k :: (List.range (63 - k)).map (· + (k + 1)) := by
    rw [show (64 : Nat) = k + 1 + (63 - k) by omega, List.range_add, List.range_succ, List.append_assoc]
    congr 1
    simp only [List.singleton_append, List.cons.injEq, true_and, show k + 1 + (63 - k) - k - 1 = 63 - k by omega]
    rw [show 63 - k = k + 1 + (63 - k) - 1 - k by omega]
    refine List.map_congr_left fun a _ => ?_
    omega
  have b1 : ∀ i, (2 ^ (k + 1) * j).testBit i = (decide (k < i) && j.testBit (i - k - 1)) := fun i => by
    rw [Nat.testBit_two_pow_mul]
    rw [show i - (k + 1) = i - k - 1 by omega]
    rfl
  rw [hr]
  simp only [List.filter_append, List.filter_cons, form_bit, b1]
  have n1 : List.filter (fun i => decide (i = k) || (decide (k < i) && j.testBit (i - k - 1))) (List.range k) = [] := by
    rw [List.filter_eq_nil_iff]
    intro a ha
    have := List.mem_range.1 ha
    simp
    omega
  have n2 : List.filter (fun i => decide (k < i) && j.testBit (i - k - 1)) (List.range k) = [] := by
    rw [List.filter_eq_nil_iff]
    intro a ha
    have := List.mem_range.1 ha
    simp
    omega
  rw [n1, n2]
  simp only [decide_true, Bool.true_or, if_true, List.nil_append, Nat.lt_irrefl, decide_false, Bool.false_and, Bool.false_eq_true, if_false, List.cons.injEq, true_and]
  refine List.filter_congr fun a ha => ?_
  obtain ⟨b, hb, rfl⟩ := List.mem_map.1 ha
  simp
  omega
def msk (i : Nat) : Nat := match i with | 0 => 6148914691236517205 | 1 => 3689348814741910323 | 2 => 1085102592571150095 | 3 => 71777214294589695 | 4 => 281470681808895 | _ => 4294967295
def cstep (x i : Nat) : Nat := (x &&& msk i) + ((x / 2 ^ (2 ^ i)) &&& msk i)
def cto (x : Nat) : Nat → Nat
  | 0 => x
  | i + 1 => cstep (cto x i) i
theorem count_low : ∀ k : Nat, k < 64 → cto (2 ^ k - 1) 6 = k := by decide +kernel
theorem cto_lt (x : Nat) (hx : x < 18446744073709551616) : ∀ i, i ≤ 6 → cto x i < 18446744073709551616
  | 0, _ => hx
  | i + 1, h => by
    unfold cto cstep
    have h1 : cto x i &&& msk i ≤ msk i := Nat.and_le_right
    have h2 : (cto x i / 2 ^ (2 ^ i)) &&& msk i ≤ msk i := Nat.and_le_right
    have h3 : msk i ≤ 6148914691236517205 := by
      unfold msk
      split <;> omega
    omega
end Go.Proofs.YtaldlapnhhhclaaGreat.Bt
/- Contracts of the package bits: Count, Lowest, Has, Row. Conditions: none. -/
namespace Go.Proofs.YtaldlapnhhhclaaGreat.Bt
open Go.RowKit Tw Disk
set_option maxHeartbeats 4000000
set_option maxRecDepth 100000
def maskL : List Value := [.int .u64 6148914691236517205, .int .u64 3689348814741910323, .int .u64 1085102592571150095, .int .u64 71777214294589695, .int .u64 281470681808895, .int .u64 4294967295]
theorem fdiv_nat (x n : Nat) : (x : Int).fdiv (n : Int) = ((x / n : Nat) : Int) := by
  rw [Int.fdiv_eq_ediv_of_nonneg _ (by omega)]
  rfl
theorem cnt_eq (y M S : Nat) (hy : y < 18446744073709551616) (hM : M ≤ 6148914691236517205) : IntKind.u64.wrap (bits BinOp.and IntKind.u64 (y : Int) (M : Int) + bits BinOp.and IntKind.u64 ((y : Int) / (S : Int)) (M : Int)) = (((y &&& M) + ((y / S) &&& M) : Nat) : Int) := by
  have ha := u64_and_nat y M hy (by omega)
  have hb := u64_and_nat (y / S) M (Nat.lt_of_le_of_lt (Nat.div_le_self _ _) hy) (by omega)
  have h1 : y &&& M ≤ M := Nat.and_le_right
  have h2 : (y / S) &&& M ≤ M := Nat.and_le_right
  rw [ha, show ((y : Int) / (S : Int)) = ((y / S : Nat) : Int) from rfl, hb]
  simp only [IntKind.wrap, IntKind.bits, IntKind.signed]
  simp
  omega
theorem c_Count (x : Nat) (hx : x < 18446744073709551616) (w : World) : Calls Tryz.prog 208 #[.int .u64 (x : Int)] w fun e w' => e = .returned (.int .i64 (wrap64 (cto x 6 : Int))) ∧ Below w.heap.size w w' := by
  have HB := Lib.hid ((Below.refl w.heap.size w).alloc (Nat.le_refl _) (.cells maskL.toArray 264))
  have HX := Lib.hid (heap_alloc_new w (.cells maskL.toArray 264))
  have HL := Lib.hid ((rd_of_heap (n := 6) HX.out rfl (by simp [maxLen])).cell _ rfl)
  unfold maskL at HB HX
  go_enter Tryz.func208, Tryz.ntmps208
  go_wp2_with (first
    | (refine wpL_load_rd rfl 264 (.tmp 3) rfl _ rfl maskL _ HL.out Tryz.underlying264 rfl (by kernel_rfl) ?_))
  go_loopw [0, 8] (fun v0 v8 wr => ∃ (i y : Nat), i ≤ 6 ∧ v0 = .int .u64 (y : Int) ∧ v8 = .int .i64 (i : Int) ∧ Hid (y = cto x i) ∧ Hid (Below w.heap.size w wr)) (fun _ v8 _ => 6 - (intOf v8).toNat)
  case atStart => exact ⟨0, x, by omega, rfl, rfl, Lib.hid rfl, HB⟩
  case round =>
    clear HB HX HL
    obtain ⟨i, y, hi, rfl, rfl, HY, HB⟩ := hrel
    have hyl : y < 18446744073709551616 := by rw [HY.out]; exact cto_lt x hx i hi
    obtain rfl | rfl | rfl | rfl | rfl | rfl | rfl : i = 0 ∨ i = 1 ∨ i = 2 ∨ i = 3 ∨ i = 4 ∨ i = 5 ∨ i = 6 := by omega
    · have HN : Hid (IntKind.u64.wrap (bits BinOp.and IntKind.u64 (y : Int) 6148914691236517205 + bits BinOp.and IntKind.u64 ((y : Int) / 2) 6148914691236517205) = ((cto x (0 + 1) : Nat) : Int)) := Lib.hid ((cnt_eq y 6148914691236517205 2 hyl (by omega)).trans (by rw [HY.out]; rfl))
      have hidx : ∀ W, (Instr.index 264 (.agg maskL.toArray) (.int .i64 0)).run Tryz.prog W = .ok (.int .u64 6148914691236517205) W := fun W => by kernel_rfl
      go_wp2_with fail
      go_roundw
      case rel => exact ⟨0 + 1, cto x (0 + 1), by omega, by rw [HN.out], rfl, Lib.hid rfl, HB⟩
      case measure => simp [intOf] <;> omega
    · have HN : Hid (IntKind.u64.wrap (bits BinOp.and IntKind.u64 (y : Int) 3689348814741910323 + bits BinOp.and IntKind.u64 ((y : Int) / 4) 3689348814741910323) = ((cto x (1 + 1) : Nat) : Int)) := Lib.hid ((cnt_eq y 3689348814741910323 4 hyl (by omega)).trans (by rw [HY.out]; rfl))
      have hidx : ∀ W, (Instr.index 264 (.agg maskL.toArray) (.int .i64 1)).run Tryz.prog W = .ok (.int .u64 3689348814741910323) W := fun W => by kernel_rfl
      go_wp2_with fail
      go_roundw
      case rel => exact ⟨1 + 1, cto x (1 + 1), by omega, by rw [HN.out], rfl, Lib.hid rfl, HB⟩
      case measure => simp [intOf] <;> omega
    · have HN : Hid (IntKind.u64.wrap (bits BinOp.and IntKind.u64 (y : Int) 1085102592571150095 + bits BinOp.and IntKind.u64 ((y : Int) / 16) 1085102592571150095) = ((cto x (2 + 1) : Nat) : Int)) := Lib.hid ((cnt_eq y 1085102592571150095 16 hyl (by omega)).trans (by rw [HY.out]; rfl))
      have hidx : ∀ W, (Instr.index 264 (.agg maskL.toArray) (.int .i64 2)).run Tryz.prog W = .ok (.int .u64 1085102592571150095) W := fun W => by kernel_rfl
      go_wp2_with fail
      go_roundw
      case rel => exact ⟨2 + 1, cto x (2 + 1), by omega, by rw [HN.out], rfl, Lib.hid rfl, HB⟩
      case measure => simp [intOf] <;> omega
    · have HN : Hid (IntKind.u64.wrap (bits BinOp.and IntKind.u64 (y : Int) 71777214294589695 + bits BinOp.and IntKind.u64 ((y : Int) / 256) 71777214294589695) = ((cto x (3 + 1) : Nat) : Int)) := Lib.hid ((cnt_eq y 71777214294589695 256 hyl (by omega)).trans (by rw [HY.out]; rfl))
      have hidx : ∀ W, (Instr.index 264 (.agg maskL.toArray) (.int .i64 3)).run Tryz.prog W = .ok (.int .u64 71777214294589695) W := fun W => by kernel_rfl
      go_wp2_with fail
      go_roundw
      case rel => exact ⟨3 + 1, cto x (3 + 1), by omega, by rw [HN.out], rfl, Lib.hid rfl, HB⟩
      case measure => simp [intOf] <;> omega
    · have HN : Hid (IntKind.u64.wrap (bits BinOp.and IntKind.u64 (y : Int) 281470681808895 + bits BinOp.and IntKind.u64 ((y : Int) / 65536) 281470681808895) = ((cto x (4 + 1) : Nat) : Int)) := Lib.hid ((cnt_eq y 281470681808895 65536 hyl (by omega)).trans (by rw [HY.out]; rfl))
      have hidx : ∀ W, (Instr.index 264 (.agg maskL.toArray) (.int .i64 4)).run Tryz.prog W = .ok (.int .u64 281470681808895) W := fun W => by kernel_rfl
      go_wp2_with fail
      go_roundw
      case rel => exact ⟨4 + 1, cto x (4 + 1), by omega, by rw [HN.out], rfl, Lib.hid rfl, HB⟩
      case measure => simp [intOf] <;> omega
    · have HN : Hid (IntKind.u64.wrap (bits BinOp.and IntKind.u64 (y : Int) 4294967295 + bits BinOp.and IntKind.u64 ((y : Int) / 4294967296) 4294967295) = ((cto x (5 + 1) : Nat) : Int)) := Lib.hid ((cnt_eq y 4294967295 4294967296 hyl (by omega)).trans (by rw [HY.out]; rfl))
      have hidx : ∀ W, (Instr.index 264 (.agg maskL.toArray) (.int .i64 5)).run Tryz.prog W = .ok (.int .u64 4294967295) W := fun W => by kernel_rfl
      go_wp2_with fail
      go_roundw
      case rel => exact ⟨5 + 1, cto x (5 + 1), by omega, by rw [HN.out], rfl, Lib.hid rfl, HB⟩
      case measure => simp [intOf] <;> omega
    · go_wp2_with fail
      go_ret
      rw [HY.out]
      exact ⟨rfl, HB.out⟩
theorem c_Lowest (k j : Nat) (h : 2 ^ k * (2 * j + 1) < 2 ^ 64) (w : World) : Calls Tryz.prog 190 #[.int .u64 ((2 ^ k * (2 * j + 1) : Nat) : Int)] w fun e w' => e = .returned (.tuple #[.int .i64 (k : Int), .bool true]) ∧ Below w.heap.size w w' := by
  have hk := (form_lt h).1
  have hla := low_and h
  have hp : 0 < 2 ^ k := Nat.two_pow_pos k
  have hpl : 2 ^ k < 18446744073709551616 := pow_lt hk
  have hm : 0 < 2 ^ k * (2 * j + 1) := Nat.mul_pos hp (by omega)
  have hcl := count_low k hk
  have hc := fun (z : Int) (hz : z = ((2 ^ k - 1 : Nat) : Int)) w => by
    have := c_Count (2 ^ k - 1) (by omega) w
    rw [hcl, ← hz, show wrap64 ((k : Nat) : Int) = (k : Int) from by unfold wrap64; omega] at this
    exact this
  generalize 2 ^ k * (2 * j + 1) = m at *
  have h64 : m < 18446744073709551616 := by simpa using h
  have hand : bits BinOp.and IntKind.u64 (m : Int) (18446744073709551616 - (m : Int)) = ((2 ^ k : Nat) : Int) := by
    have := u64_and_nat m (18446744073709551616 - m) h64 (by omega)
    rw [show (2 : Nat) ^ 64 = 18446744073709551616 from rfl] at hla
    rw [hla] at this
    rw [← this]
    congr 1
    omega
  have hmz : ((m : Int) == 0) = false := by simp; omega
  generalize 2 ^ k = P at *
  have hwr : IntKind.u64.wrap (-(m : Int)) = 18446744073709551616 - (m : Int) := by
    simp only [IntKind.wrap, IntKind.bits, IntKind.signed]
    simp
    omega
  have Hc := Lib.hid hc
  clear hcl hc hla h
  go_enter Tryz.func190, Tryz.ntmps190
  go_wp2_with (first
    | (go_at_call 208
       refine (Hc.out _ (by omega) _).mono ?_
       rintro e w2 ⟨rfl, hb2⟩
       have HB := Lib.hid hb2
       clear hb2)
    | (simp only [hwr])
    | (simp only [hand]))
  go_ret2
  exact ⟨rfl, HB.out⟩
theorem and_two_pow (m k : Nat) : m &&& 2 ^ k = if m.testBit k = true then 2 ^ k else 0 := by
  refine Nat.eq_of_testBit_eq fun i => ?_
  rw [Nat.testBit_and, Nat.testBit_two_pow]
  by_cases h : k = i
  · subst h
    cases hb : m.testBit k <;> simp [hb]
  · cases hb : m.testBit k <;> simp [h, Nat.testBit_two_pow]
theorem c_HasE (m : Nat) (hm : m < 18446744073709551616) (x : Int) (w : World) : Calls Tryz.prog 153 #[.int .u64 (m : Int), .int .i64 x] w fun e w' => e = .returned (.bool (has m x)) ∧ w = w' := by
  have ho := fun w => Dirty.c_One x w
  have hv : ((bits BinOp.and IntKind.u64 (m : Int) (if 0 ≤ x ∧ x < 64 then ((2 ^ x.toNat : Nat) : Int) else 0)) != 0) = has m x := by
    unfold has
    by_cases h : 0 ≤ x ∧ x < 64
    · rw [if_pos h, u64_and_nat m (2 ^ x.toNat) hm (pow_lt (by omega)), and_two_pow, decide_eq_true h]
      have hp : 0 < 2 ^ x.toNat := Nat.two_pow_pos _
      cases hb : m.testBit x.toNat
      · simp
      · rw [if_pos rfl]
        exact bne_iff_ne.2 (by omega)
    · rw [if_neg h, decide_eq_false h]
      have := u64_and_nat m 0 hm (by omega)
      rw [show ((0 : Nat) : Int) = 0 from rfl] at this
      rw [this]
      simp
  generalize (if 0 ≤ x ∧ x < 64 then ((2 ^ x.toNat : Nat) : Int) else 0) = P at *
  go_enter Tryz.func153, Tryz.ntmps153
  go_wp2_with (first
    | (go_at_call 120
       (with_reducible refine (ho _).mono ?_)
       rintro e w1 ⟨rfl, rfl⟩))
  go_ret
  exact ⟨rfl, rfl⟩
/-- the first n bits, as a word -/
def row (n : Int) : Nat := if n < 1 then 0 else if n < 64 then 2 ^ n.toNat - 1 else 18446744073709551615
theorem row_wrap {y : Nat} (h : y < 18446744073709551616) (h0 : 0 < y) : IntKind.u64.wrap (IntKind.u64.wrap (IntKind.u64.wrap (y : Int) - 1)) = ((y - 1 : Nat) : Int) := by
  simp only [IntKind.wrap, IntKind.bits, IntKind.signed]
  simp
  omega
theorem c_Row (n : Int) (w : World) (hn : n < 9223372036854775807) : Calls Tryz.prog 104 #[.int .i64 0, .int .i64 n] w fun e w' => e = .returned (.int .u64 (row n : Int)) ∧ w = w' := by
  have hi := fun w => Dirty.c_in 0 w
  rw [show decide ((0 : Int) ≤ 0 ∧ (0 : Int) < 64) = true from by decide] at hi
  unfold row
  by_cases h1 : n < 1
  · rw [if_pos h1]
    go_enter Tryz.func104, Tryz.ntmps104
    go_wp2_with (first
    | (go_at_call 155
       (with_reducible refine (hi _).mono ?_)
       rintro e w1 ⟨rfl, rfl⟩)
    )
    go_ret
    exact ⟨rfl, rfl⟩
  · rw [if_neg h1]
    by_cases h2 : n < 64
    · rw [if_pos h2]
      have hp := pow_lt (k := n.toNat) (by omega)
      have hp0 : 0 < 2 ^ n.toNat := Nat.two_pow_pos _
      go_enter Tryz.func104, Tryz.ntmps104
      go_wp2_with (first
      | (go_at_call 155
         (with_reducible refine (hi _).mono ?_)
         rintro e w1 ⟨rfl, rfl⟩)
      )
      go_ret
      refine ⟨?_, rfl⟩
      show Ending.returned (Value.int IntKind.u64 (IntKind.u64.wrap (IntKind.u64.wrap (IntKind.u64.wrap (2 ^ n.toNat) - 1)))) = _
      rw [show ((2 : Int) ^ n.toNat) = ((2 ^ n.toNat : Nat) : Int) by norm_cast, row_wrap hp hp0]
    · rw [if_neg h2]
      go_enter Tryz.func104, Tryz.ntmps104
      go_wp2_with (first
      | (go_at_call 155
         (with_reducible refine (hi _).mono ?_)
         rintro e w1 ⟨rfl, rfl⟩)
      )
      go_ret
      exact ⟨rfl, rfl⟩
end Go.Proofs.YtaldlapnhhhclaaGreat.Bt
/- A loop over an iterator that turns blocks of its own between two rounds (a variable that it captured), whose body never leaves. Conditions: none. -/
namespace Go.Proofs.YtaldlapnhhhclaaGreat.Tw
open Go.RowKit Go.Shelf
set_option maxHeartbeats 1000000
/-- what is stable where blocks of T, and blocks from B on, are turned -/
def TurnsOk {α : Type} (T : Nat → Prop) (B : Nat) (J : List α → World → Prop) : Prop :=
  ∀ (pre : List α) (X Y : World) (row : Option Nat), J pre X → X.grownBy Y row → (∀ r, row = some r → T r ∨ (B ≤ r ∧ ∃ o : Obj, X.heap[r]? = some o ∧ o.isCells = false)) → J pre Y
/-- the contract of such an iterator -/
def SeqTurns {α : Type} (F : Fence) (n : Nat) (P : Program) (gf : Nat) (lb : Array Value) (encs : α → Array Value) (T : Nat → Prop) (Kp : World → World → Prop) (all : List α) (N : Nat) (w : World) : Prop :=
  ∀ (l : Nat) (J : List α → World → Prop) (W : World), Below w.heap.size w W → TurnsOk T W.heap.size J →
    (∀ pre x W1, J pre W1 → pre.length < N → YieldAt F (n - 1) P l (encs x) W1 fun e W' => e = .returned (.bool true) ∧ J (pre ++ [x]) W' ∧ Kp W1 W') →
    J [] W → CallsIn F n P gf (#[.func (.yield l) #[] #[]] ++ lb) W fun e W' => (∃ v, e = .returned v) ∧ J all W'
theorem wpIn_range_turn {F : Fence} {n : Nat} {P : Program} {α : Type} {g : Operand} {ps : Array Tmp} {assign body : Code} {Q : Exit → Act → World → Prop} {a : Act} {w : World}
    (hro : F.round = none) (h1 : 1 ≤ n) {gf : Nat} {lb : Array Value} (hg : a.eval g = .func (.func gf) #[] lb) (hFg : F.fn gf) (eg : ∀ args w, (callFunc gf args).run P w = .ok (.enter gf args) w)
    {encs : α → Array Value} (hps : ∀ x, (encs x).size = ps.size) {T : Nat → Prop} (hT : ∀ k, T k → k < w.heap.size) {Kp : World → World → Prop} {all : List α} {N : Nat}
    (hseq : SeqTurns F (n - 1) P gf lb encs T Kp all N w)
    (hKt : ∀ {A B C : World}, Kp A B → Kp B C → Kp A C) (hKb : ∀ (W : World) (l : Nat) (o o' : Obj), w.heap.size ≤ l → W.heap[l]? = some o → Kp W (W.putObj l o'))
    (I : List α → World → Prop) (hI : TurnsOk T w.heap.size I) (h0 : I [] w) (a₁ : α → Act)
    (hassign : ∀ (l : Nat) (x : α) (W : World) (K : Act → World → Prop), K (a₁ x) W →
      assign.wpIn (F.inRound l) (n - 1 - 1) P (Exit.then K (fun _ _ _ => False)) { tmps := (ps.zip (encs x)).foldl (fun t (p, v) => t.setIfInBounds p v) a.tmps, defers := [] } W)
    (hbody : ∀ (l : Nat) (pre : List α) (x : α) (W : World), I pre W → pre.length < N →
      body.wpIn (F.inRound l) (n - 1 - 1) P (fun e _ W' => e = .normal ∧ KeepsFrom w.heap.size W W' ∧ Kp W W' ∧ I (pre ++ [x]) W') (a₁ x) W)
    (hdone : ∀ (D : Nat) (W : World), w.heap.size ≤ D → I all W → W.heap[D]? = some (.deferred (some [])) → Q .normal { a with defers := { target := .collected D, args := #[] } :: a.defers } W) :
    (Code.rangeFunc g ps assign body).wpIn F n P Q a w := by
  refine wpIn_rangeFunc fun fn hfn => ?_
  rw [hro]
  obtain ⟨R, hR⟩ : ∃ R : LoopState → Loop, R = fun st => { state := st, pending := none, fn := fn, tmps := a.tmps, params := ps, assign := assign, body := body, defers := w.heap.size } := ⟨_, rfl⟩
  obtain ⟨V, hV⟩ : ∃ V, V = (w.alloc (.deferred (some []))).alloc (.loop (R .ready)) := ⟨_, rfl⟩
  have hsV : V.heap.size = w.heap.size + 2 := by rw [hV]; simp
  have hbV : Below w.heap.size w V := by rw [hV]; exact ((Below.refl _ w).alloc (Nat.le_refl _) _).alloc (by simp) _
  have hlV : V.heap[w.heap.size + 1]? = some (.loop (R .ready)) := by
    rw [hV]
    have h := World.alloc_heap_new (w.alloc (.deferred (some []))) (.loop (R .ready))
    rwa [World.size_alloc] at h
  have hdV : V.heap[w.heap.size]? = some (.deferred (some [])) := by
    rw [hV]
    exact (Below.heap_alloc _ _ _ (by simp)).trans (World.alloc_heap_new w _)
  have hIV : I [] V := by
    rw [hV]
    exact hI _ _ _ none (hI _ _ _ none h0 (World.grownBy_alloc _ _ _) (fun _ e => by cases e)) (World.grownBy_alloc _ _ _) (fun _ e => by cases e)
  have put : ∀ (pre : List α) (W : World) (L : Loop) (o : Obj), W.heap[w.heap.size + 1]? = some (.loop L) → I pre W → I pre (W.putObj (w.heap.size + 1) o) := fun pre W L o hl h =>
    hI pre W _ (some (w.heap.size + 1)) h (grownBy_putObj' W _ o) (fun r e => by injection e with e; subst e; exact .inr ⟨Nat.le_succ _, _, hl, rfl⟩)
  refine ⟨w.heap.size + 1, [{ target := .collected w.heap.size, args := #[] }], V, { target := .fn (.func gf) lb, args := #[.func (.yield (w.heap.size + 1)) #[] #[]] }, V, gf,
    #[.func (.yield (w.heap.size + 1)) #[] #[]] ++ lb, V, ?_, ?_, ?_, ?_, fun _ => h1, ?_⟩
  · rw [hV, hR]
    exact run_enterLoop_outer _ _ _ _ _
  · simp only [resolve, hg]
    simp [go_sem]
  · intro f' hf'
    simp [Target.leads] at hf'
    subst hf'
    exact hFg
  · simp [invoke, go_sem, eg]
  · refine (hseq (w.heap.size + 1) (fun pre W => I pre W ∧ W.heap[w.heap.size + 1]? = some (.loop (R .ready)) ∧ W.heap[w.heap.size]? = some (.deferred (some []))) V hbV ?_ ?_ ⟨hIV, hlV, hdV⟩).mono ?_
    · rintro pre X Y row ⟨hi, hl, hd⟩ hgr hrow
      have hk : ∀ k, k = w.heap.size ∨ k = w.heap.size + 1 → some k ≠ row := fun k hk e => by
        rcases hrow k e.symm with h | h
        · have := hT k h
          omega
        · omega
      exact ⟨hI pre X Y row hi hgr fun r e => (hrow r e).imp id fun h => ⟨by omega, h.2⟩,
        (hgr.block _ (Array.getElem?_eq_some_iff.1 hl).1 (fun e => hk _ (.inr rfl) e)).trans hl, (hgr.block _ (Array.getElem?_eq_some_iff.1 hd).1 (fun e => hk _ (.inl rfl) e)).trans hd⟩
    · rintro pre x W ⟨hi, hl, hd⟩ hlen
      have hlt : w.heap.size + 1 < W.heap.size := (Array.getElem?_eq_some_iff.1 hl).1
      have hy := run_yield (P := P) (args := encs x) hl (by rw [hR]; exact hps x)
      rw [hR] at hy
      refine ⟨fn, _, assign, body, hy, roundIn_of_wpIn hfn (hassign _ x W _ ⟨_, run_beginRound hl (by rw [hR]), ?_⟩)⟩
      obtain ⟨O, hO⟩ : ∃ O : Loop, O = { R .ready with state := .busy } := ⟨_, rfl⟩
      rw [← hO]
      have hl2 : (W.putObj (w.heap.size + 1) (.loop O)).heap[w.heap.size + 1]? = some (.loop O) := World.putObj_heap_same hlt
      have hd2 : (W.putObj (w.heap.size + 1) (.loop O)).heap[w.heap.size]? = some (.deferred (some [])) := (World.putObj_heap_other (by omega)).trans hd
      refine wpIn_mono (hbody _ pre x _ (put pre W _ _ hl hi) hlen) ?_
      rintro e a3 W3 ⟨rfl, hk3, hkp3, hi3⟩
      have hl3 := hk3.same _ _ (Nat.le_succ _) hl2 rfl
      have hd3 := hk3.same _ _ (Nat.le_refl _) hd2 rfl
      have hr := run_endRound (P := P) none hl3
      have hOR : ({ O with state := if (none : Option Code).isNone then .ready else .done, pending := none } : Loop) = R .ready := by rw [hO, hR]; rfl
      rw [hOR] at hr
      refine ⟨_, _, hr, rfl, ⟨put _ _ _ _ hl3 hi3, World.putObj_heap_same (Array.getElem?_eq_some_iff.1 hl3).1, (World.putObj_heap_other (by omega)).trans hd3⟩, ?_⟩
      exact hKt (hKt (hKb _ _ _ _ (Nat.le_succ _) hl) hkp3) (hKb _ _ _ _ (Nat.le_succ _) hl3)
    · rintro e W2 ⟨⟨v, rfl⟩, hi, hl, hd⟩
      have he := run_endLoop (P := P) hl (by rw [hR]; simp)
      refine ⟨none, _, by rw [hR] at he; exact he, hdone w.heap.size _ (Nat.le_refl _) (put _ _ _ _ hl hi) ((World.putObj_heap_other (by omega)).trans hd)⟩
end Go.Proofs.YtaldlapnhhhclaaGreat.Tw
/- A loop over an iterator whose variable lies in a block of its own. Conditions: none. -/
namespace Go.Proofs.YtaldlapnhhhclaaGreat.Tw
open Go.RowKit Go.Shelf

/-- a block of cells is cells, whatever is not turns -/
theorem cells_own {β : Type} (B : Nat) (t : TypeId) (f : β → Array Value) : Go.Own (fun s W => W.heap[B]? = some (.cells (f s) t (0, 0))) := fun s X Y row hs hg hrow => by
  have hs' : X.heap[B]? = some (.cells (f s) t (0, 0)) := hs
  have hlt := (Array.getElem?_eq_some_iff.1 hs').1
  exact (hg.block B hlt (fun e' => by obtain ⟨o, ho, hc⟩ := hrow B e'.symm; rw [hs'] at ho; cases ho; cases hc)).trans hs'

theorem fold_one (p : Tmp) (v : Value) (T : Array Value) : ((#[p] : Array Tmp).zip #[v]).foldl (fun t (p, v) => t.setIfInBounds p v) T = T.setIfInBounds p v := by simp
theorem fold_two (p q : Tmp) (u v : Value) (T : Array Value) : ((#[p, q] : Array Tmp).zip #[u, v]).foldl (fun t (p, v) => t.setIfInBounds p v) T = (T.setIfInBounds p u).setIfInBounds q v := by simp
theorem wpIn_range_box {F : Fence} {n : Nat} {P : Program} {α : Type} {g : Operand} {ps : Array Tmp} {assign body : Code} {Q : Exit → Act → World → Prop} {a : Act} {w : World}
    (hro : F.round = none) (h1 : 1 ≤ n) {gf : Nat} {lb : Array Value} (hg : a.eval g = .func (.func gf) #[] lb) (hFg : F.fn gf) (eg : ∀ args w, (callFunc gf args).run P w = .ok (.enter gf args) w)
    {encs : α → Array Value} {Kp : World → World → Prop} {S Sp : List α → Prop} {N : Nat} {w0 : World} (hseq : SeqStopsK F (n - 1) P gf lb encs Kp S Sp N w0)
    (hKt : ∀ {A B C : World}, Kp A B → Kp B C → Kp A C) (hKb : ∀ (W : World) (l : Nat) (o o' : Obj), w.heap.size ≤ l → W.heap[l]? = some o → o.isCells = false → o.isWalk = false → Kp W (W.putObj l o')) (hb0 : Below w0.heap.size w0 w) (hps : ∀ x, (encs x).size = ps.size)
    (I : List α → World → Prop) (Ix : Code → List α → World → Prop) (hI : OwnFrom w.heap.size I) (hIx : ∀ c, OwnFrom w.heap.size (Ix c)) (h0 : I [] w) (t : TypeId) (cellsOf : α → Array Value) (slot : Nat)
    (hassign : ∀ (l : Nat) (pre : List α) (x : α) (W : World) (K : Act → World → Prop), I pre W → (∀ Bx W', w.heap.size ≤ Bx → W'.heap[Bx]? = some (.cells (cellsOf x) t (0, 0)) → KeepsFrom w.heap.size W W' → Kp W W' → I pre W' →
        K { tmps := ((ps.zip (encs x)).foldl (fun t (p, v) => t.setIfInBounds p v) a.tmps).setIfInBounds slot (.pointer (some ⟨Bx, 0, none⟩)), defers := [] } W') →
      assign.wpIn (F.inRound l) (n - 1 - 1) P (Exit.then K (fun _ _ _ => False)) { tmps := (ps.zip (encs x)).foldl (fun t (p, v) => t.setIfInBounds p v) a.tmps, defers := [] } W)
    (hbody : ∀ (l : Nat) (pre : List α) (x : α) (Bx : Nat) (W : World), w.heap.size ≤ l → (∃ r, W.heap[l]? = some (.loop r)) → I pre W → w.heap.size ≤ Bx → W.heap[Bx]? = some (.cells (cellsOf x) t (0, 0)) → pre.length < N →
      body.wpIn (F.inRound l) (n - 1 - 1) P (ownPostG w.heap.size Kp I Ix (pre ++ [x]) W) { tmps := ((ps.zip (encs x)).foldl (fun t (p, v) => t.setIfInBounds p v) a.tmps).setIfInBounds slot (.pointer (some ⟨Bx, 0, none⟩)), defers := [] } W)
    (hdone : ∀ (D : Nat) (xs : List α) (W : World), w.heap.size ≤ D → S xs → I xs W → W.heap[D]? = some (.deferred (some [])) → Q .normal { a with defers := { target := .collected D, args := #[] } :: a.defers } W)
    (hstop : ∀ (D : Nat) (c : Code) (pre : List α) (W : World), w.heap.size ≤ D → Sp pre → Ix c pre W → W.heap[D]? = some (.deferred (some [])) → c.wpIn F n P Q { a with defers := { target := .collected D, args := #[] } :: a.defers } W) :
    (Code.rangeFunc g ps assign body).wpIn F n P Q a w := by
  refine wpIn_rangeFunc_ownH hro h1 hg hFg eg hseq hKt hKb hb0 hps I Ix hI hIx h0
    (fun x a' W => ∃ Bx, w.heap.size ≤ Bx ∧ W.heap[Bx]? = some (.cells (cellsOf x) t (0, 0)) ∧ a' = { tmps := ((ps.zip (encs x)).foldl (fun t (p, v) => t.setIfInBounds p v) a.tmps).setIfInBounds slot (.pointer (some ⟨Bx, 0, none⟩)), defers := [] })
    (fun x a' _ X Y row hs hg hr => by
      obtain ⟨Bx, h1, h2, h3⟩ := hs
      exact ⟨Bx, h1, cells_own Bx t (fun (_ : Unit) => cellsOf x) () X Y row h2 hg (fun r e => (hr r e).2), h3⟩)
    (fun l pre x W K hi hK => hassign l pre x W K hi fun Bx W' e1 e2 e3 e4 e5 => hK _ W' e3 e4 e5 ⟨Bx, e1, e2, rfl⟩)
    (fun l pre x a' W hl hr hi hx hlt => by
      obtain ⟨Bx, h1, h2, rfl⟩ := hx
      exact hbody l pre x Bx W hl hr hi h1 h2 hlt)
    hdone hstop
end Go.Proofs.YtaldlapnhhhclaaGreat.Tw
/- Contracts of the package bits: each (an iterator that turns its own word), List. Conditions: none. -/
namespace Go.Proofs.YtaldlapnhhhclaaGreat.Bt
open Go.RowKit Go.Shelf Tw
attribute [local go_sem] Oper.semAt_some
set_option maxHeartbeats 2000000
set_option maxRecDepth 100000
theorem c_LowestM (m k j : Nat) (hm : m = 2 ^ k * (2 * j + 1)) (h : m < 2 ^ 64) (w : World) : Calls Tryz.prog 190 #[.int .u64 (m : Int)] w fun e w' => e = .returned (.tuple #[.int .i64 (k : Int), .bool true]) ∧ Below w.heap.size w w' := by
  subst hm
  exact c_Lowest k j h w
def KpB (B : Nat) (W W' : World) : Prop := W'.heap[B]? = W.heap[B]?
/-- how much is left, as the loop's measure -/
def leftIn (B : Nat) (W : World) : Nat := match W.cell? ⟨B, 0, none⟩ with | some (.int _ z) => z.toNat | _ => 0
theorem next_lt {k j : Nat} : 2 ^ (k + 1) * j < 2 ^ k * (2 * j + 1) := by
  have hp : 0 < 2 ^ k := Nat.two_pow_pos k
  rw [Nat.mul_add, Nat.pow_succ, Nat.mul_one, Nat.mul_assoc]
  omega
theorem upTo_zero : upTo 0 64 = [] := by decide
theorem each1_in (n : Nat) (hn : 1 ≤ n) (l B m : Nat) (hm : m < 18446744073709551616) (J : List Nat → World → Prop) (W : World) (hJ : TurnsOk (fun k => k = B) W.heap.size J)
    (hY : ∀ pre x W1, J pre W1 → pre.length < 64 → YieldAt Fence.wide (n - 1) Tryz.prog l #[.int .i64 ((x : Nat) : Int)] W1 fun e W' => e = .returned (.bool true) ∧ J (pre ++ [x]) W' ∧ KpB B W1 W')
    (hb : Boxed W B 22 (.int .u64 (m : Int))) (h0 : J [] W) :
    CallsIn Fence.wide n Tryz.prog 189 #[.func (.yield l) #[] #[], .pointer (some ⟨B, 0, none⟩)] W fun e' W' => (∃ v, e' = .returned v) ∧ J (upTo m 64) W' := by
  refine callsIn_of_wp Tryz.func189 rfl trivial ?_ rfl
  simp only [Tryz.ntmps189, List.size_toArray, List.length_cons, List.length_nil, Nat.reduceAdd, Nat.reduceSub, Array.replicate_succ, Array.replicate_zero, List.push_toArray, List.append_toArray, List.nil_append, List.cons_append]
  have hB := hb.lt
  gi_wp2
  gi_loopw [3] (fun _ wr => ∃ (r : Nat) (pre : List Nat), Hid (pre ++ upTo r 64 = upTo m 64) ∧ Hid (r < 18446744073709551616) ∧ Hid (Boxed wr B 22 (.int .u64 (r : Int))) ∧ Hid (J pre wr)) (fun _ wr => leftIn B wr)
  case atStart => exact ⟨m, [], Lib.hid rfl, Lib.hid hm, Lib.hid hb, Lib.hid h0⟩
  case round =>
    clear hb h0
    obtain ⟨r, pre, HP, HR, HB, HJ⟩ := hrel
    have c0 := HB.out.cell
    by_cases hr0 : r = 0
    · subst hr0
      gi_wp2
      go_end0
      exact ⟨⟨_, rfl⟩, by have h1 := HP.out; rw [upTo_zero, List.append_nil] at h1; rw [← h1]; exact HJ.out⟩
    · obtain ⟨k, j, hkj⟩ := low_form r (by omega)
      have hr64 : r < 2 ^ 64 := HR.out
      have hpl : pre.length < 64 := by
        have h1 := congrArg List.length HP.out
        rw [List.length_append, hkj, upTo_form (by rw [← hkj]; exact hr64), List.length_cons] at h1
        have := upTo_len m 64
        omega
      have hup := upTo_form (k := k) (j := j) (by rw [← hkj]; exact hr64)
      rw [← hkj] at hup
      have hpa := pred_and (k := k) (j := j)
      rw [← hkj] at hpa
      have hnl := next_lt (k := k) (j := j)
      rw [← hkj] at hnl
      generalize 2 ^ (k + 1) * j = r2 at *
      have HP2 : Hid ((pre ++ [k]) ++ upTo r2 64 = upTo m 64) := Lib.hid (by rw [← HP.out, hup, List.append_assoc]; rfl)
      have hand : bits BinOp.and IntKind.u64 (r : Int) ((r : Int) - 1) = (r2 : Int) := by
        have := u64_and_nat r (r - 1) HR.out (by omega)
        rw [hpa] at this
        rw [← this]
        congr 1
        omega
      have hne : ((r : Int) != 0) = true := by simp; omega
      have HK := Lib.hid hkj
      have HN := Lib.hid hnl
      clear hup hpa hkj hnl
      gi_wp2_with (fail)
      refine ⟨trivial, ?_⟩
      refine (callsIn_wide.2 (c_LowestM r k j HK.out hr64 _)).mono ?_
      rintro e w1 ⟨rfl, hb1⟩
      have HB1 : Hid (Boxed w1 B 22 (.int .u64 (r : Int))) := Lib.hid ((hb1.block _ HB.out.lt).trans HB.out)
      have HJ1 : Hid (J pre w1) := Lib.hid (hJ _ _ _ none HJ.out (grown_bel hb1) (fun _ e => by cases e))
      have c1 := HB1.out.cell
      have c2 := HB1.out.frozen
      clear c0 hb1
      have HB2 := Lib.hid (HB1.out.set (.int .u64 (r2 : Int)))
      have HJ2 : Hid (J pre (w1.setCell ⟨B, 0, none⟩ (.int .u64 (r2 : Int)))) := Lib.hid (hJ _ _ _ (some B) HJ1.out (grownBy_setCell' w1 B _) (fun q e => by injection e with e; subst e; exact .inl rfl))
      obtain ⟨fn, tmps, assign, body, hy, hRd⟩ := hY pre k _ HJ2.out hpl
      have HRd := Lib.hid hRd
      clear hRd hY
      gi_wp2_with (fail)
      refine HRd.out.mono ?_
      rintro e' W3 ⟨rfl, hJ3, hk3⟩
      have HJ3 := Lib.hid hJ3
      have HB3 : Hid (Boxed W3 B 22 (.int .u64 (r2 : Int))) := Lib.hid (hk3.trans HB2.out)
      clear hJ3 hk3 HRd
      gi_wp2
      go_roundw
      case rel => exact ⟨r2, pre ++ [k], HP2, Lib.hid (Nat.lt_trans HN.out HR.out), HB3, HJ3⟩
      case measure =>
        have e1 := HB3.out.cell
        have e2 := HB.out.cell
        have := HN.out
        simp only [leftIn, e1, e2]
        omega
theorem each_in (n : Nat) (m : Nat) (w : World) :
    CallsIn Fence.wide n Tryz.prog 176 #[.int .u64 (m : Int)] w fun r w' => r = .returned (.func (.func 189) #[] #[.pointer (some ⟨w.heap.size, 0, none⟩)]) ∧ w' = w.alloc (.cells #[.int .u64 (m : Int)] 22) := by
  refine callsIn_of_wp Tryz.func176 rfl trivial ?_ rfl
  simp only [Tryz.ntmps176, List.size_toArray, List.length_cons, List.length_nil, Nat.reduceAdd, Nat.reduceSub, Array.replicate_succ, Array.replicate_zero, List.push_toArray, List.append_toArray, List.nil_append, List.cons_append]
  have hmf : ∀ (fn : Fn) (first cap : Array Value) (w : World), (Instr.makeFunc fn first cap).run Tryz.prog w = .ok (.func fn first cap) w := fun _ _ _ _ => rfl
  gi_wp2
  go_ret
  exact ⟨rfl, rfl⟩
/-- what the loop keeps: the box of the list, and what it owns -/
def LI (w : World) (pre : List Nat) (W : World) : Prop := (∃ v, Boxed W w.heap.size 134 v ∧ W.ownsRow (w.heap.size + 2) 3 1 v pre.length (nsV pre)) ∧ Below w.heap.size w W ∧ w.heap.size + 2 ≤ W.heap.size
theorem LI.turns (w : World) : TurnsOk (fun k => k = w.heap.size + 1) (w.heap.size + 2) (LI w) := by
  rintro pre X Y row ⟨⟨v, hv, hr⟩, hB, hz⟩ hg hrow
  refine ⟨⟨v, hv.kept hg ?_, hr.kept hg ?_⟩, hB.grown hg hB.size ?_, Nat.le_trans hz hg.size⟩
  · intro e
    rcases hrow _ e.symm with h | ⟨h, _⟩ <;> omega
  · rcases hr.2 with ⟨rfl, _⟩ | ⟨g, cap, cur, rfl, hgb, hgc, _⟩
    · exact .inl rfl
    · refine .inr fun e => ?_
      rcases hrow g (by simpa [Value.ownBlock] using e.symm) with h | ⟨h, o, ho, hc⟩
      · omega
      · rw [hgc] at ho
        cases ho
        cases hc
  · intro k e
    rcases hrow k e with h | ⟨h, _⟩ <;> omega
theorem info_int2 : (Tryz.prog.info? 3).map (fun i => (i.zero, i.size, i.bytes)) = some (some (.int .i64 0), 1, 8) := by kernel_rfl
theorem own_shp {w : World} {base : Nat} {e : TypeId} {size : Nat} {v : Value} {n : Nat} {xs : List Value} (h : w.ownsRow base e size v n xs) : ∃ A c, v = .slice A n c := by
  rcases h.2 with ⟨rfl, rfl⟩ | ⟨g, cap, _, rfl, _⟩
  · exact ⟨_, _, rfl⟩
  · exact ⟨_, _, rfl⟩
theorem ownB_ne {w : World} {base : Nat} {e : TypeId} {size : Nat} {v : Value} {n : Nat} {xs : List Value} (h : w.ownsRow base e size v n xs) {B : Nat} (hB : B < base) : some B ≠ v.ownBlock := by
  rcases h.2 with ⟨rfl, _⟩ | ⟨g, cap, cur, rfl, hg, _⟩
  · simp [Value.ownBlock]
  · intro e
    have : B = g := by simpa [Value.ownBlock] using e
    omega
theorem appended2 {W w1 : World} {n0 B : Nat} {t e : TypeId} {size : Nat} {v v' : Value} {k m : Nat} {xs ys : List Value} {tmp : Obj} (hv : Boxed W B t v) (hrow : W.ownsRow n0 e size v k xs) (hn : n0 ≤ W.heap.size) (hB : B < n0)
    (hown' : w1.ownsRow n0 e size v' m ys) (hgrow : (W.alloc tmp).grownBy w1 v.ownBlock) :
    Boxed w1 B t v ∧ Boxed (w1.setCell ⟨B, 0, none⟩ v') B t v' ∧ (w1.setCell ⟨B, 0, none⟩ v').ownsRow n0 e size v' m ys ∧ KeepsOthers W (w1.setCell ⟨B, 0, none⟩ v') ∧ Fr (fun j => j = B ∨ n0 ≤ j) W (w1.setCell ⟨B, 0, none⟩ v') := by
  have hv1 : Boxed w1 B t v := (hv.alloc tmp).kept hgrow (ownB_ne hrow hB)
  have hown : ∀ j, some j = v.ownBlock → n0 ≤ j ∧ ∃ cur, W.heap[j]? = some (.cells cur e (0, 0)) := fun j ej => by
    rcases hrow.2 with ⟨rfl, _⟩ | ⟨g, cap, cur, rfl, hg, hgb, _⟩
    · simp [Value.ownBlock] at ej
    · obtain rfl : j = g := by simpa [Value.ownBlock] using ej
      exact ⟨hg, cur, hgb⟩
  refine ⟨hv1, hv1.set v', hown'.kept (grownBy_setCell' w1 B v') (.inr (ownB_ne hown' hB).symm), ?_, ?_⟩
  · refine ((KeepsOthers.alloc W tmp).trans (KeepsOthers.of_grownBy hgrow fun j o ej hj => ?_)).trans (KeepsOthers.setCell _ _ _)
    obtain ⟨_, cur, hc⟩ := hown j ej.symm
    rw [(Below.heap_alloc W tmp j (heap_lt hc)).trans hc] at hj
    cases hj
    rfl
  · refine ((Fr.alloc tmp).trans (Fr.grown (S := fun j => j = B ∨ n0 ≤ j) hgrow fun k e => .inr (hown k e).1) (fun _ _ e => e)).trans (Fr.grown (S := fun j => j = B ∨ n0 ≤ j) (grownBy_setCell' w1 B v') (fun k e => .inl (by injection e))) (fun _ _ e => e)
theorem List_in (n : Nat) (hn : 3 ≤ n) (m : Nat) (hm : m < 18446744073709551616) (w : World) :
    CallsIn Fence.wide n Tryz.prog 156 #[.int .u64 (m : Int)] w fun e W' => ∃ v, e = .returned v ∧ W'.ownsRow w.heap.size 3 1 v (upTo m 64).length (nsV (upTo m 64)) ∧ Below w.heap.size w W' := by
  have h1 : 1 ≤ n := by omega
  obtain ⟨i0, hi, hzi, hz1, hz2⟩ := info_parts info_int2
  refine callsIn_of_wp_marks Tryz.func156 rfl trivial ?_ rfl
  simp only [Tryz.ntmps156, List.size_toArray, List.length_cons, List.length_nil, Nat.reduceAdd, Nat.reduceSub, Array.replicate_succ, Array.replicate_zero, List.push_toArray, List.append_toArray, List.nil_append, List.cons_append]
  gi_wp2_with (fail)
  refine ⟨trivial, (each_in (n - 1) m _).mono ?_⟩
  rintro e w' ⟨rfl, rfl⟩
  gi_wp2_with (fail)
  have bL := (Boxed.new w 134 (.slice none 0 0)).alloc (.cells #[.int .u64 (m : Int)] 22)
  have bM := Boxed.new (w.alloc (.cells #[.slice none 0 0] 134)) 22 (.int .u64 (m : Int))
  simp only [World.size_alloc] at bM
  have hB0 : Below w.heap.size w ((w.alloc (.cells #[.slice none 0 0] 134)).alloc (.cells #[.int .u64 (m : Int)] 22)) := ((Below.refl _ w).alloc (Nat.le_refl _) _).alloc (by simp) _
  obtain ⟨W0, hW0⟩ : ∃ W0, ((w.alloc (.cells #[.slice none 0 0] 134)).alloc (.cells #[.int .u64 (m : Int)] 22)) = W0 := ⟨_, rfl⟩
  have hs0 : W0.heap.size = w.heap.size + 2 := by rw [← hW0]; simp
  (try simp only [World.size_alloc])
  rw [hW0] at bL bM hB0 ⊢
  clear hW0
  refine wpIn_range_turn (T := fun k => k = w.heap.size + 1) (Kp := KpB (w.heap.size + 1)) (all := upTo m 64) (N := 64) (encs := fun (x : Nat) => #[.int .i64 (x : Int)]) rfl h1 (gf := 189) (lb := #[.pointer (some ⟨w.heap.size + 1, 0, none⟩)]) rfl trivial (enters_of Tryz.func189 (by kernel_rfl) rfl) (fun _ => rfl) (fun k e => by omega)
    (fun l J W hW hJ hY h0 => each1_in (n - 1) (by omega) l (w.heap.size + 1) m hm J W hJ hY ((hW.block _ bM.lt).trans bM) h0)
    (fun {A B C} h k => Eq.trans k h) (fun W l o o' hl _ => World.putObj_heap_other (by omega))
    (LI w) (by rw [hs0]; exact LI.turns w) ⟨⟨_, bL, World.ownsRow_nil _ _ _ _⟩, hB0, by omega⟩ (fun x => { tmps := #[.int .u64 (m : Int), undef, .slice none 0 0, .pointer (some ⟨w.heap.size, 0, none⟩), .int .i64 (x : Int), .int .u64 (m : Int), .func (.func 189) #[] #[.pointer (some ⟨w.heap.size + 1, 0, none⟩)], .int .i64 (x : Int), undef, undef, undef, undef, undef], defers := [] }) ?assign ?body ?done
  case assign =>
    intro l x W K hK
    simp only [fold_one, List.setIfInBounds_toArray, List.set_cons_zero, List.set_cons_succ] at hK ⊢
    gi_wp2
    exact hK
  case body =>
    rintro l pre x W ⟨⟨v, hv, hrow⟩, hB, hz⟩ hlt
    have hc := hv.cell
    have hnew : ∀ j u, ([.int .i64 (x : Int)] : List Value)[j]? = some u → (W.alloc (.cells #[.int .i64 (x : Int)] 3)).cell? ((⟨W.heap.size, 0, none⟩ : Addr).add j) = some u := by
      intro j u hj
      have h := heap_alloc_new W (.cells #[.int .i64 (x : Int)] 3)
      rw [Addr.add_mid, Nat.zero_add]
      simp only [World.cell?, h]
      simpa using hj
    gi_wp2_with (gi_at_builtin; refine wpListIn_append_own _ rfl _ _ 134 rfl (w.heap.size + 2) 3 i0 _ 1 8 Tryz.underlying134 hi hzi hz1 hz2 rfl (by decide) v _ _ rfl (hrow.alloc _) ⟨W.heap.size, 0, none⟩ 1 1 [.int .i64 (x : Int)] rfl rfl hnew (by simp [Value.oneCell']) (by unfold maxLen; omega) (by omega) (by simp; omega) ?_; intro v' w1 hown' hgrow _; obtain ⟨g', cap', rfl⟩ := ownsRow_succ hown'; obtain ⟨hv1, hv2, hr2, hk2, hb2⟩ := appended2 hv hrow hz (by omega) hown' hgrow; have hc1 := hv1.cell; have hf1 := hv1.frozen)
    have hs0' : W0.heap.size ≤ W.heap.size := by omega
    have hf2 := hb2.block (w.heap.size + 1) (by omega) (by omega)
    (try simp only [Act.put, List.setIfInBounds_toArray, List.set_cons_zero, List.set_cons_succ])
    gi_wp2
    exact ⟨hk2.from _, hf2, ⟨_, hv2, by rw [List.length_append, nsV_append]; exact hr2⟩, hB.trans (hb2.bel (fun k e => by omega) hB.size), Nat.le_trans hz hb2.size⟩
  case done =>
    rintro D W hD ⟨⟨v, hv, hrow⟩, hB, hz⟩ hK
    obtain ⟨A, c, rfl⟩ := own_shp hrow
    have hc := hv.cell
    gi_wp2
    refine ⟨by simp, .inl ⟨_, _, rfl, run_takeDeferred hK, ?_⟩⟩
    have ho := ownsRow_putObj hrow (.deferred none) hK rfl
    exact ⟨_, results_tmp rfl _ _ _, _, rfl, Tw.Own.mono ho (by omega), hB.trans (belowK_b (w := w) (Nat.le_refl _) W D _ _ (by omega) hK rfl rfl)⟩
theorem c_List (m : Nat) (hm : m < 18446744073709551616) (w : World) : Calls Tryz.prog 156 #[.int .u64 (m : Int)] w fun e w' => ∃ A c, e = .returned (.slice A (upTo m 64).length c) ∧ Tw.Own w' w.heap.size 3 1 A (upTo m 64).length c (nsV (upTo m 64)) ∧ Below w.heap.size w w' := by
  refine (callsIn_wide.1 (List_in 3 (Nat.le_refl _) m hm w)).mono ?_
  rintro e W' ⟨v, rfl, hr, hB⟩
  obtain ⟨A, c, rfl⟩ := own_shp hr
  exact ⟨A, c, rfl, hr, hB⟩
end Go.Proofs.YtaldlapnhhhclaaGreat.Bt
/- Small words that several packages use: boxes, whole stores, bytes.Clone and bytes.Equal, numbers as bytes. Conditions: none. -/
namespace Go.Proofs.YtaldlapnhhhclaaGreat.Bx
open Go.RowKit Tw
set_option maxHeartbeats 8000000
set_option maxRecDepth 100000
theorem results_cell2 {P : Program} {fn : Func} {p q : Tmp} {ty : TypeId} (h : fn.results = #[.cell p ty, .tmp q]) (tmps : Array Value) (w : World) (g : Nat) (t : TypeId) (cs : Array Value) (fr : Nat × Nat) (d : TypeDesc)
    (hp : tmps.getD p undef = .pointer (some ⟨g, 0, none⟩)) (hg : w.heap[g]? = some (.cells cs t fr))
    (hu : P.underlying ty = some d) (hd : (match d with | .struct _ | .array _ _ => true | _ => false) = true) (hi : (P.info? ty).map (·.size) = some cs.size) (v : Value) (hv : tmps.getD q undef = v) :
    (results fn tmps).run P w = .ok (.tuple #[.agg cs, v]) w := by
  have hp' : tmps[p]?.getD undef = .pointer (some ⟨g, 0, none⟩) := by simpa using hp
  have hv' : tmps[q]?.getD undef = v := by simpa using hv
  simp [results, h, hp', hv', asAddr, run_loadVar_row w g t ty cs fr d hg hu hd hi]
theorem wpL_store_all {P : Program} {ops : Array Oper} {rest : List Oper} {w : World} {o : Oper} {a : Act} {Q : Exit → Act → World → Prop} (hgd : o.guard = none) (hds : o.dst = none) (ty : TypeId) (x y : Operand)
    (ho : o.op = .store ty x y) (g : Nat) (hx : a.eval x = .pointer (some ⟨g, 0, none⟩)) (cs : Array Value) (hy : a.eval y = .agg cs) (t : TypeId) (old : Array Value) (hg : w.heap[g]? = some (.cells old t (0, 0)))
    (hi : (P.info? ty).map (·.size) = some cs.size) (hs : cs.size = old.size) (h1 : ∀ v ∈ cs, v.oneCell' = true)
    (h : ∀ w', w'.heap[g]? = some (.cells cs t (0, 0)) → w.grownBy w' (some g) → wpList P ops Q rest a w') : wpList P ops Q (o :: rest) a w := by
  refine wpList_store_row hgd ty x y ho g cs hx hy t old hg hi hs.symm (Array.all_eq_true_iff_forall_mem.2 h1) ?_
  rw [hds]
  exact h _ (setRow_heap _ _ _ _ _ _ hg) (grown_setRow _ _ _)
theorem two_boxes (w : World) (o1 o2 : Obj) : ∃ w2, w2 = (w.alloc o1).alloc o2 ∧ w2.heap[w.heap.size]? = some o1 ∧ w2.heap[w.heap.size + 1]? = some o2 ∧ Below w.heap.size w w2 := by
  have h1 := heap_alloc_new w o1
  have h2 := heap_alloc_new (w.alloc o1) o2
  have b2 := Below.heap_alloc (w.alloc o1) o2 _ (heap_lt h1)
  rw [World.size_alloc] at h2
  exact ⟨_, rfl, b2.trans h1, h2, (((Below.refl _ _).alloc (Nat.le_refl _) _).alloc (by simp) _)⟩
theorem cells6 {w : World} {g : Nat} {t : TypeId} {v0 v1 v2 v3 v4 v5 : Value} (h : w.heap[g]? = some (.cells #[v0, v1, v2, v3, v4, v5] t (0, 0))) :
    w.cell? ⟨g, 0, none⟩ = some v0 ∧ w.cell? ⟨g, 1, none⟩ = some v1 ∧ w.cell? ⟨g, 2, none⟩ = some v2 ∧ w.cell? ⟨g, 3, none⟩ = some v3 ∧ w.cell? ⟨g, 4, none⟩ = some v4 ∧ w.cell? ⟨g, 5, none⟩ = some v5 := by
  simp [World.cell?, h]
theorem fold_be (k n : Nat) : ∀ a, (Num.be k n).foldl (fun n (c : UInt8) => n * 256 + c.toNat) a = a * 256 ^ k + n % 256 ^ k := by
  induction k with
  | zero => intro a; simp [Num.be, Nat.mod_one]
  | succ k ih =>
    intro a
    rw [Num.be, List.foldl_cons, ih]
    have h1 : (UInt8.ofNat (n / 256 ^ k)).toNat = n / 256 ^ k % 256 := by simp
    rw [h1, Nat.pow_succ, Nat.mod_mul, Nat.add_mul, Nat.mul_assoc, Nat.mul_comm 256 (256 ^ k), Nat.mul_comm (n / 256 ^ k % 256)]
    omega
theorem val_be' (k n : Nat) (h : n < 256 ^ k) : Num.val (Num.be k n) = n := by
  have := fold_be k n 0
  unfold Num.val
  rw [this, Nat.mod_eq_of_lt h]
  omega
theorem be_high (k : Nat) : ∀ a v, Num.be k (a * 256 ^ k + v) = Num.be k v := by
  induction k with
  | zero => intro a v; rfl
  | succ k ih =>
    intro a v
    have e : a * 256 ^ (k + 1) + v = (a * 256) * 256 ^ k + v := by rw [Nat.pow_succ, Nat.mul_assoc, Nat.mul_comm 256]
    rw [Num.be, Num.be, e, ih]
    congr 1
    have h1 : ((a * 256) * 256 ^ k + v) / 256 ^ k = a * 256 + v / 256 ^ k := by
      rw [Nat.add_comm, Nat.add_mul_div_right _ _ (Nat.pow_pos (by omega)), Nat.add_comm]
    rw [h1]
    apply UInt8.toNat_inj.1
    simp
theorem val_cons (x : UInt8) (l : List UInt8) : Num.val (x :: l) = x.toNat * 256 ^ l.length + Num.val l := by
  have h : ∀ (l : List UInt8) (a : Nat), l.foldl (fun n (c : UInt8) => n * 256 + c.toNat) a = a * 256 ^ l.length + Num.val l := by
    intro l
    induction l with
    | nil => intro a; simp [Num.val]
    | cons y l ih =>
      intro a
      have h1 := ih (a * 256 + y.toNat)
      have h2 := ih (0 * 256 + y.toNat)
      simp only [List.foldl_cons, Num.val] at h1 h2 ⊢
      rw [h1, h2, List.length_cons, Nat.pow_succ, Nat.zero_mul, Nat.zero_add, Nat.add_mul, Nat.mul_assoc, Nat.mul_comm 256 (256 ^ l.length)]
      omega
  have h3 := h l x.toNat
  simp only [Num.val, List.foldl_cons, Nat.zero_mul, Nat.zero_add] at h3 ⊢
  exact h3
theorem be_val : ∀ (l : List UInt8) (k : Nat), l.length = k → Num.be k (Num.val l) = l
  | [], k, h => by
    subst h
    rfl
  | x :: l, k, h => by
    subst h
    have hl := Num.val_lt l
    rw [List.length_cons, val_cons, Num.be, be_high, be_val l _ rfl]
    congr 1
    rw [Nat.add_comm, Nat.add_mul_div_right _ _ (Nat.pow_pos (by omega)), Nat.div_eq_of_lt hl]
    apply UInt8.toNat_inj.1
    simp
theorem be_gv {l : List UInt8} {k : Nat} (h : k ≤ l.length) : Num.be k (Num.gv k l) = l.take k := by
  rw [Num.gv_yes h]
  exact be_val _ _ (by rw [List.length_take]; omega)
theorem gv_be (k n : Nat) (h : n < 256 ^ k) (l : List UInt8) : Num.gv k (Num.be k n ++ l) = n := by
  rw [Num.gv_yes (by rw [List.length_append, Num.be_length]; omega), List.take_left' (Num.be_length k n), val_be' k n h]
end Go.Proofs.YtaldlapnhhhclaaGreat.Bx
/- Contracts of the packages plan and role. Conditions: none. -/
namespace Go.Proofs.YtaldlapnhhhclaaGreat.Pln
open Go.RowKit Tw Bt
set_option maxHeartbeats 4000000
set_option maxRecDepth 100000
/-- a plan in memory -/
def At (w : World) (bp m l : Nat) : Prop := w.heap[bp]? = some (.cells #[.bool true, .int .u64 (m : Int), .int .u64 (l : Int)] 166 (0, 0))
theorem At.cells {w : World} {bp m l : Nat} (h : At w bp m l) : w.cell? ⟨bp, 0, none⟩ = some (.bool true) ∧ w.cell? ⟨bp, 1, none⟩ = some (.int .u64 (m : Int)) ∧ w.cell? ⟨bp, 2, none⟩ = some (.int .u64 (l : Int)) := by
  unfold At at h
  simp [World.cell?, h]
theorem At.bel {w w' : World} {bp m l : Nat} (h : At w bp m l) (hb : Below w.heap.size w w') : At w' bp m l := (hb.block _ (heap_lt h)).trans h
theorem At.fr {w w' : World} {bp m l : Nat} {S : Nat → Prop} (h : At w bp m l) (hf : Fr S w w') (hs : ¬ S bp) : At w' bp m l := heap_fr h hf hs
theorem c_New (m : Nat) (w : World) : Calls Tryz.prog 57 #[.int .u64 (m : Int)] w fun e w' => e = .returned (.pointer (some ⟨w.heap.size, 0, none⟩)) ∧ At w' w.heap.size m m ∧ Below w.heap.size w w' := by
  have HX := Lib.hid (heap_alloc_new w (.cells #[.bool true, .int .u64 (m : Int), .int .u64 (m : Int)] 166))
  have HB := Lib.hid ((Below.refl w.heap.size w).alloc (Nat.le_refl _) (.cells #[.bool true, .int .u64 (m : Int), .int .u64 (m : Int)] 166))
  go_enter Tryz.func57, Tryz.ntmps57
  go_wp2_with fail
  go_ret
  exact ⟨rfl, HX.out, HB.out⟩
section
variable {w : World} {bp m l : Nat}
theorem c_is (h : At w bp m l) : Calls Tryz.prog 103 #[.pointer (some ⟨bp, 0, none⟩)] w fun e w' => e = .returned (.bool true) ∧ w = w' := by
  obtain ⟨k0, k1, k2⟩ := h.cells
  go_enter Tryz.func103, Tryz.ntmps103
  go_wp2_with fail
  go_ret
  exact ⟨rfl, rfl⟩
theorem c_Left (h : At w bp m l) : Calls Tryz.prog 53 #[.pointer (some ⟨bp, 0, none⟩)] w fun e w' => e = .returned (.int .u64 (l : Int)) ∧ w = w' := by
  obtain ⟨k0, k1, k2⟩ := h.cells
  have H := Lib.hid h
  clear h
  go_enter Tryz.func53, Tryz.ntmps53
  go_wp2_with (first
    | (go_at_call 103
       (with_reducible refine (c_is H.out).mono ?_)
       rintro e w1 ⟨rfl, rfl⟩))
  go_ret
  exact ⟨rfl, rfl⟩
theorem c_Over (h : At w bp m l) : Calls Tryz.prog 110 #[.pointer (some ⟨bp, 0, none⟩)] w fun e w' => e = .returned (.bool (decide (l = 0))) ∧ w = w' := by
  have H := Lib.hid h
  have he : ((l : Int) == 0) = decide (l = 0) := by rw [Bool.eq_iff_iff]; simp
  clear h
  go_enter Tryz.func110, Tryz.ntmps110
  go_wp2_with (first
    | (go_at_call 53
       (with_reducible refine (c_Left H.out).mono ?_)
       rintro e w1 ⟨rfl, rfl⟩))
  go_ret
  exact ⟨by first | rfl | (rw [← he]; rfl), rfl⟩
theorem c_All (h : At w bp m l) (hm : m < 18446744073709551616) : Calls Tryz.prog 109 #[.pointer (some ⟨bp, 0, none⟩)] w fun e w' => ∃ A c, e = .returned (.slice A (upTo m 64).length c) ∧ Tw.Own w' w.heap.size 3 1 A (upTo m 64).length c (nsV (upTo m 64)) ∧ Below w.heap.size w w' := by
  obtain ⟨k0, k1, k2⟩ := h.cells
  have H := Lib.hid h
  clear h
  go_enter Tryz.func109, Tryz.ntmps109
  go_wp2_with (first
    | (go_at_call 103
       (with_reducible refine (c_is H.out).mono ?_)
       rintro e w1 ⟨rfl, rfl⟩)
    | (go_at_call 156
       (with_reducible refine (c_List m hm _).mono ?_)
       rintro e w2 ⟨A, c, rfl, ho, hb⟩))
  go_ret
  exact ⟨A, c, rfl, ho, hb⟩
theorem c_drop (h : At w bp m l) (hl : l < 18446744073709551616) (x : Int) : Calls Tryz.prog 175 #[.pointer (some ⟨bp, 0, none⟩), .int .i64 x] w fun e w' => e = .returned (.tuple #[]) ∧ At w' bp m (without l x) ∧ Fr (fun k => k = bp) w w' := by
  have H := Lib.hid h
  clear h
  go_enter Tryz.func175, Tryz.ntmps175
  go_wp2_with fail
  refine wp_region_phi (by kernel_rfl) 11 none (fun _ => false) (fun i_ v wz => match i_ with
    | 0 => v = .pointer (some ⟨bp, 0, none⟩)
    | 1 => v = .pointer (some ⟨bp, 0, none⟩)
    | 2 => v = .pointer (some ⟨bp, 0, none⟩)
    | 3 => v = .pointer (some ⟨bp, 1, none⟩)
    | 4 => v = .pointer (some ⟨bp, 2, none⟩)
    | 5 => v = .int .u64 (l : Int)
    | 6 => v = .int .i64 x
    | 7 => v = .int .u64 ((without l x : Nat) : Int)
    | 8 => v = .pointer (some ⟨bp, 0, none⟩)
    | 9 => v = .pointer (some ⟨bp, 1, none⟩)
    | 10 => v = .pointer (some ⟨bp, 2, none⟩)
    | _ => True) (by kernel_rfl) ?_ ?_ ?_
  · (repeat' (first | exact allLt_zero | refine allLt_succ ?_ ?_))
    · exact fun _ _ _ h _ => h
    · exact fun _ _ _ h _ => h
    · exact fun _ _ _ h _ => h
    · exact fun _ _ _ h _ => h
    · exact fun _ _ _ h _ => h
    · exact fun _ _ _ h _ => h
    · exact fun _ _ _ h _ => h
    · exact fun _ _ _ h _ => h
    · exact fun _ _ _ h _ => h
    · exact fun _ _ _ h _ => h
    · exact fun _ _ _ h _ => h
  · (repeat' (first | exact allLt_zero | refine allLt_succ ?_ ?_))
    · intro a w' hf he
      have k0 : a.tmps.getD 0 undef = .pointer (some ⟨bp, 0, none⟩) := hf.var (by kernel_rfl) rfl
      refine wpOp_step rfl (fun K hK => ?_)
      go_simp
      exact hK _ _ ⟨_, rfl, rfl, World.grownBy.refl _ _⟩
    · intro a w' hf he
      have k0 : a.tmps.getD 0 undef = .pointer (some ⟨bp, 0, none⟩) := hf.var (by kernel_rfl) rfl
      refine wpOp_step rfl (fun K hK => ?_)
      go_simp
      exact hK _ _ ⟨_, rfl, rfl, World.grownBy.refl _ _⟩
    · intro a w' hf he
      have f1 : a.tmps.getD 5 undef = .pointer (some ⟨bp, 0, none⟩) := he 1 (by kernel_rfl)
      refine wpOp_step rfl (fun K hK => ?_)
      go_simp
      exact hK _ _ ⟨_, rfl, rfl, World.grownBy.refl _ _⟩
    · intro a w' hf he
      have f2 : a.tmps.getD 6 undef = .pointer (some ⟨bp, 0, none⟩) := he 2 (by kernel_rfl)
      refine wpOp_step rfl (fun K hK => ?_)
      go_simp
      exact hK _ _ ⟨_, rfl, rfl, World.grownBy.refl _ _⟩
    · intro a w' hf he
      have f3 : a.tmps.getD 7 undef = .pointer (some ⟨bp, 1, none⟩) := he 3 (by kernel_rfl)
      refine wpOp_step rfl (fun K hK => ?_)
      go_simp
      exact hK _ _ ⟨_, rfl, rfl, World.grownBy.refl _ _⟩
    · intro a w' hf he
      have f4 : a.tmps.getD 8 undef = .pointer (some ⟨bp, 2, none⟩) := he 4 (by kernel_rfl)
      rw [show kindRow _ _ = none from by kernel_rfl] at hf
      have dd := (H.out.bel hf.bel).cells.2.2
      refine wpOp_step rfl (fun K hK => ?_)
      go_simp
      exact hK _ _ ⟨_, rfl, rfl, World.grownBy.refl _ _⟩
    · intro a w' hf he
      have k1 : a.tmps.getD 1 undef = .int .i64 x := hf.var (by kernel_rfl) rfl
      refine wpOp_step rfl (fun K hK => ?_)
      go_simp
      exact hK _ _ ⟨_, rfl, rfl, World.grownBy.refl _ _⟩
    · intro a w' hf he
      have f5 : a.tmps.getD 9 undef = .int .u64 (l : Int) := he 5 (by kernel_rfl)
      have f6 : a.tmps.getD 10 undef = .int .i64 x := he 6 (by kernel_rfl)
      rw [show kindRow _ _ = none from by kernel_rfl] at hf
      refine wpOp_step rfl (fun K hK => ?_)
      go_simp
      refine (YtaldlapnhhhclaaGreat.Dirty.c_WithoutE l hl x _).mono ?_
      rintro e w2 ⟨rfl, rfl⟩
      exact hK _ _ ⟨_, rfl, rfl, World.grownBy.refl _ _⟩
    · intro a w' hf he
      have f0 : a.tmps.getD 4 undef = .pointer (some ⟨bp, 0, none⟩) := he 0 (by kernel_rfl)
      refine wpOp_step rfl (fun K hK => ?_)
      go_simp
      exact hK _ _ ⟨_, rfl, rfl, World.grownBy.refl _ _⟩
    · intro a w' hf he
      have f8 : a.tmps.getD 12 undef = .pointer (some ⟨bp, 0, none⟩) := he 8 (by kernel_rfl)
      refine wpOp_step rfl (fun K hK => ?_)
      go_simp
      exact hK _ _ ⟨_, rfl, rfl, World.grownBy.refl _ _⟩
    · intro a w' hf he
      have f9 : a.tmps.getD 13 undef = .pointer (some ⟨bp, 1, none⟩) := he 9 (by kernel_rfl)
      refine wpOp_step rfl (fun K hK => ?_)
      go_simp
      exact hK _ _ ⟨_, rfl, rfl, World.grownBy.refl _ _⟩
  · intro a w' hf he
    obtain ⟨u4, f0⟩ : ∃ u, a.tmps.getD 4 undef = u := ⟨_, rfl⟩
    obtain ⟨u5, f1⟩ : ∃ u, a.tmps.getD 5 undef = u := ⟨_, rfl⟩
    obtain ⟨u6, f2⟩ : ∃ u, a.tmps.getD 6 undef = u := ⟨_, rfl⟩
    obtain ⟨u7, f3⟩ : ∃ u, a.tmps.getD 7 undef = u := ⟨_, rfl⟩
    obtain ⟨u8, f4⟩ : ∃ u, a.tmps.getD 8 undef = u := ⟨_, rfl⟩
    obtain ⟨u9, f5⟩ : ∃ u, a.tmps.getD 9 undef = u := ⟨_, rfl⟩
    obtain ⟨u10, f6⟩ : ∃ u, a.tmps.getD 10 undef = u := ⟨_, rfl⟩
    have f7 : a.tmps.getD 11 undef = .int .u64 ((without l x : Nat) : Int) := he 7 (by decide)
    obtain ⟨u12, f8⟩ : ∃ u, a.tmps.getD 12 undef = u := ⟨_, rfl⟩
    obtain ⟨u13, f9⟩ : ∃ u, a.tmps.getD 13 undef = u := ⟨_, rfl⟩
    have f10 : a.tmps.getD 14 undef = .pointer (some ⟨bp, 2, none⟩) := he 10 (by decide)
    have hlit := hf.lit ((4, u4) :: (5, u5) :: (6, u6) :: (7, u7) :: (8, u8) :: (9, u9) :: (10, u10) :: (11, .int .u64 ((without l x : Nat) : Int)) :: (12, u12) :: (13, u13) :: (14, .pointer (some ⟨bp, 2, none⟩)) :: []) (by kernel_rfl) ⟨f0, f1, f2, f3, f4, f5, f6, f7, f8, f9, f10, trivial⟩
    have hB := hf.bel
    clear he hf f0 f1 f2 f3 f4 f5 f6 f7 f8 f9 f10 
    subst hlit
    simp only [putAll_nil, putAll_cons, Act.put, List.setIfInBounds_toArray, List.set_cons_zero, List.set_cons_succ]
    simp only [List.drop_succ_cons, List.drop_zero]
    have H2 := Lib.hid (H.out.bel hB)
    have hc := H2.out
    have HF := Lib.hid (Fr.of_bel (S := fun k => k = bp) hB)
    clear hB
    go_wp2_with (first
      | (refine wpL_store_i0 rfl rfl 22 (.tmp 14) (.tmp 11) rfl bp 2 rfl .u64 _ rfl (by kernel_rfl) _ _ hc (by simp) ?_
         intro w9 x9 g9
         have X9 := Lib.hid x9
         have F9 := Lib.hid (HF.out.trans (Fr.grown (S := fun k => k = bp) g9 (by rintro k ⟨⟩; rfl)) (fun _ _ e => e))
         clear x9 g9 hc))
    go_end0
    exact ⟨rfl, X9.out, F9.out⟩
theorem c_Have (h : At w bp m l) (hl : l < 18446744073709551616) (x : Int) : Calls Tryz.prog 154 #[.pointer (some ⟨bp, 0, none⟩), .int .i64 x] w fun e w' => e = .returned (.bool (has l x)) ∧ At w' bp m (without l x) ∧ Fr (fun k => k = bp) w w' := by
  have H := Lib.hid h
  have hwn := without_not hl (x := x)
  clear h
  cases hb : has l x
  · rw [hwn hb]
    have Hh := Lib.hid hb
    clear hb hwn
    have ht : Calls Tryz.prog 174 #[.pointer (some ⟨bp, 0, none⟩), .int .i64 x, .func (.func 175) #[] #[]] w fun e w' => e = .returned (.bool false) ∧ w = w' := by
      go_enter Tryz.func174, Tryz.ntmps174
      go_wp2_with (first
        | (go_at_call 53
           (with_reducible refine (c_Left H.out).mono ?_)
           rintro e w1 ⟨rfl, rfl⟩)
        | (go_at_call 153
           (with_reducible refine (c_HasE l hl x _).mono ?_)
           rintro e w1 ⟨rfl, rfl⟩
           rw [Hh.out]))
      go_ret
      exact ⟨rfl, rfl⟩
    go_enter Tryz.func154, Tryz.ntmps154
    go_wp2_with (first
      | (go_at_call 174
         refine ht.mono ?_
         rintro e w1 ⟨rfl, rfl⟩))
    go_ret
    exact ⟨rfl, H.out, Fr.refl _ _⟩
  · have Hh := Lib.hid hb
    clear hb hwn
    have ht : Calls Tryz.prog 174 #[.pointer (some ⟨bp, 0, none⟩), .int .i64 x, .func (.func 175) #[] #[]] w fun e w' => e = .returned (.bool true) ∧ At w' bp m (without l x) ∧ Fr (fun k => k = bp) w w' := by
      go_enter Tryz.func174, Tryz.ntmps174
      go_wp2_with (first
        | (go_at_call 53
           (with_reducible refine (c_Left H.out).mono ?_)
           rintro e w1 ⟨rfl, rfl⟩)
        | (go_at_call 153
           (with_reducible refine (c_HasE l hl x _).mono ?_)
           rintro e w1 ⟨rfl, rfl⟩
           rw [Hh.out])
        | (go_at_call 175
           (with_reducible refine (c_drop H.out hl x).mono ?_)
           rintro e w1 ⟨rfl, h1, f1⟩
           have H1 := Lib.hid h1
           have F1 := Lib.hid f1
           clear h1 f1))
      go_ret
      exact ⟨rfl, H1.out, F1.out⟩
    go_enter Tryz.func154, Tryz.ntmps154
    go_wp2_with (first
      | (go_at_call 174
         refine ht.mono ?_
         rintro e w1 ⟨rfl, h1, f1⟩
         have H1 := Lib.hid h1
         have F1 := Lib.hid f1
         clear h1 f1))
    go_ret
    exact ⟨rfl, H1.out, F1.out⟩
end
/-- who gives -/
def src (who : Int) (a b : Bool) : Bool := if a = b then decide (who = 0) else a
theorem c_Source (who : Int) (a b : Bool) (w : World) : Calls Tryz.prog 58 #[.int .i64 who, .bool a, .bool b] w fun e w' => e = .returned (.bool (src who a b)) ∧ Below w.heap.size w w' := by
  have HB := Lib.hid ((Below.refl w.heap.size w).alloc (Nat.le_refl _) (.cells #[.bool a, .bool b] 168))
  have HX := Lib.hid (heap_alloc_new w (.cells #[.bool a, .bool b] 168))
  have he : (who == 0) = decide (who = 0) := by rw [Bool.eq_iff_iff]; simp
  have har : ∀ W, Calls Tryz.prog 108 #[.int .i64 who] W fun e w' => e = .returned (.bool (decide (who = 0))) ∧ W = w' := fun W => by
    go_enter Tryz.func108, Tryz.ntmps108
    go_wp2_with fail
    go_ret
    exact ⟨by first | rfl | (rw [← he]; rfl), rfl⟩
  clear HX
  cases a <;> cases b
  · have q1 : ∀ W, (Op.equalIn 10000 168 (.agg #[.bool false, .bool false]) (.agg #[.bool true, .bool false])).run Tryz.prog W = .ok false W := fun W => by kernel_rfl
    have q2 : ∀ W, (Op.equalIn 10000 168 (.agg #[.bool false, .bool false]) (.agg #[.bool false, .bool true])).run Tryz.prog W = .ok false W := fun W => by kernel_rfl
    rw [show src who false false = decide (who = 0) from rfl]
    go_enter Tryz.func58, Tryz.ntmps58
    go_wp2_with (first
      | (go_at_call 108
         (with_reducible refine (har _).mono ?_)
         rintro e w1 ⟨rfl, rfl⟩))
    go_ret
    exact ⟨rfl, HB.out⟩
  · have q1 : ∀ W, (Op.equalIn 10000 168 (.agg #[.bool false, .bool true]) (.agg #[.bool true, .bool false])).run Tryz.prog W = .ok false W := fun W => by kernel_rfl
    have q2 : ∀ W, (Op.equalIn 10000 168 (.agg #[.bool false, .bool true]) (.agg #[.bool false, .bool true])).run Tryz.prog W = .ok true W := fun W => by kernel_rfl
    rw [show src who false true = false from rfl]
    go_enter Tryz.func58, Tryz.ntmps58
    go_wp2_with (first
      | (go_at_call 108
         (with_reducible refine (har _).mono ?_)
         rintro e w1 ⟨rfl, rfl⟩))
    go_ret
    exact ⟨rfl, HB.out⟩
  · have q1 : ∀ W, (Op.equalIn 10000 168 (.agg #[.bool true, .bool false]) (.agg #[.bool true, .bool false])).run Tryz.prog W = .ok true W := fun W => by kernel_rfl
    have q2 : ∀ W, (Op.equalIn 10000 168 (.agg #[.bool true, .bool false]) (.agg #[.bool false, .bool true])).run Tryz.prog W = .ok false W := fun W => by kernel_rfl
    rw [show src who true false = true from rfl]
    go_enter Tryz.func58, Tryz.ntmps58
    go_wp2_with (first
      | (go_at_call 108
         (with_reducible refine (har _).mono ?_)
         rintro e w1 ⟨rfl, rfl⟩))
    go_ret
    exact ⟨rfl, HB.out⟩
  · have q1 : ∀ W, (Op.equalIn 10000 168 (.agg #[.bool true, .bool true]) (.agg #[.bool true, .bool false])).run Tryz.prog W = .ok false W := fun W => by kernel_rfl
    have q2 : ∀ W, (Op.equalIn 10000 168 (.agg #[.bool true, .bool true]) (.agg #[.bool false, .bool true])).run Tryz.prog W = .ok false W := fun W => by kernel_rfl
    rw [show src who true true = decide (who = 0) from rfl]
    go_enter Tryz.func58, Tryz.ntmps58
    go_wp2_with (first
      | (go_at_call 108
         (with_reducible refine (har _).mono ?_)
         rintro e w1 ⟨rfl, rfl⟩))
    go_ret
    exact ⟨rfl, HB.out⟩
theorem c_Union (m1 m2 : Nat) (s : Int) (w : World) (h1 : m1 < 18446744073709551616) (h2 : m2 < 18446744073709551616) (hs : -9223372036854775808 ≤ s ∧ s ≤ 9223372036854775807) : Calls Tryz.prog 55 #[.int .u64 (m1 : Int), .int .u64 (m2 : Int), .int .i64 s] w fun e w' => e = .returned (.int .u64 (((m1 ||| m2) &&& row (s.tdiv 4) : Nat) : Int)) ∧ w = w' := by
  have hor := u64_or_nat m1 m2 h1 h2
  have hol : m1 ||| m2 < 18446744073709551616 := by
    have := Nat.or_lt_two_pow (n := 64) (x := m1) (y := m2) (by simpa using h1) (by simpa using h2)
    simpa using this
  have hrl : row (s.tdiv 4) < 18446744073709551616 := by
    unfold row
    (repeat' split) <;> first | omega | exact Nat.lt_of_le_of_lt (Nat.sub_le _ _) (pow_lt (by omega))
  have hand := u64_and_nat (m1 ||| m2) (row (s.tdiv 4)) hol hrl
  have ht : s.tdiv 4 < 9223372036854775807 := by
    by_cases h : 0 ≤ s
    · rw [Int.tdiv_eq_ediv_of_nonneg h]
      omega
    · obtain ⟨k, rfl⟩ : ∃ k : Int, s = -k := ⟨-s, by omega⟩
      rw [Int.neg_tdiv, Int.tdiv_eq_ediv_of_nonneg (by omega)]
      omega
  have hr := fun w => c_Row (s.tdiv 4) w ht
  generalize row (s.tdiv 4) = R at *
  go_enter Tryz.func55, Tryz.ntmps55
  go_wp2_with (first
    | (go_at_call 104
       refine (hr _).mono ?_
       rintro e w1 ⟨rfl, rfl⟩))
  go_ret
  exact ⟨rfl, rfl⟩
end Go.Proofs.YtaldlapnhhhclaaGreat.Pln
