/- Texts joined: what the disks, the rings and their reference do. Conditions: none. -/
import Derived.Test.YtaldlapnhhhclaaGreatB6
import Derived.Test.YtaldlapnhhhclaaGreatB9
import Derived.Test.YtaldlapnhhhclaaGreatB1
import Derived.Laws.BitsAllLaws
import Derived.Test.YtaldlapnhhhclaaGreatProg
import Derived.Test.YtaldlapnhhhclaaGreatB8
import Derived.Test.YtaldlapnhhhclaaGreatB4
/- Acts as rows of cells: some numbers, and a sector behind them; both disks as one. Conditions: none. -/
set_option linter.unusedVariables false
set_option linter.unusedSimpArgs false
namespace Go.Proofs.YtaldlapnhhhclaaGreat.Disk
open Go.RowKit Tw
set_option maxHeartbeats 1000000
theorem cells_at {W : World} {g : Nat} {l : List Value} {t : TypeId} (h : W.heap[g]? = some (.cells l.toArray t (0, 0))) (j : Nat) (v : Value) (hv : l[j]? = some v) : W.cell? ⟨g, j, none⟩ = some v := by
  simp only [World.cell?, h]
  simpa using hv
/-- the cells behind the first ones -/
theorem cells_tail {W : World} {g n : Nat} {hd l : List Value} {t : TypeId} (h : W.heap[g]? = some (.cells (hd ++ l).toArray t (0, 0))) (hn : hd.length = n) (hn0 : 0 < n) : ∀ j v, l[j]? = some v → W.cell? ((⟨g, n, none⟩ : Addr).add j) = some v := by
  intro j v hv
  have h1 : (hd ++ l)[n + j]? = some v := by
    rw [List.getElem?_append_right (by omega), show n + j - hd.length = j by omega]
    exact hv
  have h2 := cells_at h (n + j) v h1
  unfold Addr.add
  by_cases hj : j = 0
  · subst hj
    simpa using h2
  · rw [if_neg hj]
    exact h2
theorem one_row {hd : List Value} {s : Sec} (h : ∀ v ∈ hd, v.oneCell' = true) : ∀ v ∈ (hd ++ bytesV s).toArray, v.oneCell' = true := by
  intro v hv
  simp only [List.mem_toArray, List.mem_append] at hv
  rcases hv with hv | hv
  · exact h v hv
  · exact bytesV_one v hv
theorem pr_below {w0 w w' : World} {p g mb q r : Nat} (hB : Below w0.heap.size w0 w) (h : w0.heap.size ≤ p ∧ w0.heap.size ≤ g ∧ w0.heap.size ≤ mb) (h2 : w0.heap.size ≤ q ∧ w0.heap.size ≤ r) (f : Fr (PS p g mb q r) w w') : Below w0.heap.size w0 w' :=
  hB.trans (f.bel (fun k e => by unfold PS at e; omega) hB.size)
theorem pr_bel {w0 w w' : World} {p g mb q r : Nat} {S : Nat → Prop} (hB : Below w0.heap.size w0 w) (h : w0.heap.size ≤ p ∧ w0.heap.size ≤ g ∧ w0.heap.size ≤ mb) (h2 : w0.heap.size ≤ q ∧ w0.heap.size ≤ r) (f : Fr S w w') (hs : ∀ k, S k → k = p ∨ k = g ∨ k = mb ∨ k = q ∨ k = r) : Below w0.heap.size w0 w' :=
  hB.trans (f.bel (fun k e => by have := hs k e; omega) hB.size)
section
variable {w : World} {p g mb c : Nat} {d : Dsk}
theorem c_dWriteP (h : Dk w p g mb c d) (ho : d.ops < 1000000000) (x : Int) (hx : -9223372036854775808 ≤ x ∧ x ≤ 9223372036854775807) (s : Sec) (hs : s.length = 16) :
    Calls Tryz.prog 128 #[.pointer (some ⟨p, 0, none⟩), .int .i64 x, .agg (bytesV s).toArray] w fun e' w' => e' = .returned (.int .i64 ((d.write x s).2 : Int)) ∧ Dk w' p g mb c (d.write x s).1 ∧ Fr (fun k => k = p ∨ k = g ∨ k = mb) w w' :=
  (c_dWrite h ho x hx s hs).mono fun e' w' ⟨q1, q2, q3⟩ => ⟨q1, q2, q3.mono (fun k _ e => by rcases e with e | e; exact .inl e; exact .inr (.inr e))⟩
end
theorem c_dNewBad (n : Int) (hn : n < 1 ∨ 1024 < n) (w : World) : Calls Tryz.prog 17 #[.int .i64 n] w fun e w' => e = .returned (.tuple #[.pointer none, .int .i64 2]) ∧ w = w' := by
  by_cases h1 : n < 1
  · go_enter Tryz.func17, Tryz.ntmps17
    go_wp2_with fail
    go_ret2
    exact ⟨rfl, rfl⟩
  · have h2 : 1024 < n := by omega
    go_enter Tryz.func17, Tryz.ntmps17
    go_wp2_with fail
    go_ret2
    exact ⟨rfl, rfl⟩
end Go.Proofs.YtaldlapnhhhclaaGreat.Disk
namespace Go.Proofs.YtaldlapnhhhclaaGreat.Slots
open Go.RowKit Tw Disk
theorem sput_ops (d : Dsk) (b s : Int) (x : Nat) : (sput d b s x).1.ops ≤ d.ops + 2 := by
  have h1 := fun P R => (write_facts d P R).1
  unfold sput
  split
  · split
    · exact Nat.le_add_right _ _
    · split
      · exact Nat.le_add_right _ _
      · split
        · have h2 := (flush_facts (d.write (place b s ((latest d b s).1 + 1)) (Seal.rec ((latest d b s).1 + 1) x)).1).1
          have h3 := h1 (place b s ((latest d b s).1 + 1)) (Seal.rec ((latest d b s).1 + 1) x)
          omega
        · have h3 := h1 (place b s ((latest d b s).1 + 1)) (Seal.rec ((latest d b s).1 + 1) x)
          omega
  · exact Nat.le_add_right _ _
end Go.Proofs.YtaldlapnhhhclaaGreat.Slots
/- The law SlotsNone, walked; its argument opened. Conditions: none. -/
namespace Go.Proofs.YtaldlapnhhhclaaGreat.Slots
open Go.RowKit Tw Disk
set_option maxHeartbeats 4000000
set_option maxRecDepth 100000
theorem opened_zs : Seal.opened zs = (0, 0, false) := by decide +kernel
theorem read_new (n : Nat) (x : Int) : ((Dsk.new n).read x).1 = zs := by
  unfold Dsk.read
  split
  · rename_i h
    split
    · rfl
    · have h1 := cell_mem h
      rw [show (Dsk.new n).cells = List.replicate n c0 from rfl] at h1
      rw [List.eq_of_mem_replicate h1]
      rfl
  · rfl
theorem readAt_new (n : Nat) (b s x : Int) : readAt (Dsk.new n) b s x = (0, 0) := by
  unfold readAt told
  rw [read_new, opened_zs]
  simp
theorem best_new (n : Nat) (b s : Int) (k : Nat) : best (Dsk.new n) b s k = (0, 0) := by
  induction k with
  | zero => rfl
  | succ k ih =>
    unfold best
    rw [ih, readAt_new]
    rfl
theorem latest_new (n : Nat) (b s : Int) : latest (Dsk.new n) b s = (0, 0) := by
  unfold latest
  split
  · exact best_new _ _ _ _
  · rfl
theorem new_len (n : Nat) : (Dsk.new n).cells.length = n := by simp [Dsk.new]
theorem sput_new {n : Nat} {b s : Int} (h : On b s n) (x : Nat) : (sput (Dsk.new n) b s x).2 = 0 := by
  have hp := place_on h 1
  unfold sput
  rw [if_pos (by rw [new_len]; exact h), latest_new]
  have hw : ((Dsk.new n).write (place b s 1) (Seal.rec 1 x)).2 = 0 := by
    unfold Dsk.write
    rw [if_pos ((has_iff _ _).2 (by rw [new_len]; omega))]
    rfl
  simp only [Nat.zero_add]
  rw [if_neg (by simp [Dsk.new]), if_neg (by decide), if_pos hw]
  have hf : ((Dsk.new n).write (place b s 1) (Seal.rec 1 x)).1 = (({ Dsk.new n with ops := 1 } : Dsk).put (place b s 1) (Seal.rec 1 x)) := by
    unfold Dsk.write
    rw [if_pos ((has_iff _ _).2 (by rw [new_len]; omega))]
    rfl
  rw [hf]
  rfl
theorem sput_off {n : Nat} {b s : Int} (h : ¬ On b s n) (x : Nat) : sput (Dsk.new n) b s x = (Dsk.new n, 2) := by
  unfold sput
  rw [if_neg (by rw [new_len]; exact h)]
theorem three_cells {w : World} {g : Nat} {t : TypeId} {a b c : Value} (h : w.heap[g]? = some (.cells #[a, b, c] t (0, 0))) : w.cell? ⟨g, 0, none⟩ = some a ∧ w.cell? ⟨g, 1, none⟩ = some b ∧ w.cell? ⟨g, 2, none⟩ = some c := by
  simp [World.cell?, h]
section
open Go.ChangeShapes Go.WideShapes Go.Deep
variable {H : Type} {enc : TypeId × Value → H} {P : Program} {W : World} {base : Nat} {spare : Nat → Bool} {held : Bool}
theorem open_three {r : Reach} {base2 : Nat} {t : TypeId} {v : Value} {d : DataW H} {ps : List MemPlace} (hL : flat P 4 t = some [.int .i64, .int .i64, .int .i64]) (hc : P.cellsOf t = 3) (ht : (P.underlying t).map (·.isRow) = some true)
    (hv : Value.okWide P W r base2 t v) (h : DataW.Trod enc P W base spare held t v d ps) : ∃ (n b s : Int), v = .agg #[.int .i64 n, .int .i64 b, .int .i64 s] := by
  obtain ⟨cs, rfl, hr⟩ := open_agg 4 hL hc ht hv h
  obtain ⟨v1, r1, rfl, k1, hr⟩ := rowOk_cons hr
  obtain ⟨v2, r2, rfl, k2, hr⟩ := rowOk_cons hr
  obtain ⟨v3, r3, rfl, k3, hr⟩ := rowOk_cons hr
  obtain rfl := rowOk_nil hr
  obtain ⟨z1, rfl, q1⟩ := leaf_i64 k1
  obtain ⟨z2, rfl, q2⟩ := leaf_i64 k2
  obtain ⟨z3, rfl, q3⟩ := leaf_i64 k3
  exact ⟨z1, z2, z3, rfl⟩
end
end Go.Proofs.YtaldlapnhhhclaaGreat.Slots
/- Sets of the numbers 0 to 63, as the bits of a word, plainly. Conditions: none. -/
namespace Go.Proofs.YtaldlapnhhhclaaGreat.Bt
open Tw

/-- a set without a number -/
def without (m : Nat) (e : Int) : Nat := if 0 ≤ e ∧ e < 64 then m &&& (18446744073709551615 - 2 ^ e.toNat) else m
/-- is a number there? -/
def has (m : Nat) (e : Int) : Bool := decide (0 ≤ e ∧ e < 64) && m.testBit e.toNat
theorem pow_lt {k : Nat} (h : k < 64) : 2 ^ k < 18446744073709551616 := by
  have := Nat.pow_lt_pow_right (a := 2) (by omega) h
  simpa using this
theorem mask_bit {k : Nat} (h : k < 64) (i : Nat) : (18446744073709551615 - 2 ^ k).testBit i = (decide (i < 64) && !decide (k = i)) := by
  have h1 := Nat.testBit_two_pow_sub_succ (n := 64) (x := 2 ^ k) (by simpa using pow_lt h) i
  rw [Nat.testBit_two_pow] at h1
  rw [← h1]
  congr 1
  omega
theorem without_bit (m : Nat) (hm : m < 18446744073709551616) {e : Int} (he : 0 ≤ e ∧ e < 64) (i : Nat) : (without m e).testBit i = (m.testBit i && !decide (e.toNat = i)) := by
  unfold without
  rw [if_pos he, Nat.testBit_and, mask_bit (by omega)]
  by_cases hi : i < 64
  · simp [hi]
  · have : m.testBit i = false := by
      refine Nat.testBit_lt_two_pow (Nat.lt_of_lt_of_le hm ?_)
      have := Nat.pow_le_pow_right (n := 2) (by omega) (by omega : 64 ≤ i)
      simpa using this
    simp [this]
theorem without_le (m : Nat) (e : Int) : without m e ≤ m := by
  unfold without
  split
  · exact Nat.and_le_left
  · exact Nat.le_refl _
theorem sub_bit {m k : Nat} (h : m.testBit k = true) (i : Nat) : (m - 2 ^ k).testBit i = (m.testBit i && !decide (k = i)) := by
  obtain ⟨q, r, hr, rfl⟩ : ∃ q r, r < 2 ^ k ∧ m = 2 ^ k * (2 * q + 1) + r := by
    have hk : 0 < 2 ^ k := Nat.two_pow_pos k
    refine ⟨m / 2 ^ k / 2, m % 2 ^ k, Nat.mod_lt _ hk, ?_⟩
    have h1 : m / 2 ^ k % 2 = 1 := by
      rw [Nat.testBit_eq_decide_div_mod_eq] at h
      simpa using h
    have h2 := Nat.div_add_mod m (2 ^ k)
    have h3 : 2 * (m / 2 ^ k / 2) + 1 = m / 2 ^ k := by omega
    rw [h3]
    exact h2.symm
  have h1 : 2 ^ k * (2 * q + 1) + r - 2 ^ k = 2 ^ k * (2 * q) + r := by
    rw [Nat.mul_succ]
    omega
  rw [h1, Nat.testBit_two_pow_mul_add _ hr, Nat.testBit_two_pow_mul_add _ hr]
  by_cases hi : i < k
  · rw [if_pos hi, if_pos hi]
    simp [show ¬ k = i by omega]
  · rw [if_neg hi, if_neg hi]
    by_cases he : k = i
    · subst he
      simp
    · obtain ⟨j, hj⟩ : ∃ j, i - k = j + 1 := ⟨i - k - 1, by omega⟩
      rw [hj, Nat.testBit_succ, Nat.testBit_succ]
      rw [show 2 * q / 2 = q by omega, show (2 * q + 1) / 2 = q by omega]
      simp [he]
theorem eq_of_bits {a b : Nat} (h : ∀ i, a.testBit i = b.testBit i) : a = b := Nat.eq_of_testBit_eq h
theorem without_sub {m : Nat} (hm : m < 18446744073709551616) {k : Nat} (hk : k < 64) (h : m.testBit k = true) : m - 2 ^ k = without m (k : Int) :=
  eq_of_bits fun i => by
    rw [sub_bit h, without_bit m hm (by omega)]
    simp
theorem without_same {m : Nat} (hm : m < 18446744073709551616) {k : Nat} (hk : k < 64) (h : m.testBit k = false) : without m (k : Int) = m :=
  eq_of_bits fun i => by
    rw [without_bit m hm (by omega)]
    simp only [Int.toNat_natCast]
    by_cases he : k = i
    · subst he
      simp [h]
    · simp [he]
theorem without_off {m : Nat} {e : Int} (h : ¬ (0 ≤ e ∧ e < 64)) : without m e = m := if_neg h
/-- the numbers of a set, rising, up to k -/
def upTo (m : Nat) (k : Nat) : List Nat := (List.range k).filter fun i => m.testBit i
theorem upTo_succ (m k : Nat) : upTo m (k + 1) = upTo m k ++ (if m.testBit k = true then [k] else []) := by
  unfold upTo
  rw [List.range_succ, List.filter_append]
  congr 1
  by_cases h : m.testBit k = true
  · simp [h]
  · simp [h]
theorem mem_upTo {m k i : Nat} : i ∈ upTo m k ↔ i < k ∧ m.testBit i = true := by
  unfold upTo
  simp
theorem upTo_len (m k : Nat) : (upTo m k).length ≤ k := by
  unfold upTo
  have := List.length_filter_le (fun i => m.testBit i) (List.range k)
  simpa using this
/-- a set without all numbers of a list -/
def drops (m : Nat) (l : List Nat) : Nat := l.foldl (fun a (e : Nat) => without a (e : Int)) m
theorem drops_le (l : List Nat) : ∀ m, drops m l ≤ m := by
  induction l with
  | nil => intro m; exact Nat.le_refl _
  | cons x l ih => intro m; exact Nat.le_trans (ih (without m x)) (without_le m x)
theorem drops_bit (l : List Nat) (hl : ∀ x ∈ l, x < 64) : ∀ m, m < 18446744073709551616 → ∀ i, (drops m l).testBit i = (m.testBit i && !decide (i ∈ l)) := by
  induction l with
  | nil => intro m _ i; simp [drops]
  | cons x l ih =>
    intro m hm i
    have hx := hl x List.mem_cons_self
    have h1 := ih (fun y hy => hl y (List.mem_cons_of_mem _ hy)) (without m x) (Nat.lt_of_le_of_lt (without_le m x) hm) i
    rw [show drops m (x :: l) = drops (without m x) l from rfl, h1, without_bit m hm (by omega)]
    simp only [Int.toNat_natCast, List.mem_cons]
    by_cases he : x = i
    · subst he
      simp
    · have he2 : ¬ i = x := fun e => he e.symm
      simp [he, he2]
theorem bit_high {m : Nat} (hm : m < 18446744073709551616) {i : Nat} (hi : 64 ≤ i) : m.testBit i = false := by
  refine Nat.testBit_lt_two_pow (Nat.lt_of_lt_of_le hm ?_)
  have := Nat.pow_le_pow_right (n := 2) (by omega) hi
  simpa using this
/-- one by one all are gone -/
theorem drops_all {m a : Nat} (hm : m < 18446744073709551616) (ha : a < 18446744073709551616) (h : ∀ i, a.testBit i = true → m.testBit i = true) : drops a (upTo m 64) = 0 :=
  eq_of_bits fun i => by
    rw [drops_bit _ (fun x hx => (mem_upTo.1 hx).1) a ha, Nat.zero_testBit]
    by_cases hi : i < 64
    · by_cases hb : a.testBit i = true
      · have := h i hb
        simp [mem_upTo, hi, this]
      · simp [hb]
    · simp [bit_high ha (by omega : 64 ≤ i)]
theorem without_lt {m : Nat} (hm : m < 18446744073709551616) (e : Int) : without m e < 18446744073709551616 := Nat.lt_of_le_of_lt (without_le m e) hm
theorem bits_without (m : Nat) (hm : m < 18446744073709551616) (e : Int) : bits BinOp.andNot IntKind.u64 (m : Int) (if 0 ≤ e ∧ e < 64 then ((2 ^ e.toNat : Nat) : Int) else 0) = ((without m e : Nat) : Int) := by
  unfold without
  by_cases h : 0 ≤ e ∧ e < 64
  · rw [if_pos h, if_pos h, u64_andNot_nat m _ hm (pow_lt (by omega))]
  · rw [if_neg h, if_neg h]
    have := u64_andNot_nat m 0 hm (by omega)
    rw [show ((0 : Nat) : Int) = 0 from rfl] at this
    rw [this, show (18446744073709551615 - 0 : Nat) = 2 ^ 64 - 1 from rfl, Nat.and_two_pow_sub_one_eq_mod]
    congr 1
    exact Nat.mod_eq_of_lt hm
end Go.Proofs.YtaldlapnhhhclaaGreat.Bt
/- The reference's sets (twainref01): One, Has, Without, List. Conditions: none. -/
namespace Go.Proofs.YtaldlapnhhhclaaGreat.Bt
open Go.RowKit Tw
set_option maxHeartbeats 2000000
set_option maxRecDepth 100000
theorem r_One_off (x : Int) (hx : ¬ (0 ≤ x ∧ x < 64)) (w : World) : Calls Tryz.prog 122 #[.int .i64 x] w fun e w' => e = .returned (.int .u64 0) ∧ w = w' := by
  by_cases h1 : x < 0
  · clear hx
    go_enter Tryz.func122, Tryz.ntmps122
    go_wp2_with fail
    go_ret
    exact ⟨rfl, rfl⟩
  · have h2 : 63 < x := by omega
    clear hx
    go_enter Tryz.func122, Tryz.ntmps122
    go_wp2_with fail
    go_ret
    exact ⟨rfl, rfl⟩
theorem r_One (k : Nat) (hk : k < 64) (w : World) : Calls Tryz.prog 122 #[.int .i64 (k : Int)] w fun e w' => e = .returned (.int .u64 ((2 ^ k : Nat) : Int)) ∧ w = w' := by
  go_enter Tryz.func122, Tryz.ntmps122
  go_wp2_with fail
  go_loopw [3, 4] (fun v3 v4 wr => ∃ (i x : Nat), i ≤ k ∧ v3 = .int .u64 (x : Int) ∧ v4 = .int .i64 (i : Int) ∧ Hid (x = 2 ^ i) ∧ wr = w) (fun _ v4 _ => k - (intOf v4).toNat)
  case atStart => exact ⟨0, 1, Nat.zero_le _, rfl, rfl, Lib.hid rfl, rfl⟩
  case round =>
    obtain ⟨i, x, hi, rfl, rfl, Hx, rfl⟩ := hrel
    by_cases hin : i < k
    · have hlt : x * 2 < 18446744073709551616 := by
        rw [Hx.out, ← Nat.pow_succ]
        exact pow_lt (by omega)
      have HN : Hid (x * 2 = 2 ^ (i + 1)) := Lib.hid (by rw [Hx.out, Nat.pow_succ])
      go_wp2_with fail
      go_roundw
      case rel => exact ⟨i + 1, x * 2, by omega, by go_num, by go_num, HN, by trivial⟩
      case measure => simp [intOf] <;> omega
    · obtain rfl : i = k := by omega
      go_wp2_with fail
      go_ret
      rw [← Hx.out]
      exact ⟨rfl, rfl⟩
theorem r_Has (m : Nat) (hm : m < 18446744073709551616) (x : Int) (w : World) : Calls Tryz.prog 98 #[.int .u64 (m : Int), .int .i64 x] w fun e w' => e = .returned (.bool (has m x)) ∧ w = w' := by
  by_cases hx : 0 ≤ x ∧ x < 64
  · obtain ⟨k, rfl⟩ : ∃ k : Nat, x = (k : Int) := ⟨x.toNat, by omega⟩
    have hk : k < 64 := by omega
    have hone := fun w => r_One k hk w
    have hp : 0 < 2 ^ k := Nat.two_pow_pos k
    have hpl := pow_lt hk
    have hh : has m (k : Int) = decide (m / 2 ^ k % 2 = 1) := by
      unfold has
      rw [Nat.testBit_eq_decide_div_mod_eq]
      simp [hx, hk]
    rw [hh]
    clear hh
    generalize 2 ^ k = P at *
    have hq : ((m : Int) / (P : Int)) = ((m / P : Nat) : Int) := by omega
    have hq2 : m / P ≤ m := Nat.div_le_self _ _
    have hP0 : ((P : Int) == 0) = false := by simp; omega
    generalize m / P = Q at *
    clear hx
    go_enter Tryz.func98, Tryz.ntmps98
    go_wp2_with (first
      | (go_at_call 122
         (with_reducible refine (hone _).mono ?_)
         rintro e w1 ⟨rfl, rfl⟩))
    go_ret
    refine ⟨?_, rfl⟩
    have he : ((Q : Int) % 2 == 1) = decide (Q % 2 = 1) := by
      rw [Bool.eq_iff_iff]
      simp only [decide_eq_true_eq, beq_iff_eq]
      omega
    rw [he]
    rfl
  · have hh : has m x = false := by unfold has; simp; omega
    rw [hh]
    by_cases h1 : x < 0
    · go_enter Tryz.func98, Tryz.ntmps98
      go_wp2_with fail
      go_ret
      exact ⟨rfl, rfl⟩
    · have h2 : 63 < x := by omega
      go_enter Tryz.func98, Tryz.ntmps98
      go_wp2_with fail
      go_ret
      exact ⟨rfl, rfl⟩
theorem has_one {m : Nat} {x : Int} (h : has m x = true) : ∃ k : Nat, x = (k : Int) ∧ k < 64 ∧ m.testBit k = true := by
  unfold has at h
  simp only [Bool.and_eq_true, decide_eq_true_eq] at h
  exact ⟨x.toNat, by omega, by omega, h.2⟩
theorem without_not {m : Nat} (hm : m < 18446744073709551616) {x : Int} (h : has m x = false) : without m x = m := by
  by_cases hx : 0 ≤ x ∧ x < 64
  · obtain ⟨k, rfl⟩ : ∃ k : Nat, x = (k : Int) := ⟨x.toNat, by omega⟩
    refine without_same hm (by omega) ?_
    unfold has at h
    simpa [hx] using h
  · exact without_off hx
theorem bit_le {m k : Nat} (h : m.testBit k = true) : 2 ^ k ≤ m := by
  refine Nat.le_of_not_lt fun hl => ?_
  rw [Nat.testBit_lt_two_pow hl] at h
  cases h
theorem r_Without (m : Nat) (hm : m < 18446744073709551616) (x : Int) (w : World) : Calls Tryz.prog 67 #[.int .u64 (m : Int), .int .i64 x] w fun e w' => e = .returned (.int .u64 ((without m x : Nat) : Int)) ∧ w = w' := by
  have hh := fun w => r_Has m hm x w
  cases hb : has m x with
  | true =>
    obtain ⟨k, rfl, hk, ht⟩ := has_one hb
    rw [hb] at hh
    have hone := fun w => r_One k hk w
    have hs := without_sub hm hk ht
    have hle := bit_le ht
    generalize without m (k : Int) = R at *
    generalize 2 ^ k = P at *
    clear hb ht
    go_enter Tryz.func67, Tryz.ntmps67
    go_wp2_with (first
      | (go_at_call 98
         (with_reducible refine (hh _).mono ?_)
         rintro e w1 ⟨rfl, rfl⟩)
      | (go_at_call 122
         (with_reducible refine (hone _).mono ?_)
         rintro e w1 ⟨rfl, rfl⟩))
    go_ret
    refine ⟨?_, rfl⟩
    first
      | rfl
      | (rw [show ((m : Int) - (P : Int)) = (R : Int) by omega]; rfl)
  | false =>
    rw [without_not hm hb]
    rw [hb] at hh
    clear hb
    go_enter Tryz.func67, Tryz.ntmps67
    go_wp2_with (first
      | (go_at_call 98
         (with_reducible refine (hh _).mono ?_)
         rintro e w1 ⟨rfl, rfl⟩))
    go_ret
    exact ⟨rfl, rfl⟩
/-- numbers as cells -/
def nsV (l : List Nat) : List Value := l.map fun (x : Nat) => Value.int .i64 (x : Int)
theorem nsV_length (l : List Nat) : (nsV l).length = l.length := by simp [nsV]
theorem nsV_append (a b : List Nat) : nsV (a ++ b) = nsV a ++ nsV b := by simp [nsV]
theorem info_int : (Tryz.prog.info? 3).map (fun i => (i.zero, i.size, i.bytes)) = some (some (.int .i64 0), 1, 8) := by kernel_rfl
theorem r_List (m : Nat) (hm : m < 18446744073709551616) (w : World) : Calls Tryz.prog 74 #[.int .u64 (m : Int)] w fun e w' => ∃ A c, e = .returned (.slice A (upTo m 64).length c) ∧ Tw.Own w' w.heap.size 3 1 A (upTo m 64).length c (nsV (upTo m 64)) ∧ Below w.heap.size w w' := by
  have hh := fun (x : Int) w => r_Has m hm x w
  go_enter Tryz.func74, Tryz.ntmps74
  go_wp2_with fail
  go_loopw [3, 4] (fun v3 v4 wr => ∃ (i n c : Nat) (A : Option Addr), i ≤ 64 ∧ v4 = .int .i64 (i : Int) ∧ v3 = .slice A n c ∧ Hid (n = (upTo m i).length) ∧ n ≤ 64 ∧ Hid (Tw.Own wr w.heap.size 3 1 A n c (nsV (upTo m i))) ∧ Hid (Below w.heap.size w wr)) (fun _ v4 _ => 64 - (intOf v4).toNat)
  case atStart => exact ⟨0, 0, 0, none, by omega, rfl, rfl, Lib.hid rfl, by omega, Lib.hid (World.ownsRow_nil _ _ _ _), Lib.hid (Below.refl _ _)⟩
  case round =>
    obtain ⟨i, n, c, A, hi, rfl, rfl, Hn, hn64, HO, HB⟩ := hrel
    by_cases hin : i < 64
    · have hbit : has m (i : Int) = m.testBit i := by
        unfold has
        simp [hin]
        intro _
        omega
      have hu := upTo_succ m i
      have hlen := upTo_len m (i + 1)
      cases hb : m.testBit i with
      | true =>
        rw [hb, if_pos rfl] at hu
        rw [hb] at hbit
        have hlen1 : (upTo m (i + 1)).length = n + 1 := by rw [hu, List.length_append, ← Hn.out]; rfl
        have hn2 : n + 1 ≤ 64 := by omega
        have Hl := Lib.hid hlen1
        have Hb := Lib.hid hbit
        have Hu := Lib.hid hu
        clear hb hbit hu hlen hlen1
        go_wp2_with (first
          | (go_at_call 98
             (with_reducible refine (hh _ _).mono ?_)
             rintro e w1 ⟨rfl, rfl⟩
             rw [Hb.out])
          | (at_builtin
             refine wpL_append _ rfl (.tmp 12) (.tmp 14) _ rfl w w.heap.size ((HB.out).trans (((Below.refl wr.heap.size wr).alloc (Nat.le_refl _) _).mono HB.out.size)) (Nat.le_trans HB.out.size (by simp)) 3 _ 1 8 Tryz.underlying134 info_int rfl (by omega) _ _ _ (nsV (upTo m i)) rfl (Tw.Own.bel HO.out ((Below.refl wr.heap.size wr).alloc (Nat.le_refl _) _)) _ 1 1 [.int .i64 (i : Int)] rfl (rd_one wr 3 (.int .i64 (i : Int))) (by simp [Value.oneCell']) (n + 1) (nsV (upTo m (i + 1))) rfl (by rw [Hu.out, nsV_append]; rfl) (by unfold maxLen; omega) (by omega) ?_
             intro A9 c9 w9 hown9 hb9 hg9 ho9
             have HO9 := Lib.hid hown9
             have HB9 := Lib.hid hb9
             clear hown9 hb9 hg9 ho9))
        go_roundw
        case rel => exact ⟨i + 1, n + 1, c9, A9, by omega, by go_num, rfl, Lib.hid Hl.out.symm, hn2, HO9, HB9⟩
        case measure => simp [intOf] <;> omega
      | false =>
        rw [hb, if_neg (by simp), List.append_nil] at hu
        rw [hb] at hbit
        have Hb := Lib.hid hbit
        have Hu := Lib.hid hu
        clear hb hbit hu hlen
        go_wp2_with (first
          | (go_at_call 98
             (with_reducible refine (hh _ _).mono ?_)
             rintro e w1 ⟨rfl, rfl⟩
             rw [Hb.out]))
        go_roundw
        case rel => exact ⟨i + 1, n, c, A, by omega, by go_num, rfl, Lib.hid (by rw [Hu.out]; exact Hn.out), hn64, Lib.hid (by rw [Hu.out]; exact HO.out), HB⟩
        case measure => simp [intOf] <;> omega
    · obtain rfl : i = 64 := by omega
      go_wp2_with fail
      go_ret
      rw [← Hn.out]
      exact ⟨A, c, rfl, HO.out, HB.out⟩
end Go.Proofs.YtaldlapnhhhclaaGreat.Bt
/- What was sealed is got; what was turned is not; in plain words. Conditions: none. -/
namespace Go.Proofs.YtaldlapnhhhclaaGreat.Seal
open Go.RowKit Tw
open Crc (le sealed le_length sealed_length turn four4 run run_sealed turned no_zero sealed_inj)

theorem get_sealed (b : List UInt8) : get (sealed b) = (b, 0) := by
  have h : (sealed b).take ((sealed b).length - 4) = b := by rw [sealed_length, Nat.add_sub_cancel, sealed, List.take_left]
  rw [get_ok (by rw [sealed_length]; omega) (by rw [h]), h]
theorem fold_be (k n : Nat) : ∀ a, (Num.be k n).foldl (fun n (c : UInt8) => n * 256 + c.toNat) a = a * 256 ^ k + n % 256 ^ k := by
  induction k with
  | zero => intro a; simp [Num.be, Nat.mod_one]
  | succ k ih =>
    intro a
    rw [Num.be, List.foldl_cons, ih]
    have h1 : (UInt8.ofNat (n / 256 ^ k)).toNat = n / 256 ^ k % 256 := by simp
    rw [h1, Nat.pow_succ, Nat.mod_mul, Nat.add_mul, Nat.mul_assoc, Nat.mul_comm 256 (256 ^ k), Nat.mul_comm (n / 256 ^ k % 256)]
    omega
theorem val_be' (k n : Nat) (h : n < 256 ^ k) : Num.val (Num.be k n) = n := by
  have := fold_be k n 0
  unfold Num.val
  rw [this, Nat.mod_eq_of_lt h]
  omega
theorem opened_rec {x y : Nat} (hx : x < 4294967296) (hy : y < 18446744073709551616) : opened (rec x y) = (x, y, true) := by
  have hl := rec_length x y
  have e : rec x y = Num.be 4 x ++ (Num.be 8 y ++ le 4 (Crc.sum (Num.be 4 x ++ Num.be 8 y))) := by simp [rec, sealed]
  have h4 : Num.gv 4 (rec x y) = x := by
    rw [Num.gv_yes (by omega), e, List.take_left' (Num.be_length 4 x), val_be' 4 x (by simpa using hx)]
  have h8 : Num.gv 8 ((rec x y).drop 4) = y := by
    rw [Num.gv_yes (by rw [List.length_drop]; omega), e, List.drop_left' (Num.be_length 4 x), List.take_left' (Num.be_length 8 y), val_be' 8 y (by simpa using hy)]
  rw [opened_yes (by rw [h4, h8]), h4, h8]
theorem opened_zero : opened (List.replicate 16 0) = (0, 0, false) := by
  refine opened_no fun h => no_zero ?_
  have e : rec (Num.gv 4 (List.replicate 16 0)) (Num.gv 8 ((List.replicate 16 0).drop 4)) = sealed (List.replicate 12 0) := by
    have h4 : Num.gv 4 (List.replicate 16 0) = 0 := by decide +kernel
    have h8 : Num.gv 8 ((List.replicate 16 (0 : UInt8)).drop 4) = 0 := by decide +kernel
    rw [h4, h8]
    rfl
  rw [← e, h]

/-- k bytes of a number at a place, noughts else -/
def bits4 (a k m s : Nat) : List UInt8 := List.replicate a 0 ++ le k s ++ List.replicate (m - a - k) 0
theorem le_get (s : Nat) : ∀ k i, i < k → (le k s)[i]? = some (UInt8.ofNat (s / 256 ^ i % 256))
  | 0, _, h => by omega
  | k + 1, i, h => by
    rw [le]
    by_cases hi : i < k
    · rw [List.getElem?_append_left (by rw [le_length]; exact hi)]
      exact le_get s k i hi
    · have : i = k := by omega
      subst this
      rw [List.getElem?_append_right (by rw [le_length]; omega), le_length]
      simp
theorem bits4_length {a k m s : Nat} (h : a + k ≤ m) : (bits4 a k m s).length = m := by simp [bits4, le_length]; omega
theorem bits4_get {a k m s j : Nat} (h : a + k ≤ m) (hj : j < m) : (bits4 a k m s)[j]? = some (if a ≤ j ∧ j < a + k then UInt8.ofNat (s / 256 ^ (j - a) % 256) else 0) := by
  unfold bits4
  by_cases h1 : j < a
  · rw [List.append_assoc, List.getElem?_append_left (by simpa using h1), if_neg (by omega)]
    simp [h1]
  · by_cases h2 : j < a + k
    · rw [List.append_assoc, List.getElem?_append_right (by simp; omega), List.getElem?_append_left (by simp [le_length]; omega), if_pos ⟨by omega, h2⟩]
      simp only [List.length_replicate]
      exact le_get s k (j - a) (by omega)
    · rw [List.getElem?_append_right (by simp [le_length]; omega), if_neg (by omega), List.length_append, List.length_replicate, le_length, List.getElem?_replicate, if_pos (by omega)]
theorem turn_get {p d : List UInt8} {j : Nat} {x y : UInt8} (h1 : p[j]? = some x) (h2 : d[j]? = some y) : (turn p d)[j]? = some (x ^^^ y) := by
  unfold turn
  rw [List.getElem?_zipWith, h1, h2]
theorem turn_length {p d : List UInt8} (h : p.length = d.length) : (turn p d).length = p.length := by simp [turn, h]
theorem turn_bits_get {p : List UInt8} {a k m s j : Nat} {x : UInt8} (hp : p.length = m) (h : a + k ≤ m) (hx : p[j]? = some x) :
    (turn p (bits4 a k m s))[j]? = some (if a ≤ j ∧ j < a + k then x ^^^ UInt8.ofNat (s / 256 ^ (j - a) % 256) else x) := by
  have hj : j < m := by have := (List.getElem?_eq_some_iff.1 hx).1; omega
  rw [turn_get hx (bits4_get h hj)]
  split <;> simp
theorem turn_bits_none {p : List UInt8} {a m s : Nat} (hp : p.length = m) (h : a ≤ m) : turn p (bits4 a 0 m s) = p := by
  refine List.ext_getElem? fun j => ?_
  by_cases hj : j < m
  · rw [turn_bits_get hp (by omega) (List.getElem?_eq_getElem (by omega)), if_neg (by omega), List.getElem?_eq_getElem (by omega)]
  · rw [List.getElem?_eq_none (by rw [turn_length (by rw [bits4_length (by omega)]; exact hp)]; omega), List.getElem?_eq_none (by omega)]
theorem turn_bits_next {p : List UInt8} {a k m s : Nat} {x : UInt8} (hp : p.length = m) (h : a + (k + 1) ≤ m) (hx : p[a + k]? = some x) :
    (turn p (bits4 a k m s)).set (a + k) (x ^^^ UInt8.ofNat (s / 256 ^ k % 256)) = turn p (bits4 a (k + 1) m s) := by
  have hl : (turn p (bits4 a k m s)).length = m := by rw [turn_length (by rw [bits4_length (by omega)]; exact hp), hp]
  have hl2 : (turn p (bits4 a (k + 1) m s)).length = m := by rw [turn_length (by rw [bits4_length (by omega)]; exact hp), hp]
  refine List.ext_getElem? fun j => ?_
  by_cases hj : j < m
  · rw [turn_bits_get hp (by omega) (List.getElem?_eq_getElem (by omega))]
    by_cases he : j = a + k
    · subst he
      rw [List.getElem?_set_self (by omega), if_pos (by omega), Nat.add_sub_cancel_left]
      have h2 : p[a + k]? = some (p[a + k]'(by omega)) := List.getElem?_eq_getElem (by omega)
      rw [h2] at hx
      injection hx with hx
      rw [hx]
    · rw [List.getElem?_set_ne (by omega), turn_bits_get hp (by omega) (List.getElem?_eq_getElem (by omega))]
      by_cases h3 : a ≤ j ∧ j < a + k
      · rw [if_pos h3, if_pos (by omega)]
      · rw [if_neg h3, if_neg (by omega)]
  · rw [List.getElem?_eq_none (by simp; omega), List.getElem?_eq_none (by omega)]
theorem bits4_four (a m s : Nat) : bits4 a 4 m s = four4 a (m - a - 4) s := rfl
theorem get_turned (b : List UInt8) {a s : Nat} (hs : s < 4294967296) (h0 : s ≠ 0) (ha : a ≤ b.length) : get (turn (sealed b) (bits4 a 4 (b.length + 4) s)) = ([], 10) := by
  have hl : (turn (sealed b) (bits4 a 4 (b.length + 4) s)).length = b.length + 4 := by rw [turn_length (by rw [bits4_length (by omega), sealed_length]), sealed_length]
  refine get_sum (by omega) fun h => ?_
  rw [bits4_four] at h
  exact turned (sealed b) a (b.length + 4 - a - 4) s hs h0 (run_sealed b) (by rw [sealed_length]; omega) _ h.symm
theorem opened_turned {x y a s : Nat} (hs : s < 4294967296) (h0 : s ≠ 0) (ha : a ≤ 12) : opened (turn (rec x y) (bits4 a 4 16 s)) = (0, 0, false) := by
  refine opened_no fun h => ?_
  rw [bits4_four] at h
  exact turned (rec x y) a (16 - a - 4) s hs h0 (run_sealed _) (by rw [rec_length]; omega) _ h.symm
end Go.Proofs.YtaldlapnhhhclaaGreat.Seal
/- What a crash leaves of a ring of slots, plainly. Conditions: none. -/
namespace Go.Proofs.YtaldlapnhhhclaaGreat.Slots
open Tw Disk Seal Dsk

/-- nothing is cached, and the disk works -/
structure Clean (d : Dsk) : Prop where
  none : ∀ c ∈ d.cells, c.2 = none
  up : d.broken = false
/-- the cells off a ring are as they were -/
structure Off (d d' : Dsk) (b s : Int) : Prop where
  len : d'.cells.length = d.cells.length
  off : ∀ i : Nat, ¬ (b ≤ (i : Int) ∧ (i : Int) < b + s) → d'.cells[i]? = d.cells[i]?
theorem Off.refl (d : Dsk) (b s : Int) : Off d d b s := ⟨rfl, fun _ _ => rfl⟩
theorem Off.trans {d d1 d2 : Dsk} {b s : Int} (h : Off d d1 b s) (k : Off d1 d2 b s) : Off d d2 b s := ⟨k.len.trans h.len, fun i hi => (k.off i hi).trans (h.off i hi)⟩
theorem keep_same (mask : Nat) : ∀ (l : List Cl) (i : Nat), (∀ c ∈ l, c.2 = none) → keep mask i l = l
  | [], _, _ => rfl
  | (s, none) :: r, i, h => by rw [keep, keep_same mask r i fun c hc => h c (List.mem_cons_of_mem _ hc)]
  | (s, some f) :: r, i, h => by
    have := h (s, some f) List.mem_cons_self
    cases this
theorem Clean.crash_cells {d : Dsk} (h : Clean d) (mask : Nat) : (d.crash mask).cells = d.cells := keep_same mask d.cells 0 h.none
theorem clean_crash (d : Dsk) (mask : Nat) : Clean (d.crash mask) := ⟨keep_none mask _ _, rfl⟩
theorem clean_new (n : Nat) : Clean (Dsk.new n) := ⟨fun c hc => by rw [List.eq_of_mem_replicate hc]; rfl, rfl⟩
theorem Clean.fused {d : Dsk} (h : Clean d) (k : Int) : Clean (d.setFuse k) := ⟨h.none, h.up⟩
theorem view_none {c : Cl} (h : c.2 = none) : view c = c.1 := by
  unfold Disk.view
  rw [h]
  rfl
theorem cell_of {d : Dsk} {x : Int} {c : Cl} (h : d.cells[x.toNat]? = some c) : d.cell x = c := by
  unfold Dsk.cell
  rw [List.getD_eq_getElem?_getD, h]
  rfl
theorem readAt_up {d : Dsk} {x : Int} (h : d.has x) (hb : d.broken = false) (b s : Int) : readAt d b s x = told b s x (view (d.cell x)) := by
  unfold readAt Dsk.read
  rw [if_pos h, hb]
  rfl
theorem readAt_down {d : Dsk} (hb : d.broken = true) (b s x : Int) : readAt d b s x = (0, 0) := by
  unfold readAt Dsk.read
  rw [hb]
  split <;> simp
theorem best_down {d : Dsk} (hb : d.broken = true) (b s : Int) (k : Nat) : best d b s k = (0, 0) := by
  induction k with
  | zero => rfl
  | succ k ih =>
    unfold best
    rw [ih, readAt_down hb]
    rfl
theorem latest_down {d : Dsk} (hb : d.broken = true) (b s : Int) : latest d b s = (0, 0) := by
  unfold latest
  split
  · exact best_down hb _ _ _
  · rfl
theorem best_congr {d d' : Dsk} {b s : Int} : ∀ k : Nat, (∀ i : Nat, i < k → readAt d' b s (b + (i : Int)) = readAt d b s (b + (i : Int))) → best d' b s k = best d b s k
  | 0, _ => rfl
  | k + 1, h => by
    unfold best
    rw [best_congr k fun i hi => h i (by omega), h k (by omega)]
theorem best_mem (d : Dsk) (b s : Int) : ∀ k : Nat, best d b s k = (0, 0) ∨ ∃ i : Nat, i < k ∧ best d b s k = readAt d b s (b + (i : Int))
  | 0 => .inl rfl
  | k + 1 => by
    unfold best better
    split
    · exact .inr ⟨k, by omega, rfl⟩
    · rcases best_mem d b s k with h | ⟨i, hi, h⟩
      · exact .inl h
      · exact .inr ⟨i, by omega, h⟩
theorem best_ge (d : Dsk) (b s : Int) : ∀ (k i : Nat), i < k → (readAt d b s (b + (i : Int))).1 ≤ (best d b s k).1
  | 0, _, h => absurd h (by omega)
  | k + 1, i, h => by
    unfold best better
    by_cases hi : i = k
    · subst hi
      split <;> omega
    · have := best_ge d b s k i (by omega)
      split <;> omega
theorem best_only {d : Dsk} {b s : Int} {j N x : Nat} (hj : readAt d b s (b + (j : Int)) = (N, x)) (hN : 0 < N) : ∀ k : Nat, j < k → (∀ i : Nat, i < k → i ≠ j → (readAt d b s (b + (i : Int))).1 < N) → best d b s k = (N, x)
  | 0, h, _ => absurd h (by omega)
  | k + 1, h, ho => by
    unfold best better
    by_cases hi : j = k
    · subst hi
      rw [hj, if_pos ?_]
      show (best d b s j).1 < N
      rcases best_mem d b s j with e | ⟨i, hi, e⟩
      · rw [e]; exact hN
      · rw [e]; exact ho i (by omega) (by omega)
    · have h1 := best_only hj hN k (by omega) fun i hi => ho i (by omega)
      have h2 := ho k (by omega) (by omega)
      rw [h1, if_neg (by simp only; omega)]
theorem told_rec {b s : Int} {n x : Nat} (hn : n < 4294967296) (hx : x < 18446744073709551616) : told b s (place b s n) (rec n x) = (n, x) := by
  unfold told
  rw [opened_rec hn hx]
  simp
/-- the latest of two disks that are alike in the ring -/
theorem latest_congr {d d' : Dsk} {b s : Int} (hl : d'.cells.length = d.cells.length) (h : ∀ i : Nat, i < s.toNat → readAt d' b s (b + (i : Int)) = readAt d b s (b + (i : Int))) : latest d' b s = latest d b s := by
  unfold latest
  rw [hl, best_congr _ h]
theorem readAt_view {d d' : Dsk} {x : Int} (h : d.has x) (hb : d.broken = false) (hb' : d'.broken = false) (hl : d'.cells.length = d.cells.length) (hc : (d'.cells[x.toNat]?).map view = (d.cells[x.toNat]?).map view) (b s : Int) : readAt d' b s x = readAt d b s x := by
  have h' : d'.has x := by rw [has_iff] at h ⊢; omega
  rw [readAt_up h hb, readAt_up h' hb']
  rw [cell_get h, cell_get h'] at hc
  simp only [Option.map_some, Option.some.injEq] at hc
  rw [hc]
theorem readAt_same {d d' : Dsk} {x : Int} (h : d.has x) (hb : d.broken = false) (hb' : d'.broken = false) (hl : d'.cells.length = d.cells.length) (hc : d'.cells[x.toNat]? = d.cells[x.toNat]?) (b s : Int) : readAt d' b s x = readAt d b s x :=
  readAt_view h hb hb' hl (by rw [hc]) b s
theorem latest_cells {d d' : Dsk} (hb : d.broken = false) (hb' : d'.broken = false) (hc : d'.cells = d.cells) (b s : Int) : latest d' b s = latest d b s := by
  by_cases hon : On b s d.cells.length
  · refine latest_congr (by rw [hc]) fun i hi => ?_
    obtain ⟨⟨r1, r2, r3, r4⟩, r5⟩ := hon
    exact readAt_same ((has_iff _ _).2 (by omega)) hb hb' (by rw [hc]) (by rw [hc]) _ _
  · unfold latest
    rw [hc, if_neg hon, if_neg hon]
/-- what is seen of the cells off a ring is as it was -/
structure OffV (d d' : Dsk) (b s : Int) : Prop where
  len : d'.cells.length = d.cells.length
  off : ∀ i : Nat, ¬ (b ≤ (i : Int) ∧ (i : Int) < b + s) → (d'.cells[i]?).map view = (d.cells[i]?).map view
theorem Off.view {d d' : Dsk} {b s : Int} (h : Off d d' b s) : OffV d d' b s := ⟨h.len, fun i hi => by rw [h.off i hi]⟩
theorem OffV.latest {d d' : Dsk} {b s : Int} (h : OffV d d' b s) (hb : d.broken = false) (hb' : d'.broken = false) {b2 s2 : Int} (hd : b2 + s2 ≤ b ∨ b + s ≤ b2) : latest d' b2 s2 = latest d b2 s2 := by
  by_cases hon : On b2 s2 d.cells.length
  · refine latest_congr h.len fun i hi => ?_
    obtain ⟨⟨r1, r2, r3, r4⟩, r5⟩ := hon
    exact readAt_view ((has_iff _ _).2 (by omega)) hb hb' h.len (h.off _ (by omega)) _ _
  · unfold Slots.latest
    rw [h.len, if_neg hon, if_neg hon]
theorem Off.latest {d d' : Dsk} {b s : Int} (h : Off d d' b s) (hb : d.broken = false) (hb' : d'.broken = false) {b2 s2 : Int} (hd : b2 + s2 ≤ b ∨ b + s ≤ b2) : latest d' b2 s2 = latest d b2 s2 := h.view.latest hb hb' hd
/-- a ring in which one sector has a record that is newer than all -/
theorem latest_new_rec {d d' : Dsk} {b s : Int} {n q x : Nat} (hon : On b s d.cells.length) (hb : d.broken = false) (hb' : d'.broken = false) (hl : latest d b s = (n, q)) (hn : n + 1 < 4294967296) (hx : x < 18446744073709551616)
    (hlen : d'.cells.length = d.cells.length) (hat : view (d'.cell (place b s (n + 1))) = rec (n + 1) x) (hoff : ∀ i : Nat, (i : Int) ≠ place b s (n + 1) → (d'.cells[i]?).map view = (d.cells[i]?).map view) : latest d' b s = (n + 1, x) := by
  have hp := place_on hon (n + 1)
  have hps : place b s (n + 1) < b + s := by
    obtain ⟨⟨r1, r2, r3, r4⟩, r5⟩ := hon
    unfold place
    have h1 : (n + 1) % s.toNat < s.toNat := Nat.mod_lt _ (by omega)
    omega
  obtain ⟨j, hj⟩ : ∃ j : Nat, place b s (n + 1) = b + (j : Int) := ⟨(n + 1) % s.toNat, rfl⟩
  have hon' : On b s d'.cells.length := by rw [hlen]; exact hon
  have hr := hon.1
  obtain ⟨r1, r2, r3, r4⟩ := hr
  unfold latest at hl ⊢
  rw [if_pos hon] at hl
  rw [if_pos hon']
  have hj1 : readAt d' b s (b + (j : Int)) = (n + 1, x) := by
    rw [← hj, readAt_up ((has_iff _ _).2 (by omega)) hb', hat, told_rec hn hx]
  refine best_only hj1 (by omega) _ (by omega) fun i hi hne => ?_
  have h5 := hon.2
  rw [readAt_view (d := d) ((has_iff _ _).2 (by omega)) hb hb' hlen (by
    have := hoff (b + (i : Int)).toNat (by omega)
    exact this)]
  have := best_ge d b s s.toNat i hi
  rw [hl] at this
  simp only at this
  omega
theorem place_in {b s : Int} {N : Nat} (hon : On b s N) (n : Nat) : b ≤ place b s n ∧ place b s n < b + s := by
  obtain ⟨⟨r1, r2, r3, r4⟩, r5⟩ := hon
  unfold place
  have h1 : n % s.toNat < s.toNat := Nat.mod_lt _ (by omega)
  omega
theorem write_done {d : Dsk} {P : Int} {R : Sec} (h : (d.write P R).2 = 0) : d.broken = false ∧ d.has P ∧ ∃ f o, (d.write P R).1 = { d.put P R with fuse := f, ops := o } := by
  unfold Dsk.write at h ⊢
  by_cases hP : d.has P
  · rw [if_pos hP] at h ⊢
    by_cases hs : d.spend.2 = 0
    · rw [if_pos hs]
      unfold Dsk.spend at hs ⊢
      by_cases hb : d.burn.broken = true
      · rw [if_pos hb] at hs
        cases hs
      · rw [if_neg hb]
        refine ⟨?_, hP, _, _, rfl⟩
        unfold Dsk.burn at hb
        split at hb
        · simp at hb
        · simpa using hb
    · rw [if_neg hs] at h
      exact absurd h hs
  · rw [if_neg hP] at h
    cases h
theorem flush_done {d : Dsk} (h : d.flush.2 = 0) : d.broken = false ∧ ∃ f o, d.flush.1 = { d.allSafe with fuse := f, ops := o } := by
  unfold Dsk.flush at h ⊢
  by_cases hs : d.spend.2 = 0
  · rw [if_pos hs]
    unfold Dsk.spend at hs ⊢
    by_cases hb : d.burn.broken = true
    · rw [if_pos hb] at hs
      cases hs
    · rw [if_neg hb]
      refine ⟨?_, _, _, rfl⟩
      unfold Dsk.burn at hb
      split at hb
      · simp at hb
      · simpa using hb
  · rw [if_neg hs] at h
    exact absurd h hs
/-- a Put that is done: the word is there, on any disk -/
theorem sput_now {d d' : Dsk} {b s : Int} {x : Nat} (hx : x < 18446744073709551616) (h : sput d b s x = (d', 0)) :
    d.broken = false ∧ d'.broken = false ∧ (latest d b s).1 + 1 < 4294967296 ∧ latest d' b s = ((latest d b s).1 + 1, x) ∧ OffV d d' b s ∧ On b s d.cells.length := by
  have hll := (latest_lt d b s).1
  unfold sput at h
  by_cases hon : On b s d.cells.length
  · rw [if_pos hon] at h
    by_cases hb : d.broken = true
    · rw [if_pos hb] at h
      cases h
    · rw [if_neg hb] at h
      by_cases hm : (latest d b s).1 = 4294967295
      · rw [if_pos hm] at h
        cases h
      · rw [if_neg hm] at h
        have hn : (latest d b s).1 + 1 < 4294967296 := by omega
        obtain ⟨⟨n, q⟩, hl⟩ : ∃ r, latest d b s = r := ⟨_, rfl⟩
        rw [hl] at h hn hm ⊢
        simp only at h hn ⊢
        by_cases hw : (d.write (place b s (n + 1)) (rec (n + 1) x)).2 = 0
        · rw [if_pos hw] at h
          obtain ⟨hb1, hP, f, o, he⟩ := write_done hw
          rw [he] at h
          obtain ⟨hb2, f2, o2, he2⟩ := flush_done (by rw [h])
          rw [h] at he2
          simp only at he2
          subst he2
          have hcl : (place b s (n + 1)).toNat < d.cells.length := by have := (has_iff _ _).1 hP; omega
          have hp := place_in hon (n + 1)
          have hz := place_on hon (n + 1)
          have hoff : ∀ i : Nat, (i : Int) ≠ place b s (n + 1) → (((d.cells.set (place b s (n + 1)).toNat ((d.cell (place b s (n + 1))).1, some (rec (n + 1) x))).map fun c => ((Disk.view c, none) : Cl))[i]?).map view = (d.cells[i]?).map view := fun i hi => by
            rw [List.getElem?_map, List.getElem?_set_ne (by omega), Option.map_map]
            rfl
          refine ⟨hb1, hb1, hn, ?_, ⟨by simp [Dsk.put, Dsk.allSafe], fun i hi => hoff i (by omega)⟩, hon⟩
          refine latest_new_rec hon hb1 hb1 hl hn hx (by simp [Dsk.put, Dsk.allSafe]) ?_ hoff
          rw [cell_of (c := (rec (n + 1) x, none)) ?_]
          · rfl
          · show ((d.cells.set (place b s (n + 1)).toNat ((d.cell (place b s (n + 1))).1, some (rec (n + 1) x))).map fun c => ((view c, none) : Cl))[(place b s (n + 1)).toNat]? = _
            rw [List.getElem?_map, List.getElem?_set_self hcl]
            rfl
        · rw [if_neg hw] at h
          rw [h] at hw
          exact absurd rfl hw
  · rw [if_neg hon] at h
    cases h
theorem set_off {d : Dsk} {P : Int} (c : Cl) {i : Nat} (h : (i : Int) ≠ P) (hP : 0 ≤ P) : (d.cells.set P.toNat c)[i]? = d.cells[i]? := by
  rw [List.getElem?_set_ne (by omega)]
/-- what a Put does to a disk on which nothing is cached -/
theorem sput_cases {d : Dsk} {b s : Int} {n q : Nat} (hc : Clean d) (hon : On b s d.cells.length) (hl : latest d b s = (n, q)) (hn : n ≠ 4294967295) (x : Nat) (hf : -1 ≤ d.fuse) :
    (d.fuse = 0 ∧ sput d b s x = ({ d with broken := true }, 3)) ∨
    (d.fuse = 1 ∧ sput d b s x = ({ d.put (place b s (n + 1)) (rec (n + 1) x) with fuse := 0, ops := d.ops + 1, broken := true }, 3)) ∨
    ((d.fuse < 0 ∨ 2 ≤ d.fuse) ∧ sput d b s x = ({ (d.put (place b s (n + 1)) (rec (n + 1) x)).allSafe with fuse := if 0 < d.fuse then d.fuse - 2 else d.fuse, ops := d.ops + 2 }, 0)) := by
  have hp := place_on hon (n + 1)
  have hP : d.has (place b s (n + 1)) := (has_iff _ _).2 (by omega)
  have hup := hc.up
  unfold sput
  rw [if_pos hon, if_neg (by rw [hup]; simp), hl]
  simp only
  rw [if_neg hn]
  generalize place b s (n + 1) = P at *
  generalize rec (n + 1) x = R at *
  obtain ⟨cells, fuse, broken, ops⟩ := d
  simp only at hup hf
  subst hup
  unfold Dsk.write
  rw [if_pos hP]
  by_cases h0 : fuse = 0
  · subst h0
    left
    refine ⟨rfl, ?_⟩
    simp [Dsk.spend, Dsk.burn]
  · by_cases h1 : fuse = 1
    · subst h1
      right; left
      refine ⟨rfl, ?_⟩
      simp [Dsk.spend, Dsk.burn, Dsk.put, Dsk.flush, Dsk.cell]
    · right; right
      refine ⟨by simp only; omega, ?_⟩
      by_cases hpos : 0 < fuse
      · have h2 : ¬ fuse - 1 = 0 := by omega
        have h3 : 0 < fuse - 1 := by omega
        have h4 : fuse - 1 - 1 = fuse - 2 := by omega
        have h5 : 1 < fuse := by omega
        simp [Dsk.spend, Dsk.burn, Dsk.put, Dsk.flush, Dsk.cell, Dsk.allSafe, h0, hpos, h2, h3, h4, h5]
      · simp [Dsk.spend, Dsk.burn, Dsk.put, Dsk.flush, Dsk.cell, Dsk.allSafe, h0, hpos]
theorem put_off {d : Dsk} {b s : Int} (hon : On b s d.cells.length) (n : Nat) (R : Sec) : Off d (d.put (place b s n) R) b s := by
  have hp := place_in hon n
  have hq := place_on hon n
  exact ⟨by simp [Dsk.put], fun i hi => set_off _ (by omega) hq.1⟩
theorem safe_cells {l : List Cl} {i : Nat} (h : ∀ c, l[i]? = some c → c.2 = none) : (l.map fun c => ((view c, none) : Cl))[i]? = l[i]? := by
  rw [List.getElem?_map]
  cases hc : l[i]? with
  | none => rfl
  | some c =>
    have h1 := h c hc
    obtain ⟨c1, c2⟩ := c
    simp only at h1
    subst h1
    rfl
structure Put0 (d d' : Dsk) (b s : Int) (n x : Nat) : Prop where
  fuse : d.fuse < 0 ∨ 2 ≤ d.fuse
  clean : Clean d'
  now : latest d' b s = (n + 1, x)
  off : Off d d' b s
  fuse' : d'.fuse = if 0 < d.fuse then d.fuse - 2 else d.fuse
  ops : d'.ops = d.ops + 2
structure Put3 (d d' : Dsk) (b s : Int) (n q x : Nat) : Prop where
  fuse : 0 ≤ d.fuse ∧ d.fuse < 2
  down : d'.broken = true
  ops : d'.ops ≤ d.ops + 1
  or : ∀ mask, latest (d'.crash mask) b s = (n, q) ∨ latest (d'.crash mask) b s = (n + 1, x)
  off : ∀ mask, Off d (d'.crash mask) b s
  len : d'.cells.length = d.cells.length
/-- a Put on a disk on which nothing is cached: it is done, or the disk broke, and a crash leaves the old word or the new one -/
theorem sput_safe {d d' : Dsk} {b s : Int} {n q x e : Nat} (hc : Clean d) (hf : -1 ≤ d.fuse) (hon : On b s d.cells.length) (hl : latest d b s = (n, q)) (hn : n + 1 < 4294967296) (hx : x < 18446744073709551616) (hs : sput d b s x = (d', e)) :
    (e = 0 ∧ Put0 d d' b s n x) ∨ (e = 3 ∧ Put3 d d' b s n q x) := by
  have hp := place_on hon (n + 1)
  have hP : d.has (place b s (n + 1)) := (has_iff _ _).2 (by omega)
  have hcl : (place b s (n + 1)).toNat < d.cells.length := by omega
  have hof := put_off hon (n + 1) (rec (n + 1) x)
  have hpi := place_in hon (n + 1)
  have hnone : ∀ (i : Nat) (c : Cl), d.cells[i]? = some c → c.2 = none := fun i c h => hc.none c (List.mem_of_getElem? h)
  have hcell := cell_get hP
  have hcn := hnone _ _ hcell
  have hset : (d.put (place b s (n + 1)) (rec (n + 1) x)).cells = d.cells.set (place b s (n + 1)).toNat ((d.cell (place b s (n + 1))).1, some (rec (n + 1) x)) := rfl
  have hon1 := hon
  rcases sput_cases hc hon hl (by omega) x hf with ⟨f0, h⟩ | ⟨f1, h⟩ | ⟨f2, h⟩
  · rw [h] at hs
    obtain ⟨rfl, rfl⟩ := Prod.mk.inj hs
    refine .inr ⟨rfl, ⟨by omega, rfl, Nat.le_succ _, fun mask => .inl ?_, fun mask => ?_, rfl⟩⟩
    · rw [latest_cells hc.up (clean_crash _ mask).up ?_, hl]
      exact hc.crash_cells mask
    · have h1 : (({ d with broken := true } : Dsk).crash mask).cells = d.cells := hc.crash_cells mask
      exact ⟨by rw [h1], fun i _ => by rw [h1]⟩
  · rw [h] at hs
    obtain ⟨rfl, rfl⟩ := Prod.mk.inj hs
    have hk : ∀ mask, (({ d.put (place b s (n + 1)) (rec (n + 1) x) with fuse := 0, ops := d.ops + 1, broken := true } : Dsk).crash mask).cells = keep mask 0 (d.cells.set (place b s (n + 1)).toNat ((d.cell (place b s (n + 1))).1, some (rec (n + 1) x))) := fun mask => rfl
    have hoffk : ∀ (mask i : Nat), (i : Int) ≠ place b s (n + 1) → (keep mask 0 (d.cells.set (place b s (n + 1)).toNat ((d.cell (place b s (n + 1))).1, some (rec (n + 1) x))))[i]? = d.cells[i]? := fun mask i hi => by
      cases hci : d.cells[i]? with
      | none =>
        rw [List.getElem?_eq_none_iff] at hci ⊢
        rw [keep_len, List.length_set]
        exact hci
      | some c =>
        have h1 := hnone i c hci
        obtain ⟨c1, c2⟩ := c
        simp only at h1
        subst h1
        exact keep_get mask _ 0 i c1 (by rw [set_off _ hi hp.1]; exact hci)
    have hlen : ∀ mask, (keep mask 0 (d.cells.set (place b s (n + 1)).toNat ((d.cell (place b s (n + 1))).1, some (rec (n + 1) x)))).length = d.cells.length := fun mask => by rw [keep_len, List.length_set]
    refine .inr ⟨rfl, ⟨by omega, rfl, Nat.le_refl _, fun mask => ?_, fun mask => ⟨by rw [hk]; exact hlen mask, fun i hi => by rw [hk]; exact hoffk mask i (by omega)⟩, by simp [Dsk.put]⟩⟩
    obtain ⟨s', h1, h2⟩ := keep_or mask (d.cells.set (place b s (n + 1)).toNat ((d.cell (place b s (n + 1))).1, some (rec (n + 1) x))) 0 (place b s (n + 1)).toNat _ (List.getElem?_set_self hcl)
    rcases h2 with h2 | h2
    · left
      simp only at h2
      rw [latest_cells hc.up (clean_crash _ mask).up ?_, hl]
      rw [hk]
      refine List.ext_getElem? fun i => ?_
      by_cases hi : (i : Int) = place b s (n + 1)
      · obtain rfl : i = (place b s (n + 1)).toNat := by omega
        rw [h1, hcell, h2]
        generalize d.cell (place b s (n + 1)) = c at *
        obtain ⟨c1, c2⟩ := c
        simp only at hcn
        subst hcn
        rfl
      · exact hoffk mask i hi
    · right
      injection h2 with h2
      refine latest_new_rec hon hc.up (clean_crash _ mask).up hl hn hx (by rw [hk]; exact hlen mask) ?_ fun i hi => by rw [hk, hoffk mask i hi]
      rw [cell_of (c := (s', none)) (by rw [hk]; exact h1), h2]
      rfl
  · rw [h] at hs
    obtain ⟨rfl, rfl⟩ := Prod.mk.inj hs
    have hk : ((d.put (place b s (n + 1)) (rec (n + 1) x)).allSafe).cells = (d.cells.set (place b s (n + 1)).toNat ((d.cell (place b s (n + 1))).1, some (rec (n + 1) x))).map fun c => (view c, none) := rfl
    have hoffs : ∀ i : Nat, (i : Int) ≠ place b s (n + 1) → ((d.cells.set (place b s (n + 1)).toNat ((d.cell (place b s (n + 1))).1, some (rec (n + 1) x))).map fun c => ((view c, none) : Cl))[i]? = d.cells[i]? := fun i hi => by
      rw [safe_cells ?_, set_off _ hi hp.1]
      intro c hc'
      rw [set_off _ hi hp.1] at hc'
      exact hnone i c hc'
    have hlen : ((d.cells.set (place b s (n + 1)).toNat ((d.cell (place b s (n + 1))).1, some (rec (n + 1) x))).map fun c => ((view c, none) : Cl)).length = d.cells.length := by simp
    refine .inl ⟨rfl, ⟨f2, ⟨fun c hc' => ?_, hc.up⟩, ?_, ⟨hlen, fun i hi => hoffs i (by omega)⟩, rfl, rfl⟩⟩
    · obtain ⟨c', _, rfl⟩ := List.mem_map.1 hc'
      rfl
    · refine latest_new_rec hon hc.up hc.up hl hn hx hlen ?_ fun i hi => congrArg (Option.map view) (hoffs i hi)
      rw [cell_of (c := (rec (n + 1) x, none)) ?_]
      · rfl
      · show ((d.cells.set (place b s (n + 1)).toNat ((d.cell (place b s (n + 1))).1, some (rec (n + 1) x))).map fun c => ((view c, none) : Cl))[(place b s (n + 1)).toNat]? = _
        rw [List.getElem?_map, List.getElem?_set_self hcl]
        rfl
end Go.Proofs.YtaldlapnhhhclaaGreat.Slots
/- What a crash leaves of a boot's number, a log and a bitmap, plainly. Conditions: none. -/
namespace Go.Proofs.YtaldlapnhhhclaaGreat.Slots
open Tw Disk Seal Dsk

theorem latest_fuse (d : Dsk) (k : Int) (b s : Int) : latest (d.setFuse k) b s = latest d b s := by
  by_cases hb : d.broken = true
  · rw [latest_down hb, latest_down (d := d.setFuse k) hb]
  · have hb' : d.broken = false := by simpa using hb
    exact latest_cells (d' := d.setFuse k) hb' hb' rfl b s
theorem Clean.latest_crash {d : Dsk} (h : Clean d) (mask : Nat) (b s : Int) : latest (d.crash mask) b s = latest d b s := latest_cells h.up rfl (h.crash_cells mask) b s
theorem sput_full {d : Dsk} {b s : Int} (h : (latest d b s).1 = 4294967295) (hon : On b s d.cells.length) (hb : d.broken = false) (x : Nat) : sput d b s x = (d, 13) := by
  unfold sput
  rw [if_pos hon, if_neg (by simp [hb]), if_pos h]
theorem sput_broken {d : Dsk} {b s : Int} (hon : On b s d.cells.length) (hb : d.broken = true) (x : Nat) : sput d b s x = (d, 3) := by
  unfold sput
  rw [if_pos hon, if_pos hb]
/-- the boot's number -/
def boot (d : Dsk) : Nat := (latest d 0 2).2 % 4294967296
theorem boot_lt (d : Dsk) : boot d < 4294967296 := Nat.mod_lt _ (by omega)
/-- one start more: the disk, the number, the error -/
def snext (d : Dsk) : Dsk × Nat × Nat :=
  if boot d = 4294967295 then (d, 0, 13) else if (sput d 0 2 (boot d + 1)).2 = 0 then ((sput d 0 2 (boot d + 1)).1, boot d + 1, 0) else ((sput d 0 2 (boot d + 1)).1, 0, (sput d 0 2 (boot d + 1)).2)
/-- no boot's number that was told is lost -/
structure Rises (d : Dsk) (last : Nat) : Prop where
  len : d.cells.length = 8
  fuse : -1 ≤ d.fuse
  or : (Clean d ∧ last ≤ boot d) ∨ (d.broken = true ∧ ∀ mask, last ≤ boot (d.crash mask))
theorem on8 {d : Dsk} (h : d.cells.length = 8) : On 0 2 d.cells.length := by
  rw [h]
  unfold On RingOk
  omega
theorem Rises.new : Rises (Dsk.new 8) 0 := ⟨by simp [Dsk.new], by simp [Dsk.new], .inl ⟨clean_new 8, Nat.zero_le _⟩⟩
theorem Rises.crash {d : Dsk} {last : Nat} (h : Rises d last) (mask : Nat) : Rises (d.crash mask) last := by
  refine ⟨by rw [show (d.crash mask).cells.length = _ from keep_len mask d.cells 0]; exact h.len, by simp [Dsk.crash], .inl ⟨clean_crash d mask, ?_⟩⟩
  rcases h.or with ⟨hc, hl⟩ | ⟨_, hl⟩
  · unfold boot
    rw [hc.latest_crash]
    exact hl
  · exact hl mask
theorem Rises.fused {d : Dsk} {last : Nat} (h : Rises d last) (k : Int) : Rises (d.setFuse k) last := by
  refine ⟨h.len, by simp [Dsk.setFuse]; omega, ?_⟩
  rcases h.or with ⟨hc, hl⟩ | ⟨hb, hl⟩
  · exact .inl ⟨hc.fused k, by unfold boot; rw [latest_fuse]; exact hl⟩
  · exact .inr ⟨hb, hl⟩
theorem Rises.next {d d' : Dsk} {last m e : Nat} (h : Rises d last) (hs : snext d = (d', m, e)) : (e = 0 → last < m ∧ Rises d' m) ∧ (e ≠ 0 → m = 0 ∧ Rises d' last) := by
  have hon := on8 h.len
  have hbl := boot_lt d
  unfold snext at hs
  by_cases hm : boot d = 4294967295
  · rw [if_pos hm] at hs
    obtain ⟨rfl, hs2⟩ := Prod.mk.inj hs
    obtain ⟨rfl, rfl⟩ := Prod.mk.inj hs2
    exact ⟨fun e => (by cases e), fun _ => ⟨rfl, h⟩⟩
  · rw [if_neg hm] at hs
    obtain ⟨⟨d1, e1⟩, h1⟩ : ∃ r, sput d 0 2 (boot d + 1) = r := ⟨_, rfl⟩
    rw [h1] at hs
    rcases h.or with ⟨hc, hl⟩ | ⟨hb, hl⟩
    · obtain ⟨⟨n, q⟩, hq⟩ : ∃ r, latest d 0 2 = r := ⟨_, rfl⟩
      have hq2 : q % 4294967296 = boot d := by unfold boot; rw [hq]
      by_cases hn : n = 4294967295
      · rw [sput_full (by rw [hq]; exact hn) hon hc.up] at h1
        obtain ⟨rfl, rfl⟩ := Prod.mk.inj h1
        simp only at hs
        rw [if_neg (by omega)] at hs
        obtain ⟨rfl, hs2⟩ := Prod.mk.inj hs
        obtain ⟨rfl, rfl⟩ := Prod.mk.inj hs2
        exact ⟨fun e => (by cases e), fun _ => ⟨rfl, h⟩⟩
      · have hnl := (latest_lt d 0 2).1
        rw [hq] at hnl
        rcases sput_safe hc h.fuse hon hq (by simp only at hnl; omega) (by omega) h1 with ⟨rfl, k⟩ | ⟨rfl, k⟩
        · simp only [if_pos] at hs
          obtain ⟨rfl, hs2⟩ := Prod.mk.inj hs
          obtain ⟨rfl, rfl⟩ := Prod.mk.inj hs2
          refine ⟨fun _ => ⟨by omega, ⟨by rw [k.off.len]; exact h.len, by rw [k.fuse']; have := h.fuse; have := k.fuse; split <;> omega, .inl ⟨k.clean, ?_⟩⟩⟩, fun e => absurd rfl e⟩
          show boot d + 1 ≤ (latest d1 0 2).2 % 4294967296
          rw [k.now]
          show boot d + 1 ≤ (boot d + 1) % 4294967296
          omega
        · simp only at hs
          rw [if_neg (by omega)] at hs
          obtain ⟨rfl, hs2⟩ := Prod.mk.inj hs
          obtain ⟨rfl, rfl⟩ := Prod.mk.inj hs2
          refine ⟨fun e => (by cases e), fun _ => ⟨rfl, ⟨by rw [k.len]; exact h.len, ?_, .inr ⟨k.down, fun mask => ?_⟩⟩⟩⟩
          · rcases sput_cases hc hon hq hn (boot d + 1) h.fuse with ⟨f0, e0⟩ | ⟨f1, e1⟩ | ⟨f2, e2⟩
            · rw [e0] at h1
              obtain ⟨rfl, _⟩ := Prod.mk.inj h1
              exact h.fuse
            · rw [e1] at h1
              obtain ⟨rfl, _⟩ := Prod.mk.inj h1
              simp
            · rw [e2] at h1
              cases h1
          · rcases k.or mask with e | e
            · show last ≤ (latest (d1.crash mask) 0 2).2 % 4294967296
              rw [e]
              show last ≤ q % 4294967296
              omega
            · show last ≤ (latest (d1.crash mask) 0 2).2 % 4294967296
              rw [e]
              show last ≤ (boot d + 1) % 4294967296
              omega
    · rw [sput_broken hon hb] at h1
      obtain ⟨rfl, rfl⟩ := Prod.mk.inj h1
      simp only at hs
      rw [if_neg (by omega)] at hs
      obtain ⟨rfl, hs2⟩ := Prod.mk.inj hs
      obtain ⟨rfl, rfl⟩ := Prod.mk.inj hs2
      exact ⟨fun e => (by cases e), fun _ => ⟨rfl, h⟩⟩
/-- a word is put, if it is another one -/
def rput (b s : Int) (d : Dsk) (m : Nat) : Dsk × Nat := if d.broken = true then (d, 3) else if (latest d b s).2 = m then (d, 0) else sput d b s m
structure Rput0 (b s : Int) (d d' : Dsk) (n m : Nat) : Prop where
  clean : Clean d'
  now : ∃ n', n' ≤ n + 1 ∧ latest d' b s = (n', m)
  off : Off d d' b s
  fuse1 : d.fuse < 0 → d'.fuse = d.fuse
  fuse2 : 0 ≤ d.fuse → d.fuse - 2 ≤ d'.fuse ∧ 0 ≤ d'.fuse ∧ d'.fuse ≤ d.fuse
  ops : d'.ops ≤ d.ops + 2
theorem rput_safe {b s : Int} {d d' : Dsk} {n q m e : Nat} (hc : Clean d) (hf : -1 ≤ d.fuse) (hon : On b s d.cells.length) (hl : latest d b s = (n, q)) (hn : n + 1 < 4294967296) (hm : m < 18446744073709551616) (hs : rput b s d m = (d', e)) :
    (e = 0 ∧ Rput0 b s d d' n m) ∨ (e = 3 ∧ Put3 d d' b s n q m) := by
  unfold rput at hs
  rw [if_neg (by simp [hc.up]), hl] at hs
  simp only at hs
  by_cases hq : q = m
  · rw [if_pos hq] at hs
    obtain ⟨rfl, rfl⟩ := Prod.mk.inj hs
    subst hq
    exact .inl ⟨rfl, hc, ⟨n, by omega, hl⟩, Off.refl _ _ _, fun _ => rfl, fun h => by omega, by omega⟩
  · rw [if_neg hq] at hs
    rcases sput_safe hc hf hon hl hn hm hs with ⟨rfl, k⟩ | ⟨rfl, k⟩
    · refine .inl ⟨rfl, k.clean, ⟨n + 1, Nat.le_refl _, k.now⟩, k.off, fun h => ?_, fun h => ?_, by rw [k.ops]; exact Nat.le_refl _⟩
      · rw [k.fuse', if_neg (by omega)]
      · have := k.fuse
        rw [k.fuse', if_pos (by omega)]
        omega
    · exact .inr ⟨rfl, k⟩
theorem Rput0.fuse {b s : Int} {d d' : Dsk} {n m : Nat} (h : Rput0 b s d d' n m) (hf : -1 ≤ d.fuse) : -1 ≤ d'.fuse := by
  by_cases h0 : d.fuse < 0
  · rw [h.fuse1 h0]; exact hf
  · have := h.fuse2 (by omega); omega
end Go.Proofs.YtaldlapnhhhclaaGreat.Slots
/- What a crash leaves of a log, a bitmap and a node's word of itself, plainly. Conditions: none. -/
namespace Go.Proofs.YtaldlapnhhhclaaGreat.Slots
open Tw Disk Seal Dsk

abbrev aput := rput 2 4
abbrev dput := rput 6 2
/-- the bitmap without an extent: the disk, what is left, the error -/
def dclear (d : Dsk) (e : Int) : Dsk × Nat × Nat :=
  if (dput d (Bt.without (latest d 6 2).2 e)).2 = 0 then ((dput d (Bt.without (latest d 6 2).2 e)).1, Bt.without (latest d 6 2).2 e, 0) else ((dput d (Bt.without (latest d 6 2).2 e)).1, 0, (dput d (Bt.without (latest d 6 2).2 e)).2)
def mretire (d : Dsk) (m : Nat) : Dsk × Nat := if (dput d m).2 = 0 then aput (dput d m).1 0 else dput d m
theorem on_len {d : Dsk} {b s : Int} {N : Nat} (h : d.cells.length = N) (hr : On b s N) : On b s d.cells.length := by rw [h]; exact hr
theorem on24 {d : Dsk} {N : Nat} (h : d.cells.length = N) (h8 : 8 ≤ N) : On 2 4 d.cells.length := on_len h (by unfold On RingOk; omega)
theorem on62 {d : Dsk} {N : Nat} (h : d.cells.length = N) (h8 : 8 ≤ N) : On 6 2 d.cells.length := on_len h (by unfold On RingOk; omega)
theorem crash_len (d : Dsk) (mask : Nat) : (d.crash mask).cells.length = d.cells.length := keep_len mask d.cells 0
/-- a disk that works, with a log and a bitmap: how often each was written at most, and the words -/
structure St (d : Dsk) (N c B H D : Nat) : Prop where
  clean : Clean d
  len : d.cells.length = N
  n8 : 8 ≤ N
  fuse : -1 ≤ d.fuse
  boot : boot d = B
  hot : ∃ n, n ≤ c ∧ latest d 2 4 = (n, H)
  dirty : ∃ n, n ≤ c ∧ latest d 6 2 = (n, D)
theorem St.fused {d : Dsk} {N c B H D : Nat} (h : St d N c B H D) {k : Int} (hk : -1 ≤ k) : St (d.setFuse k) N c B H D :=
  ⟨h.clean.fused k, h.len, h.n8, by simp [Dsk.setFuse]; omega, by unfold Slots.boot; rw [latest_fuse]; exact h.boot, by rw [latest_fuse]; exact h.hot, by rw [latest_fuse]; exact h.dirty⟩
theorem St.crash {d : Dsk} {N c B H D : Nat} (h : St d N c B H D) (mask : Nat) : St (d.crash mask) N c B H D :=
  ⟨clean_crash d mask, by rw [crash_len]; exact h.len, h.n8, by simp [Dsk.crash], by unfold Slots.boot; rw [h.clean.latest_crash]; exact h.boot, by rw [h.clean.latest_crash]; exact h.hot, by rw [h.clean.latest_crash]; exact h.dirty⟩
theorem St.mono {d : Dsk} {N c c' B H D : Nat} (h : St d N c B H D) (hc : c ≤ c') : St d N c' B H D := by
  obtain ⟨n, h1, h2⟩ := h.hot
  obtain ⟨m, h3, h4⟩ := h.dirty
  exact ⟨h.clean, h.len, h.n8, h.fuse, h.boot, ⟨n, by omega, h2⟩, ⟨m, by omega, h4⟩⟩
theorem st_new {N : Nat} (h : 8 ≤ N) : St (Dsk.new N) N 0 0 0 0 := by
  have hl : ∀ b s, latest (Dsk.new N) b s = (0, 0) := fun b s => by
    have hr : ∀ x, readAt (Dsk.new N) b s x = (0, 0) := fun x => by
      have ho : Seal.opened zs = (0, 0, false) := opened_zero
      have hrd : ((Dsk.new N).read x).1 = zs := by
        unfold Dsk.read
        split
        · rename_i hh
          split
          · rfl
          · have h1 := cell_mem hh
            rw [show (Dsk.new N).cells = List.replicate N c0 from rfl] at h1
            rw [List.eq_of_mem_replicate h1]
            rfl
        · rfl
      unfold readAt told
      rw [hrd, ho]
      simp
    have hb : ∀ k, best (Dsk.new N) b s k = (0, 0) := fun k => by
      induction k with
      | zero => rfl
      | succ k ih =>
        unfold best
        rw [ih, hr]
        rfl
    unfold latest
    split
    · exact hb _
    · rfl
  exact ⟨clean_new N, by simp [Dsk.new], h, by simp [Dsk.new], by unfold Slots.boot; rw [hl]; rfl, ⟨0, Nat.le_refl _, hl 2 4⟩, ⟨0, Nat.le_refl _, hl 6 2⟩⟩
theorem Off.boot {d d' : Dsk} {b s : Int} (h : Off d d' b s) (hb : d.broken = false) (hb' : d'.broken = false) (hd : 2 ≤ b) : Slots.boot d' = Slots.boot d := by
  unfold Slots.boot
  rw [h.latest hb hb' (.inl (by omega))]
/-- the bitmap is put -/
theorem St.dput {d d' : Dsk} {N c B H D m e : Nat} (h : St d N c B H D) (hc : c < 4294967290) (hm : m < 18446744073709551616) (hs : dput d m = (d', e)) :
    (e = 0 ∧ St d' N (c + 1) B H m ∧ (d.fuse < 0 → d'.fuse = d.fuse) ∧ (0 ≤ d.fuse → d.fuse - 2 ≤ d'.fuse ∧ 0 ≤ d'.fuse)) ∨
    (e = 3 ∧ (0 ≤ d.fuse ∧ d.fuse < 2) ∧ ∀ mask, ∃ D', (D' = D ∨ D' = m) ∧ St (d'.crash mask) N (c + 1) B H D') := by
  obtain ⟨n2, k2, l2⟩ := h.hot
  obtain ⟨n3, k3, l3⟩ := h.dirty
  rcases rput_safe h.clean h.fuse (on62 h.len h.n8) l3 (by omega) hm hs with ⟨rfl, k⟩ | ⟨rfl, k⟩
  · obtain ⟨n', hn', hl'⟩ := k.now
    exact .inl ⟨rfl, ⟨k.clean, k.off.len.trans h.len, h.n8, k.fuse h.fuse, by rw [k.off.boot h.clean.up k.clean.up (by omega)]; exact h.boot, ⟨n2, by omega, by rw [k.off.latest h.clean.up k.clean.up (.inl (by omega))]; exact l2⟩, ⟨n', by omega, hl'⟩⟩, k.fuse1, fun h0 => ⟨(k.fuse2 h0).1, (k.fuse2 h0).2.1⟩⟩
  · refine .inr ⟨rfl, k.fuse, fun mask => ?_⟩
    have hcl := clean_crash d' mask
    have hst : ∀ n D', n ≤ c + 1 → latest (d'.crash mask) 6 2 = (n, D') → St (d'.crash mask) N (c + 1) B H D' := fun n D' hn hl =>
      ⟨hcl, (k.off mask).len.trans h.len, h.n8, by simp [Dsk.crash], by rw [(k.off mask).boot h.clean.up hcl.up (by omega)]; exact h.boot, ⟨n2, by omega, by rw [(k.off mask).latest h.clean.up hcl.up (.inl (by omega))]; exact l2⟩, ⟨n, hn, hl⟩⟩
    rcases k.or mask with e | e
    · exact ⟨D, .inl rfl, hst n3 D (by omega) e⟩
    · exact ⟨m, .inr rfl, hst (n3 + 1) m (by omega) e⟩
/-- the log is put -/
theorem St.aput {d d' : Dsk} {N c B H D m e : Nat} (h : St d N c B H D) (hc : c < 4294967290) (hm : m < 18446744073709551616) (hs : aput d m = (d', e)) :
    (e = 0 ∧ St d' N (c + 1) B m D ∧ (d.fuse < 0 → d'.fuse = d.fuse) ∧ (0 ≤ d.fuse → d.fuse - 2 ≤ d'.fuse ∧ 0 ≤ d'.fuse)) ∨
    (e = 3 ∧ (0 ≤ d.fuse ∧ d.fuse < 2) ∧ ∀ mask, ∃ H', (H' = H ∨ H' = m) ∧ St (d'.crash mask) N (c + 1) B H' D) := by
  obtain ⟨n2, k2, l2⟩ := h.hot
  obtain ⟨n3, k3, l3⟩ := h.dirty
  rcases rput_safe h.clean h.fuse (on24 h.len h.n8) l2 (by omega) hm hs with ⟨rfl, k⟩ | ⟨rfl, k⟩
  · obtain ⟨n', hn', hl'⟩ := k.now
    exact .inl ⟨rfl, ⟨k.clean, k.off.len.trans h.len, h.n8, k.fuse h.fuse, by rw [k.off.boot h.clean.up k.clean.up (by omega)]; exact h.boot, ⟨n', by omega, hl'⟩, ⟨n3, by omega, by rw [k.off.latest h.clean.up k.clean.up (.inr (by omega))]; exact l3⟩⟩, k.fuse1, fun h0 => ⟨(k.fuse2 h0).1, (k.fuse2 h0).2.1⟩⟩
  · refine .inr ⟨rfl, k.fuse, fun mask => ?_⟩
    have hcl := clean_crash d' mask
    have hst : ∀ n H', n ≤ c + 1 → latest (d'.crash mask) 2 4 = (n, H') → St (d'.crash mask) N (c + 1) B H' D := fun n H' hn hl =>
      ⟨hcl, (k.off mask).len.trans h.len, h.n8, by simp [Dsk.crash], by rw [(k.off mask).boot h.clean.up hcl.up (by omega)]; exact h.boot, ⟨n, hn, hl⟩, ⟨n3, by omega, by rw [(k.off mask).latest h.clean.up hcl.up (.inr (by omega))]; exact l3⟩⟩
    rcases k.or mask with e | e
    · exact ⟨H, .inl rfl, hst n2 H (by omega) e⟩
    · exact ⟨m, .inr rfl, hst (n2 + 1) m (by omega) e⟩
/-- a start on a disk that works -/
theorem St.next {d d' : Dsk} {N c B H D m e : Nat} (h : St d N c B H D) (hf : d.fuse < 0) (hn : (latest d 0 2).1 < 4294967290) (hB : B < 4294967290) (hs : snext d = (d', m, e)) : e = 0 ∧ m = B + 1 ∧ St d' N c (B + 1) H D ∧ d'.fuse = d.fuse ∧ (latest d' 0 2).1 = (latest d 0 2).1 + 1 := by
  obtain ⟨n2, k2, l2⟩ := h.hot
  obtain ⟨n3, k3, l3⟩ := h.dirty
  obtain ⟨⟨n, q⟩, hq⟩ : ∃ r, latest d 0 2 = r := ⟨_, rfl⟩
  rw [hq] at hn ⊢
  have hon : On 0 2 d.cells.length := on_len h.len (by have := h.n8; unfold On RingOk; omega)
  unfold snext at hs
  rw [h.boot, if_neg (by omega)] at hs
  obtain ⟨⟨d1, e1⟩, h1⟩ : ∃ r, sput d 0 2 (B + 1) = r := ⟨_, rfl⟩
  rw [h1] at hs
  rcases sput_safe h.clean h.fuse hon hq (by omega) (by omega) h1 with ⟨rfl, k⟩ | ⟨rfl, k⟩
  · simp only [if_pos] at hs
    obtain ⟨rfl, hs2⟩ := Prod.mk.inj hs
    obtain ⟨rfl, rfl⟩ := Prod.mk.inj hs2
    refine ⟨rfl, rfl, ⟨k.clean, k.off.len.trans h.len, h.n8, ?_, ?_, ⟨n2, k2, by rw [k.off.latest h.clean.up k.clean.up (.inr (by omega))]; exact l2⟩, ⟨n3, k3, by rw [k.off.latest h.clean.up k.clean.up (.inr (by omega))]; exact l3⟩⟩, ?_, by rw [k.now]⟩
    · rw [k.fuse', if_neg (by omega)]; exact h.fuse
    · unfold Slots.boot
      rw [k.now]
      exact Nat.mod_eq_of_lt (by omega)
    · rw [k.fuse', if_neg (by omega)]
  · have := k.fuse
    omega
/-- a crash within a Retire -/
theorem St.retire {d d' : Dsk} {N c B H D m e : Nat} (h : St d N c B H D) (hc : c < 4294967280) (hf : 0 ≤ d.fuse) (hm : m < 18446744073709551616) (hs : mretire d m = (d', e)) (mask : Nat) :
    ∃ H' D', St (d'.crash mask) N (c + 2) B H' D' ∧ ((H' = H ∧ D' = D) ∨ (D' = m ∧ (H' = H ∨ H' = 0))) ∧ (e = 0 → H' = 0 ∧ D' = m) ∧ (4 ≤ d.fuse → e = 0) := by
  unfold mretire at hs
  obtain ⟨⟨d1, e1⟩, h1⟩ : ∃ r, Slots.dput d m = r := ⟨_, rfl⟩
  rw [h1] at hs
  rcases h.dput (by omega) hm h1 with ⟨rfl, s1, _, f1⟩ | ⟨rfl, f1, s1⟩
  · simp only [if_pos] at hs
    have hf1 := f1 hf
    rcases s1.aput (by omega) (by omega) hs with ⟨rfl, s2, _, f2⟩ | ⟨rfl, f2, s2⟩
    · exact ⟨0, m, s2.crash mask, .inr ⟨rfl, .inr rfl⟩, fun _ => ⟨rfl, rfl⟩, fun _ => rfl⟩
    · obtain ⟨H', ho, s3⟩ := s2 mask
      exact ⟨H', m, s3, .inr ⟨rfl, ho⟩, fun e => (by cases e), fun h4 => by omega⟩
  · simp only at hs
    rw [if_neg (by omega)] at hs
    obtain ⟨rfl, rfl⟩ := Prod.mk.inj hs
    obtain ⟨D', ho, s3⟩ := s1 mask
    refine ⟨H, D', s3.mono (by omega), ?_, fun e => (by cases e), fun h4 => by omega⟩
    rcases ho with rfl | rfl
    · exact .inl ⟨rfl, rfl⟩
    · exact .inr ⟨rfl, .inl rfl⟩
/-- a Clear on a disk that works -/
theorem St.clear {d d' : Dsk} {N c B H D r e : Nat} (h : St d N c B H D) (hc : c < 4294967290) (x : Int) (hs : dclear d x = (d', r, e)) :
    (e = 0 ∧ r = Bt.without D x ∧ St d' N (c + 1) B H (Bt.without D x) ∧ (d.fuse < 0 → d'.fuse = d.fuse) ∧ (0 ≤ d.fuse → d.fuse - 2 ≤ d'.fuse ∧ 0 ≤ d'.fuse)) ∨
    (e = 3 ∧ r = 0 ∧ (0 ≤ d.fuse ∧ d.fuse < 2) ∧ ∀ mask, ∃ D', (D' = D ∨ D' = Bt.without D x) ∧ St (d'.crash mask) N (c + 1) B H D') := by
  obtain ⟨n3, k3, l3⟩ := h.dirty
  have hD := (latest_lt d 6 2).2
  unfold dclear at hs
  rw [l3] at hs hD
  simp only at hs hD
  obtain ⟨⟨d1, e1⟩, h1⟩ : ∃ r, Slots.dput d (Bt.without D x) = r := ⟨_, rfl⟩
  rw [h1] at hs
  rcases h.dput hc (Bt.without_lt hD x) h1 with ⟨rfl, s1, f0, f1⟩ | ⟨rfl, f1, s1⟩
  · simp only [if_pos] at hs
    obtain ⟨rfl, hs2⟩ := Prod.mk.inj hs
    obtain ⟨rfl, rfl⟩ := Prod.mk.inj hs2
    exact .inl ⟨rfl, rfl, s1, f0, f1⟩
  · simp only at hs
    rw [if_neg (by omega)] at hs
    obtain ⟨rfl, hs2⟩ := Prod.mk.inj hs
    obtain ⟨rfl, rfl⟩ := Prod.mk.inj hs2
    exact .inr ⟨rfl, rfl, f1, s1⟩
end Go.Proofs.YtaldlapnhhhclaaGreat.Slots
/- The reference's super, actlog, dirty (twainref08, 10, 11) over its disk. Conditions: at most 10^9 operations. -/
namespace Go.Proofs.YtaldlapnhhhclaaGreat.Slots
open Go.RowKit Tw Disk
set_option maxHeartbeats 4000000
set_option maxRecDepth 100000
section
variable {w : World} {q r c : Nat} {d : Dsk}
theorem r_PutI {d' : Dsk} (h : Rk w q r c d) (ho : d.ops + 1 < 1000000000) (b s X : Int) (x : Nat) (hX : X = (x : Int)) (hx : x < 18446744073709551616) (e : Nat) (hs : sput d b s x = (d', e)) :
    Calls Tryz.prog 61 #[.pointer (some ⟨q, 0, none⟩), .int .i64 b, .int .i64 s, .int .u64 X] w fun e' w' => e' = .returned (.int .i64 (e : Int)) ∧ Rk w' q r c d' ∧ Fr (fun k => k = q ∨ k = r) w w' := by
  subst hX
  have h1 := r_Put h ho b s x hx
  rw [hs] at h1
  exact h1
theorem r_Boot (h : Rk w q r c d) : Calls Tryz.prog 82 #[.pointer (some ⟨q, 0, none⟩)] w fun e w' => e = .returned (.int .u32 (boot d : Int)) ∧ Below w.heap.size w w' := by
  have hl := r_Latest h 0 2
  have hll := (latest_lt d 0 2).2
  unfold boot
  generalize latest d 0 2 = x at *
  clear h
  have hr : ((x.2 : Int) % 4294967296) = ((x.2 % 4294967296 : Nat) : Int) := by omega
  have hr2 : x.2 % 4294967296 < 4294967296 := Nat.mod_lt _ (by omega)
  generalize x.2 % 4294967296 = y at *
  go_enter Tryz.func82, Tryz.ntmps82
  go_wp2_with (first
    | (go_at_call 68
       (with_reducible refine hl.mono ?_)
       rintro e w2 ⟨rfl, hb2⟩
       have HB2 := Lib.hid hb2
       clear hb2 hl))
  go_ret
  exact ⟨rfl, HB2.out⟩
theorem r_Next (h : Rk w q r c d) (ho : d.ops + 1 < 1000000000) :
    Calls Tryz.prog 136 #[.pointer (some ⟨q, 0, none⟩)] w fun e' w' => e' = .returned (.tuple #[.int .u32 ((snext d).2.1 : Int), .int .i64 ((snext d).2.2 : Int)]) ∧ Rk w' q r c (snext d).1 ∧ Fr (fun k => k = q ∨ k = r) w w' := by
  have HK := Lib.hid h
  have hbl := boot_lt d
  obtain ⟨B, hB⟩ : ∃ B, boot d = B := ⟨_, rfl⟩
  have hboot : ∀ w, Rk w q r c d → Calls Tryz.prog 82 #[.pointer (some ⟨q, 0, none⟩)] w fun e w' => e = .returned (.int .u32 (B : Int)) ∧ Below w.heap.size w w' := fun w h => by
    have := r_Boot h
    rw [hB] at this
    exact this
  unfold snext
  rw [hB] at hbl ⊢
  obtain ⟨⟨d1, e1⟩, hs⟩ : ∃ r, sput d 0 2 (B + 1) = r := ⟨_, rfl⟩
  rw [hs]
  have Hs := Lib.hid hs
  clear h hs hB
  by_cases hm : B = 4294967295
  · subst hm
    rw [if_pos rfl]
    go_enter Tryz.func136, Tryz.ntmps136
    go_wp2_with (first
    | (go_at_call 82
       (with_reducible refine (hboot _ HK.out).mono ?_)
       rintro e w2 ⟨rfl, hb2⟩
       have HF2 := Lib.hid (Fr.of_bel (S := fun k => k = q ∨ k = r) hb2)
       have HK2 := Lib.hid (HK.out.bel hb2)
       clear hb2 hboot)
    | (go_at_call 61
       (with_reducible refine (r_PutI HK2.out ho 0 2 _ (B + 1) (by omega) (by omega) _ Hs.out).mono ?_)
       rintro e w3 ⟨rfl, hk3, f3⟩
       have HF3 := Lib.hid (HF2.out.trans f3 (fun _ _ e => e))
       have HK3 := Lib.hid hk3
       clear hk3 f3)
    )
    go_ret2
    exact ⟨rfl, HK2.out, HF2.out⟩
  · rw [if_neg hm]
    by_cases he : e1 = 0
    · subst he
      rw [if_pos rfl]
      go_enter Tryz.func136, Tryz.ntmps136
      go_wp2_with (first
      | (go_at_call 82
         (with_reducible refine (hboot _ HK.out).mono ?_)
         rintro e w2 ⟨rfl, hb2⟩
         have HF2 := Lib.hid (Fr.of_bel (S := fun k => k = q ∨ k = r) hb2)
         have HK2 := Lib.hid (HK.out.bel hb2)
         clear hb2 hboot)
      | (go_at_call 61
         (with_reducible refine (r_PutI HK2.out ho 0 2 _ (B + 1) (by omega) (by omega) _ Hs.out).mono ?_)
         rintro e w3 ⟨rfl, hk3, f3⟩
         have HF3 := Lib.hid (HF2.out.trans f3 (fun _ _ e => e))
         have HK3 := Lib.hid hk3
         clear hk3 f3)
      )
      go_ret2
      exact ⟨rfl, HK3.out, HF3.out⟩
    · simp only
      rw [if_neg he]
      have hne : ((e1 : Int) != 0) = true := by simp; omega
      clear he
      go_enter Tryz.func136, Tryz.ntmps136
      go_wp2_with (first
      | (go_at_call 82
         (with_reducible refine (hboot _ HK.out).mono ?_)
         rintro e w2 ⟨rfl, hb2⟩
         have HF2 := Lib.hid (Fr.of_bel (S := fun k => k = q ∨ k = r) hb2)
         have HK2 := Lib.hid (HK.out.bel hb2)
         clear hb2 hboot)
      | (go_at_call 61
         (with_reducible refine (r_PutI HK2.out ho 0 2 _ (B + 1) (by omega) (by omega) _ Hs.out).mono ?_)
         rintro e w3 ⟨rfl, hk3, f3⟩
         have HF3 := Lib.hid (HF2.out.trans f3 (fun _ _ e => e))
         have HK3 := Lib.hid hk3
         clear hk3 f3)
      )
      go_ret2
      exact ⟨rfl, HK3.out, HF3.out⟩
theorem r_aGet (h : Rk w q r c d) : Calls Tryz.prog 83 #[.pointer (some ⟨q, 0, none⟩)] w fun e w' => e = .returned (.int .u64 ((latest d 2 4).2 : Nat)) ∧ Below w.heap.size w w' := by
  have hl := r_Latest h 2 4
  generalize latest d 2 4 = x at *
  clear h
  go_enter Tryz.func83, Tryz.ntmps83
  go_wp2_with (first
    | (go_at_call 68
       (with_reducible refine hl.mono ?_)
       rintro e w2 ⟨rfl, hb2⟩
       have HB2 := Lib.hid hb2
       clear hb2 hl))
  go_ret
  exact ⟨rfl, HB2.out⟩
theorem r_dGet (h : Rk w q r c d) : Calls Tryz.prog 28 #[.pointer (some ⟨q, 0, none⟩)] w fun e w' => e = .returned (.int .u64 ((latest d 6 2).2 : Nat)) ∧ Below w.heap.size w w' := by
  have hl := r_Latest h 6 2
  generalize latest d 6 2 = x at *
  clear h
  go_enter Tryz.func28, Tryz.ntmps28
  go_wp2_with (first
    | (go_at_call 68
       (with_reducible refine hl.mono ?_)
       rintro e w2 ⟨rfl, hb2⟩
       have HB2 := Lib.hid hb2
       clear hb2 hl))
  go_ret
  exact ⟨rfl, HB2.out⟩
theorem r_aPut (h : Rk w q r c d) (ho : d.ops + 1 < 1000000000) (x : Nat) (hx : x < 18446744073709551616) :
    Calls Tryz.prog 81 #[.pointer (some ⟨q, 0, none⟩), .int .u64 (x : Int)] w fun e' w' => e' = .returned (.int .i64 ((aput d x).2 : Int)) ∧ Rk w' q r c (aput d x).1 ∧ Fr (fun k => k = q ∨ k = r) w w' := by
  unfold aput rput
  have HK := Lib.hid h
  obtain ⟨k0, k1, k2, k3⟩ := h.cells
  by_cases hb : d.broken = true
  · rw [if_pos hb]
    rw [hb] at k2
    clear h hb
    go_enter Tryz.func81, Tryz.ntmps81
    go_wp2_with fail
    go_ret
    exact ⟨rfl, HK.out, Fr.refl _ _⟩
  · rw [if_neg hb]
    have hb' : d.broken = false := by simpa using hb
    rw [hb'] at k2
    have hg := fun w (h : Rk w q r c d) => r_aGet h
    obtain ⟨⟨n, y⟩, hl⟩ : ∃ x, latest d 2 4 = x := ⟨_, rfl⟩
    rw [hl] at hg ⊢
    simp only at hg ⊢
    obtain ⟨⟨d1, e1⟩, hs⟩ : ∃ r, sput d 2 4 x = r := ⟨_, rfl⟩
    rw [hs]
    have Hs := Lib.hid hs
    clear h hb hb' hl hs
    by_cases hq : y = x
    · rw [if_pos hq]
      have he : ((y : Int) == (x : Int)) = true := by simp [hq]
      go_enter Tryz.func81, Tryz.ntmps81
      go_wp2_with (first
        | (go_at_call 83
           (with_reducible refine (hg _ HK.out).mono ?_)
           rintro e w2 ⟨rfl, hb2⟩
           have HF2 := Lib.hid (Fr.of_bel (S := fun k => k = q ∨ k = r) hb2)
           have HK2 := Lib.hid (HK.out.bel hb2)
           clear hb2 hg k0 k1 k2 k3))
      go_ret
      exact ⟨rfl, HK2.out, HF2.out⟩
    · rw [if_neg hq]
      have he : ((y : Int) == (x : Int)) = false := by simp; omega
      go_enter Tryz.func81, Tryz.ntmps81
      go_wp2_with (first
        | (go_at_call 83
           (with_reducible refine (hg _ HK.out).mono ?_)
           rintro e w2 ⟨rfl, hb2⟩
           have HF2 := Lib.hid (Fr.of_bel (S := fun k => k = q ∨ k = r) hb2)
           have HK2 := Lib.hid (HK.out.bel hb2)
           clear hb2 hg k0 k1 k2 k3)
        | (go_at_call 61
           (with_reducible refine (r_PutI HK2.out ho 2 4 _ x rfl hx _ Hs.out).mono ?_)
           rintro e w3 ⟨rfl, hk3, f3⟩
           have HF3 := Lib.hid (HF2.out.trans f3 (fun _ _ e => e))
           have HK3 := Lib.hid hk3
           clear hk3 f3))
      go_ret
      exact ⟨rfl, HK3.out, HF3.out⟩
theorem r_dPut (h : Rk w q r c d) (ho : d.ops + 1 < 1000000000) (x : Nat) (hx : x < 18446744073709551616) :
    Calls Tryz.prog 20 #[.pointer (some ⟨q, 0, none⟩), .int .u64 (x : Int)] w fun e' w' => e' = .returned (.int .i64 ((dput d x).2 : Int)) ∧ Rk w' q r c (dput d x).1 ∧ Fr (fun k => k = q ∨ k = r) w w' := by
  unfold dput rput
  have HK := Lib.hid h
  obtain ⟨k0, k1, k2, k3⟩ := h.cells
  by_cases hb : d.broken = true
  · rw [if_pos hb]
    rw [hb] at k2
    clear h hb
    go_enter Tryz.func20, Tryz.ntmps20
    go_wp2_with fail
    go_ret
    exact ⟨rfl, HK.out, Fr.refl _ _⟩
  · rw [if_neg hb]
    have hb' : d.broken = false := by simpa using hb
    rw [hb'] at k2
    have hg := fun w (h : Rk w q r c d) => r_dGet h
    obtain ⟨⟨n, y⟩, hl⟩ : ∃ x, latest d 6 2 = x := ⟨_, rfl⟩
    rw [hl] at hg ⊢
    simp only at hg ⊢
    obtain ⟨⟨d1, e1⟩, hs⟩ : ∃ r, sput d 6 2 x = r := ⟨_, rfl⟩
    rw [hs]
    have Hs := Lib.hid hs
    clear h hb hb' hl hs
    by_cases hq : y = x
    · rw [if_pos hq]
      have he : ((y : Int) == (x : Int)) = true := by simp [hq]
      go_enter Tryz.func20, Tryz.ntmps20
      go_wp2_with (first
        | (go_at_call 28
           (with_reducible refine (hg _ HK.out).mono ?_)
           rintro e w2 ⟨rfl, hb2⟩
           have HF2 := Lib.hid (Fr.of_bel (S := fun k => k = q ∨ k = r) hb2)
           have HK2 := Lib.hid (HK.out.bel hb2)
           clear hb2 hg k0 k1 k2 k3))
      go_ret
      exact ⟨rfl, HK2.out, HF2.out⟩
    · rw [if_neg hq]
      have he : ((y : Int) == (x : Int)) = false := by simp; omega
      go_enter Tryz.func20, Tryz.ntmps20
      go_wp2_with (first
        | (go_at_call 28
           (with_reducible refine (hg _ HK.out).mono ?_)
           rintro e w2 ⟨rfl, hb2⟩
           have HF2 := Lib.hid (Fr.of_bel (S := fun k => k = q ∨ k = r) hb2)
           have HK2 := Lib.hid (HK.out.bel hb2)
           clear hb2 hg k0 k1 k2 k3)
        | (go_at_call 61
           (with_reducible refine (r_PutI HK2.out ho 6 2 _ x rfl hx _ Hs.out).mono ?_)
           rintro e w3 ⟨rfl, hk3, f3⟩
           have HF3 := Lib.hid (HF2.out.trans f3 (fun _ _ e => e))
           have HK3 := Lib.hid hk3
           clear hk3 f3))
      go_ret
      exact ⟨rfl, HK3.out, HF3.out⟩
theorem r_dClear (h : Rk w q r c d) (ho : d.ops + 1 < 1000000000) (x : Int) :
    Calls Tryz.prog 26 #[.pointer (some ⟨q, 0, none⟩), .int .i64 x] w fun e' w' => e' = .returned (.tuple #[.int .u64 ((dclear d x).2.1 : Int), .int .i64 ((dclear d x).2.2 : Int)]) ∧ Rk w' q r c (dclear d x).1 ∧ Fr (fun k => k = q ∨ k = r) w w' := by
  have HK := Lib.hid h
  have hll := (latest_lt d 6 2).2
  have hg := fun w (h : Rk w q r c d) => r_dGet h
  unfold dclear
  obtain ⟨⟨n, y⟩, hl⟩ : ∃ x, latest d 6 2 = x := ⟨_, rfl⟩
  rw [hl] at hll hg ⊢
  simp only at hll hg ⊢
  have hwo := fun w => Bt.r_Without y hll x w
  have hlt := Bt.without_lt hll x
  generalize Bt.without y x = L at *
  have ht := fun w (h : Rk w q r c d) => r_dPut h ho L hlt
  obtain ⟨⟨d1, e1⟩, hs⟩ : ∃ r, dput d L = r := ⟨_, rfl⟩
  rw [hs] at ht ⊢
  clear h hl hs
  by_cases he : e1 = 0
  · subst he
    rw [if_pos rfl]
    go_enter Tryz.func26, Tryz.ntmps26
    go_wp2_with (first
    | (go_at_call 28
       (with_reducible refine (hg _ HK.out).mono ?_)
       rintro e w1 ⟨rfl, hb1⟩
       have HF1 := Lib.hid (Fr.of_bel (S := fun k => k = q ∨ k = r) hb1)
       have HK1 := Lib.hid (HK.out.bel hb1)
       clear hb1 hg)
    | (go_at_call 67
       (with_reducible refine (hwo _).mono ?_)
       rintro e w2 ⟨rfl, rfl⟩
       clear hwo)
    | (go_at_call 20
       (with_reducible refine (ht _ HK1.out).mono ?_)
       rintro e w3 ⟨rfl, hk3, f3⟩
       have HK3 := Lib.hid hk3
       have HF3 := Lib.hid (HF1.out.trans f3 (fun _ _ e => e))
       clear hk3 f3 ht)
    )
    go_ret2
    exact ⟨rfl, HK3.out, HF3.out⟩
  · simp only
    rw [if_neg he]
    have hne : ((e1 : Int) != 0) = true := by simp; omega
    go_enter Tryz.func26, Tryz.ntmps26
    go_wp2_with (first
    | (go_at_call 28
       (with_reducible refine (hg _ HK.out).mono ?_)
       rintro e w1 ⟨rfl, hb1⟩
       have HF1 := Lib.hid (Fr.of_bel (S := fun k => k = q ∨ k = r) hb1)
       have HK1 := Lib.hid (HK.out.bel hb1)
       clear hb1 hg)
    | (go_at_call 67
       (with_reducible refine (hwo _).mono ?_)
       rintro e w2 ⟨rfl, rfl⟩
       clear hwo)
    | (go_at_call 20
       (with_reducible refine (ht _ HK1.out).mono ?_)
       rintro e w3 ⟨rfl, hk3, f3⟩
       have HK3 := Lib.hid hk3
       have HF3 := Lib.hid (HF1.out.trans f3 (fun _ _ e => e))
       clear hk3 f3 ht)
    )
    go_ret2
    exact ⟨rfl, HK3.out, HF3.out⟩
end
end Go.Proofs.YtaldlapnhhhclaaGreat.Slots
