/- Texts joined: what the disks, the rings and their reference do. Conditions: none. -/
import Derived.Test.YtaldlapnhhhclaaGreatB6
import Derived.Test.YtaldlapnhhhclaaGreatB1
import Derived.Test.YtaldlapnhhhclaaGreatB2
import Derived.Test.YtaldlapnhhhclaaGreatB4
/- Sealed bytes, in plain words: the running sum over sealed bytes is one number; turning some of four bytes side by side turns it. Conditions: none. -/
set_option linter.unusedVariables false
set_option linter.unusedSimpArgs false
namespace Go.Proofs.YtaldlapnhhhclaaGreat.Crc

/-- n bytes, the lowest first -/
def le : Nat → Nat → List UInt8
  | 0, _ => []
  | n + 1, s => le n s ++ [UInt8.ofNat (s / 256 ^ n % 256)]
theorem le_length (n s : Nat) : (le n s).length = n := by
  induction n with
  | zero => rfl
  | succ n ih => simp [le, ih]
theorem le_head (n s : Nat) : le (n + 1) s = UInt8.ofNat (s % 256) :: le n (s / 256) := by
  induction n generalizing s with
  | zero => simp [le]
  | succ n ih =>
    rw [le, ih, le, List.cons_append]
    congr 4
    rw [Nat.div_div_eq_div_mul, Nat.pow_succ, Nat.mul_comm 256]
def sealed (b : List UInt8) : List UInt8 := b ++ le 4 (sum b)
theorem sealed_length (b : List UInt8) : (sealed b).length = b.length + 4 := by simp [sealed, le_length]

theorem ofNat_toNat (x : Nat) : (UInt8.ofNat (x % 256)).toNat = x % 256 := by simp

theorem run_le (n : Nat) : ∀ x s, s < 256 ^ n → run x (le n s) = bn (8 * n) (x ^^^ s) := by
  induction n with
  | zero => intro x s h; simp at h; subst h; simp [le, run, bn]
  | succ n ih =>
    intro x s h
    have hs : s / 256 < 256 ^ n := by
      rw [Nat.pow_succ] at h
      exact Nat.div_lt_of_lt_mul (by rw [Nat.mul_comm]; exact h)
    rw [le_head]
    show run (step x (UInt8.ofNat (s % 256)).toNat) (le n (s / 256)) = _
    rw [ih _ _ hs, ofNat_toNat, step, show 8 * (n + 1) = 8 + 8 * n from by omega, bn_add]
    congr 1
    have e1 : s = (s % 256) ^^^ (2 ^ 8 * (s / 256)) := by
      have h3 : (s % 256) &&& (2 ^ 8 * (s / 256)) = 0 := by
        apply Nat.eq_of_testBit_eq
        intro i
        rw [Nat.testBit_and, Nat.testBit_two_pow_mul, Nat.zero_testBit]
        by_cases hi : 8 ≤ i
        · have : (s % 256).testBit i = false := Nat.testBit_lt_two_pow (Nat.lt_of_lt_of_le (show s % 256 < 2 ^ 8 by omega) (Nat.pow_le_pow_right (by omega) hi))
          simp [this]
        · simp [hi]
      have h1 := Nat.two_pow_add_eq_or_of_lt (i := 8) (b := s % 256) (by omega) (s / 256)
      have h2 : 2 ^ 8 * (s / 256) + s % 256 = s := by omega
      apply Nat.eq_of_testBit_eq
      intro i
      have h4 : ((s % 256).testBit i && (2 ^ 8 * (s / 256)).testBit i) = false := by rw [← Nat.testBit_and, h3, Nat.zero_testBit]
      have h5 : s.testBit i = ((2 ^ 8 * (s / 256)).testBit i || (s % 256).testBit i) := by rw [← Nat.testBit_or, ← h1, h2]
      rw [h5, Nat.testBit_xor]
      revert h4
      generalize (2 ^ 8 * (s / 256)).testBit i = A
      generalize (s % 256).testBit i = B
      cases A <;> cases B <;> simp
    conv => rhs; rw [e1, ← Nat.xor_assoc, bn_xor, bn_shift]

theorem run_append (x : Nat) (a b : List UInt8) : run x (a ++ b) = run (run x a) b := by simp [run]

/-- the running sum over sealed bytes -/
theorem run_sealed (b : List UInt8) : run 4294967295 (sealed b) = bn 32 4294967295 := by
  have h := sum_lt b
  unfold sealed
  rw [run_append, run_le 4 _ _ (by simpa using h)]
  unfold sum
  rw [← Nat.xor_assoc, Nat.xor_self, Nat.zero_xor]

/-- bytes turned by others -/
def turn (a d : List UInt8) : List UInt8 := List.zipWith (· ^^^ ·) a d
theorem run_turn : ∀ (a d : List UInt8) (x y : Nat), a.length = d.length → run (x ^^^ y) (turn a d) = run x a ^^^ run y d
  | [], [], x, y, _ => rfl
  | c :: a, e :: d, x, y, h => by
    show run (step (x ^^^ y) (c ^^^ e).toNat) (turn a d) = run (step x c.toNat) a ^^^ run (step y e.toNat) d
    have hx : step (x ^^^ y) (c ^^^ e).toNat = step x c.toNat ^^^ step y e.toNat := by
      unfold step
      rw [← bn_xor]
      congr 1
      rw [UInt8.toNat_xor, Nat.xor_assoc, Nat.xor_assoc, ← Nat.xor_assoc y, Nat.xor_comm y, Nat.xor_assoc]
    rw [hx]
    exact run_turn a d _ _ (by simpa using h)
  | [], _ :: _, _, _, h => by simp at h
  | _ :: _, [], _, _, h => by simp at h
theorem run_zero (x k : Nat) : run x (List.replicate k 0) = bn (8 * k) x := by
  induction k generalizing x with
  | zero => rfl
  | succ k ih =>
    show run (step x 0) (List.replicate k 0) = _
    rw [ih, step, Nat.xor_zero, show 8 * (k + 1) = 8 + 8 * k from by omega, bn_add]
/-- four bytes at a place -/
def four4 (a k s : Nat) : List UInt8 := List.replicate a 0 ++ le 4 s ++ List.replicate k 0
theorem run_four4 {a k s : Nat} (hs : s < 4294967296) (h0 : s ≠ 0) : run 0 (four4 a k s) ≠ 0 := by
  unfold four4
  rw [run_append, run_append, run_zero 0 a, bn_zero, run_le 4 _ _ (by simpa using hs), run_zero, Nat.zero_xor, ← bn_add]
  intro h
  have := bn_inj (n := 8 * 4 + 8 * k) hs (by omega : 0 < 4294967296) (by rw [h, bn_zero])
  exact h0 this
theorem turned (p : List UInt8) (a k s : Nat) (hs : s < 4294967296) (h0 : s ≠ 0) (hp : run 4294967295 p = bn 32 4294967295) (hl : p.length = a + 4 + k) (b : List UInt8) : turn p (four4 a k s) ≠ sealed b := by
  intro h
  have h1 := run_sealed b
  rw [← h] at h1
  have h2 := run_turn p (four4 a k s) 4294967295 0 (by simp [four4, le_length, hl] <;> omega)
  rw [Nat.xor_zero, h1, hp] at h2
  refine run_four4 (a := a) (k := k) hs h0 ?_
  have h3 : bn 32 4294967295 ^^^ (bn 32 4294967295 ^^^ run 0 (four4 a k s)) = run 0 (four4 a k s) := by rw [← Nat.xor_assoc, Nat.xor_self, Nat.zero_xor]
  rw [← h3, ← h2, Nat.xor_self]
theorem no_zero : sealed (List.replicate 12 0) ≠ List.replicate 16 0 := by
  intro h
  have h1 := run_sealed (List.replicate 12 0)
  rw [h, run_zero] at h1
  revert h1
  decide +kernel
theorem sealed_inj {a b : List UInt8} (h : sealed a = sealed b) : a = b := by
  have hl : a.length = b.length := by have := congrArg List.length h; simpa [sealed_length] using this
  exact (List.append_inj h hl).1
theorem sealed_take (b : List UInt8) : (sealed b).take b.length = b := by simp [sealed]
end Go.Proofs.YtaldlapnhhhclaaGreat.Crc
/- Contracts of the package seal, and of its reference. Conditions: none. -/
namespace Go.Proofs.YtaldlapnhhhclaaGreat.Seal
open Go.RowKit Tw
open Crc (le sealed le_length sealed_length)
set_option maxHeartbeats 400000

theorem le_snoc (b : List UInt8) (k S y : Nat) (hy : y = S / 256 ^ k) : bytesV (b ++ le k S) ++ [Value.int .u8 ((y : Int) % 256)] = bytesV (b ++ le (k + 1) S) := by
  subst hy
  simp only [le, bytesV, List.map_append, List.append_assoc, List.map_cons, List.map_nil]
  congr 3
  simp

theorem c_rPut (A : Option Addr) (n c : Nat) (b : List UInt8) (w : World) (hb : Byt w A n c b) (hn : n ≤ 140737488351000) :
    Calls Tryz.prog 162 #[.slice A n c] w fun e w' => ∃ A2 c2, e = .returned (.slice A2 (n + 4) c2) ∧ Own w' w.heap.size 5 1 A2 (n + 4) c2 (bytesV (sealed b)) ∧ Below w.heap.size w w' := by
  have Hb := Lib.hid hb
  have hS := Crc.sum_lt b
  unfold sealed
  go_enter Tryz.func162, Tryz.ntmps162
  go_wp2_with (first
    | (at_builtin
       refine wpL_append _ rfl (.tmp 6) (.tmp 7) _ rfl w w.heap.size (bel_alloc (Below.refl _ _) (Nat.le_refl _) _) (size_alloc_le (Nat.le_refl _) _) 5 _ 1 1 Tryz.underlying23 Num.info_u8 rfl (by omega) _ _ _ [] rfl (own_empty _ _ _ _ (Nat.le_refl _)) _ _ _ _ rfl (Hb.out.alloc _) bytesV_one n (bytesV b) (by omega) rfl (by unfold maxLen; omega) (by omega) ?_
       intro A1 c1 w1 hown1 hb1 hg1 ho1
       clear hg1 ho1)
    | (go_at_call 182
       (with_reducible refine (Crc.c_rSum _ _ _ b _ (Hb.out.bel hb1)).mono ?_)
       rintro e w2 ⟨rfl, hb2⟩))
  generalize hSe : Crc.sum b = S at *
  have HSe := Lib.hid hSe
  clear hSe
  have hB2 : Below w.heap.size w w2 := hb1.trans ⟨hb2.os, hb2.tape, hb2.output, hb2.size, fun i hi => hb2.block i (Nat.lt_of_lt_of_le hi hb1.size)⟩
  have Hown := Lib.hid (hown1.bel hb2)
  clear hown1 hb1 hb2
  go_loopw [3, 4, 5] (fun v u i wr => ∃ (k y : Nat) (A2 : Option Addr) (c2 : Nat), k ≤ 4 ∧ i = .int .i64 (k : Int) ∧ u = .int .u32 (y : Int) ∧ v = .slice A2 (n + k) c2 ∧ Hid (y = S / 256 ^ k) ∧ Hid (Own wr w.heap.size 5 1 A2 (n + k) c2 (bytesV (b ++ le k S))) ∧ Below w.heap.size w wr) (fun _ _ i _ => 4 - (intOf i).toNat)
  case atStart => exact ⟨0, S, A1, c1, by omega, rfl, rfl, rfl, Lib.hid (by simp), by simpa [le] using Hown, hB2⟩
  case round =>
    obtain ⟨k, y, A2, c2, hk, rfl, rfl, rfl, hy, hown, hB⟩ := hrel
    by_cases hk4 : k < 4
    · have hyl : y < 4294967296 := by rw [hy.out]; exact Nat.lt_of_le_of_lt (Nat.div_le_self _ _) hS
      go_wp2_with (first
        | (at_builtin
           refine wpL_append _ rfl (.tmp 15) (.tmp 19) _ rfl w w.heap.size (bel_alloc hB hB.size _) (size_alloc_le hB.size _) 5 _ 1 1 Tryz.underlying23 Num.info_u8 rfl (by omega) _ _ _ _ rfl (hown.out.alloc _) _ _ _ _ rfl (rd_one _ _ _) (by simp [Value.oneCell']) (n + (k + 1)) (bytesV (b ++ le (k + 1) S)) (by omega) (le_snoc b k S y hy.out) (by unfold maxLen; omega) (by omega) ?_
           intro A3 c3 w3 hown3 hb3 hg3 ho3
           clear hg3 ho3))
      go_roundw
      case rel => exact ⟨k + 1, y / 256, A3, c3, by omega, by go_num, by first | rfl | simp, rfl, Lib.hid (by rw [hy.out, Nat.div_div_eq_div_mul, ← Nat.pow_succ]), Lib.hid hown3, hb3⟩
      case measure => simp [intOf] <;> omega
    · go_wp2_with fail
      go_ret
      obtain rfl : k = 4 := by omega
      rw [HSe.out]
      exact ⟨A2, c2, rfl, hown.out, hB⟩
end Go.Proofs.YtaldlapnhhhclaaGreat.Seal
/- Contracts of the package seal: the sum of bytes. Conditions: none. -/
namespace Go.Proofs.YtaldlapnhhhclaaGreat.Seal
open Go.RowKit Tw
open Crc (le sealed le_length sealed_length)
set_option maxHeartbeats 400000

theorem be_le (S : Nat) : ∃ y0 y1 y2 y3 : UInt8, Num.be 4 S = [y3, y2, y1, y0] ∧ le 4 S = [y0, y1, y2, y3] := by
  refine ⟨UInt8.ofNat (S / 256 ^ 0), UInt8.ofNat (S / 256 ^ 1), UInt8.ofNat (S / 256 ^ 2), UInt8.ofNat (S / 256 ^ 3), rfl, ?_⟩
  have e : ∀ x : Nat, UInt8.ofNat (x % 256) = UInt8.ofNat x := fun x => by
    apply UInt8.toNat_inj.1
    simp
  simp [le, e]

theorem c_sum (A : Option Addr) (n c : Nat) (b : List UInt8) (w : World) (hb : Byt w A n c b) :
    Calls Tryz.prog 192 #[.slice A n c] w fun e w' => e = .returned (.agg (bytesV (le 4 (Crc.sum b))).toArray) ∧ Below w.heap.size w w' := by
  have Hb := Lib.hid hb
  obtain ⟨y0, y1, y2, y3, hbe, hle⟩ := be_le (Crc.sum b)
  rw [hle]
  have Hbe := Lib.hid hbe
  clear hbe hle
  go_enter Tryz.func192, Tryz.ntmps192
  go_wp2_with fail
  have hg1 : ((w.alloc (.cells #[.int .u8 0, .int .u8 0, .int .u8 0, .int .u8 0] 244)).alloc (.cells #[.int .u8 0, .int .u8 0, .int .u8 0, .int .u8 0] 244)).heap[w.heap.size + 1]? = some (.cells [Value.int .u8 0, .int .u8 0, .int .u8 0, .int .u8 0].toArray 244 (0, 0)) := by
    have h := heap_alloc_new (w.alloc (.cells #[.int .u8 0, .int .u8 0, .int .u8 0, .int .u8 0] 244)) (.cells #[.int .u8 0, .int .u8 0, .int .u8 0, .int .u8 0] 244)
    simpa using h
  have hg2 : ((w.alloc (.cells #[.int .u8 0, .int .u8 0, .int .u8 0, .int .u8 0] 244)).alloc (.cells #[.int .u8 0, .int .u8 0, .int .u8 0, .int .u8 0] 244)).heap[w.heap.size]? = some (.cells [Value.int .u8 0, .int .u8 0, .int .u8 0, .int .u8 0].toArray 244 (0, 0)) := by
    have h := heap_alloc_new w (.cells #[.int .u8 0, .int .u8 0, .int .u8 0, .int .u8 0] 244)
    rw [Below.heap_alloc _ _ _ (by simp)]
    simpa using h
  have hB0 : Below w.heap.size w ((w.alloc (.cells #[.int .u8 0, .int .u8 0, .int .u8 0, .int .u8 0] 244)).alloc (.cells #[.int .u8 0, .int .u8 0, .int .u8 0, .int .u8 0] 244)) := ((Below.refl _ _).alloc (Nat.le_refl _) _).alloc (by simp) _
  have Hb0 := Lib.hid (hb.bel hB0)
  generalize ((w.alloc (.cells #[.int .u8 0, .int .u8 0, .int .u8 0, .int .u8 0] 244)).alloc (.cells #[.int .u8 0, .int .u8 0, .int .u8 0, .int .u8 0] 244)) = W0 at *
  have hlt1 : w.heap.size + 1 < W0.heap.size := heap_lt hg1
  refine wp_region_phi (by kernel_rfl) 5 ((some (w.heap.size + 1))) (fun i_ => match i_ with | 4 => true | _ => false) (fun i_ v wz => match i_ with
    | 0 => v = .slice (some ⟨w.heap.size + 1, 0, none⟩) 4 4
    | 1 => v = .slice A n c
    | 2 => v = .int .u32 (Crc.sum b : Nat)
    | 3 => ∃ A3 c3, v = .slice A3 4 c3 ∧ Own wz W0.heap.size 5 1 A3 4 c3 (bytesV (Num.be 4 (Crc.sum b)))
    | 4 => v = .int .i64 4 ∧ wz.heap[w.heap.size + 1]? = some (.cells (bytesV (Num.be 4 (Crc.sum b))).toArray 244 (0, 0))
    | _ => True) (by kernel_rfl) ?_ ?_ ?_
  · (repeat' (first | exact allLt_zero | refine allLt_succ ?_ ?_))
    · exact fun _ _ _ h _ => h
    · exact fun _ _ _ h _ => h
    · exact fun _ _ _ h _ => h
    · intro v w1 w2 h hg
      rw [show kindRow _ _ = ((some (w.heap.size + 1))) from by kernel_rfl] at hg
      obtain ⟨A3, c3, rfl, hr⟩ := h
      exact ⟨A3, c3, rfl, hr.kept hg (own_apart hr (by rintro k ⟨⟩; omega))⟩
    · intro v w1 w2 h hg
      rw [show kindRow _ _ = none from by kernel_rfl] at hg
      exact ⟨h.1, heap_grown h.2 hg (by simp)⟩
  · (repeat' (first | exact allLt_zero | refine allLt_succ ?_ ?_))
    · intro a w' hf he
      have k3 : a.tmps.getD 3 undef = .pointer (some ⟨w.heap.size + 1, 0, none⟩) := hf.var (by kernel_rfl) rfl
      refine wpOp_step rfl (fun K hK => ?_)
      go_simp
      exact hK _ _ ⟨_, rfl, rfl, World.grownBy.refl _ _⟩
    · intro a w' hf he
      have k0 : a.tmps.getD 0 undef = .slice A n c := hf.var (by kernel_rfl) rfl
      refine wpOp_step rfl (fun K hK => ?_)
      go_simp
      exact hK _ _ ⟨_, rfl, rfl, World.grownBy.refl _ _⟩
    · intro a w' hf he
      have f1 : a.tmps.getD 5 undef = .slice A n c := he 1 (by kernel_rfl)
      rw [show kindRow _ _ = none from by kernel_rfl] at hf
      refine wpOp_step rfl (fun K hK => ?_)
      go_simp
      refine (Crc.c_Sum _ _ _ b _ (Hb0.out.bel hf.bel)).mono ?_
      rintro e w2 ⟨rfl, hb2⟩
      exact hK _ _ ⟨_, rfl, rfl, grown_bel hb2⟩
    · intro a w' hf he
      have f2 : a.tmps.getD 6 undef = .int .u32 (Crc.sum b : Nat) := he 2 (by kernel_rfl)
      rw [show kindRow _ _ = none from by kernel_rfl] at hf
      refine wpOp_step rfl (fun K hK => ?_)
      go_simp
      refine (Num.c_Put32 none 0 0 [] _ (Crc.sum b) 4 _ Rd.nil_ rfl (Crc.sum_lt b) rfl (by omega)).mono ?_
      rintro e w2 ⟨A3, c3, rfl, hown, hb2⟩
      exact hK _ _ ⟨_, rfl, ⟨A3, c3, rfl, hown.mono hf.bel.size⟩, grown_bel hb2⟩
    · intro a w' hf he
      have f0 : a.tmps.getD 4 undef = .slice (some ⟨w.heap.size + 1, 0, none⟩) 4 4 := he 0 (by kernel_rfl)
      obtain ⟨A3, c3, hv3, hr3⟩ := he 3 (by kernel_rfl)
      have f3 : a.tmps.getD 7 undef = _ := hv3
      rw [show kindRow _ _ = none from by kernel_rfl] at hf
      refine wpOp_step rfl (fun K hK => ?_)
      refine wp_copy_splice (.tmp 4) (.tmp 7) 23 23 rfl 5 Tryz.underlying23 (by kernel_rfl) _ A3 4 4 4 c3 f0 f3 (w.heap.size + 1) 0 _ 244 ((hf.bel.block _ hlt1).trans hg1) (bytesV (Num.be 4 (Crc.sum b))) (by rw [bytesV_length, Num.be_length]; rfl) (fun _ => ⟨rfl, hr3.rd.src (by omega)⟩) (by rw [bytesV_length, Num.be_length]; simp) bytesV_one ?_
      intro w2 h2 hgr
      rw [splice_all (by rw [bytesV_length, Num.be_length]; rfl)] at h2
      exact hK _ _ ⟨_, rfl, ⟨by rw [bytesV_length, Num.be_length]; rfl, h2⟩, hgr⟩
  · intro a w' hf he
    obtain ⟨u4, f0⟩ : ∃ u, a.tmps.getD 4 undef = u := ⟨_, rfl⟩
    obtain ⟨u5, f1⟩ : ∃ u, a.tmps.getD 5 undef = u := ⟨_, rfl⟩
    obtain ⟨u6, f2⟩ : ∃ u, a.tmps.getD 6 undef = u := ⟨_, rfl⟩
    obtain ⟨u7, f3⟩ : ∃ u, a.tmps.getD 7 undef = u := ⟨_, rfl⟩
    obtain ⟨hv4, hr4⟩ := he 4 (by decide)
    have f4 : a.tmps.getD 8 undef = _ := hv4
    have hlit := hf.lit ((4, u4) :: (5, u5) :: (6, u6) :: (7, u7) :: (8, _) :: []) (by kernel_rfl) ⟨f0, f1, f2, f3, f4, trivial⟩
    have hB := hf.grown
    clear he hf f0 f1 f2 f3 f4 hv4
    subst hlit
    simp only [putAll_nil, putAll_cons, Act.put, List.setIfInBounds_toArray, List.set_cons_zero, List.set_cons_succ]
    simp only [List.drop_succ_cons, List.drop_zero]
    rw [Hbe.out] at hr4
    simp only [bytesV_cons, bytesV_nil] at hr4 ⊢
    have c0 : w'.cell? ⟨w.heap.size + 1, 0, none⟩ = some (.int .u8 (y3.toNat : Int)) := by simp [World.cell?, hr4]
    have c1 : w'.cell? ⟨w.heap.size + 1, 1, none⟩ = some (.int .u8 (y2.toNat : Int)) := by simp [World.cell?, hr4]
    have c2 : w'.cell? ⟨w.heap.size + 1, 2, none⟩ = some (.int .u8 (y1.toNat : Int)) := by simp [World.cell?, hr4]
    have c3 : w'.cell? ⟨w.heap.size + 1, 3, none⟩ = some (.int .u8 (y0.toNat : Int)) := by simp [World.cell?, hr4]
    clear hg1
    have Hlt1 := Lib.hid hlt1
    clear hlt1
    have hg2' : w'.heap[w.heap.size]? = some (.cells [Value.int .u8 0, .int .u8 0, .int .u8 0, .int .u8 0].toArray 244 (0, 0)) := heap_grown (w := W0.drew) hg2 hB (by simp)
    have hBw : Below w.heap.size w w' := (show Below w.heap.size w W0.drew from ⟨hB0.os, hB0.tape, hB0.output, hB0.size, hB0.block⟩).grown hB hB0.size (by rintro k ⟨⟩; omega)
    clear hB hg2
    have hu4 : (Tryz.prog.info? 244).map (·.size) = some 4 := by kernel_rfl
    go_wp2_with (first
      | (refine wpL_store_int rfl 5 (.tmp 17) (.tmp 10) rfl _ 0 rfl .u8 _ rfl (by kernel_rfl) _ _ hr4 (by simp) ?_
         intro w5 h5 hgr5
         simp only [List.setIfInBounds_toArray, List.set_cons_zero, List.set_cons_succ] at h5)
      | (refine wpL_store_int rfl 5 (.tmp 18) (.tmp 12) rfl _ 1 rfl .u8 _ rfl (by kernel_rfl) _ _ h5 (by simp) ?_
         intro w6 h6 hgr6
         simp only [List.setIfInBounds_toArray, List.set_cons_zero, List.set_cons_succ] at h6)
      | (refine wpL_store_int rfl 5 (.tmp 19) (.tmp 14) rfl _ 2 rfl .u8 _ rfl (by kernel_rfl) _ _ h6 (by simp) ?_
         intro w7 h7 hgr7
         simp only [List.setIfInBounds_toArray, List.set_cons_zero, List.set_cons_succ] at h7)
      | (refine wpL_store_int rfl 5 (.tmp 20) (.tmp 16) rfl _ 3 rfl .u8 _ rfl (by kernel_rfl) _ _ h7 (by simp) ?_
         intro w8 h8 hgr8
         simp only [List.setIfInBounds_toArray, List.set_cons_zero, List.set_cons_succ] at h8
         have hg8 := ((hgr5.trans hgr6).trans hgr7).trans hgr8
         have h82 := heap_grown hg2' hg8 (by simp)
         clear hgr5 hgr6 hgr7 hgr8 h5 h6 h7 c0 c1 c2 c3)
      | (refine wpList_load_row rfl 244 (.tmp 3) rfl _ rfl _ _ _ _ h8 Tryz.underlying244 rfl hu4 ?_)
      | (refine wpList_store_row rfl 244 (.tmp 2) (.tmp 21) rfl _ _ rfl rfl _ _ h82 hu4 rfl (by simp [Value.oneCell']) ?_))
    (try simp only [Exit.inBlock, Exit.then])
    refine bodyPost_ret (results_cell_row rfl _ _ w.heap.size _ _ (0, 0) _ rfl (setRow_heap _ _ _ _ _ _ h82) Tryz.underlying244 rfl hu4) rfl ?_
    exact ⟨rfl, (hBw.grown hg8 hBw.size (by rintro k ⟨⟩; omega)).grown (grown_setRow _ _ _) (Nat.le_trans hBw.size hg8.size) (by rintro k ⟨⟩; omega)⟩
end Go.Proofs.YtaldlapnhhhclaaGreat.Seal
/- Contracts of the package seal: Put. Conditions: the bytes are not beyond what a machine holds. -/
namespace Go.Proofs.YtaldlapnhhhclaaGreat.Seal
open Go.RowKit Tw
open Crc (le sealed le_length sealed_length)
set_option maxHeartbeats 400000

theorem splice_one (n : Nat) (b : List UInt8) (hb : b.length = n) : splice (bytesV (List.replicate (n + 4) 0)) 0 (bytesV b) = bytesV (b ++ List.replicate 4 0) := by
  simp [splice, bytesV, ← hb]
theorem splice_two (n : Nat) (l4 b : List UInt8) (hb : b.length = n) (h4 : l4.length = 4) : splice (bytesV (b ++ List.replicate 4 0)) n (bytesV l4) = bytesV (b ++ l4) := by
  simp [splice, bytesV, ← hb, h4]
theorem c_Put (A : Option Addr) (n c : Nat) (b : List UInt8) (w : World) (hb : Byt w A n c b) (hn : n ≤ 140737488351000) :
    Calls Tryz.prog 179 #[.slice A n c] w fun e w' => ∃ A2 c2, e = .returned (.slice A2 (n + 4) c2) ∧ Own w' w.heap.size 5 1 A2 (n + 4) c2 (bytesV (sealed b)) ∧ Below w.heap.size w w' := by
  have Hb := Lib.hid hb
  have hbl := hb.blen
  have Hbl := Lib.hid hbl
  clear hbl
  have hl4 := le_length 4 (Crc.sum b)
  have Hs : Hid (sealed b = b ++ le 4 (Crc.sum b)) := Lib.hid rfl
  generalize hle : le 4 (Crc.sum b) = l4 at *
  have Hle := Lib.hid hle
  clear hle
  have h4 : (Tryz.prog.info? 244).map (·.size) = some (bytesV l4).toArray.size := by rw [List.size_toArray, bytesV_length, hl4]; kernel_rfl
  have H4 := Lib.hid h4
  have Hl4 := Lib.hid hl4
  clear h4 hl4
  go_enter Tryz.func179, Tryz.ntmps179
  go_wp2_with (first
    | (go_at_call 192
       (with_reducible refine (c_sum _ _ _ b _ hb).mono ?_)
       rintro e w1 ⟨rfl, hb1⟩
       rw [Hle.out])
    | (refine wpList_store_row rfl 244 (.tmp 3) (.tmp 6) rfl w1.heap.size _ rfl rfl _ _ (heap_alloc_new _ _) H4.out (by simp [bytesV_length, Hl4.out]) (Array.all_eq_true_iff_forall_mem.2 fun v hv => bytesV_one v (by simpa using hv)) ?_
       have g1 := setRow_heap _ w1.heap.size _ (bytesV l4).toArray _ _ (heap_alloc_new w1 (.cells #[.int .u8 0, .int .u8 0, .int .u8 0, .int .u8 0] 244))
       have B1 : Below w.heap.size w ((w1.alloc (.cells #[.int .u8 0, .int .u8 0, .int .u8 0, .int .u8 0] 244)).setRow w1.heap.size (bytesV l4).toArray) := (bel_alloc hb1 hb1.size _).grown (grown_setRow _ _ _) (size_alloc_le hb1.size _) (by rintro k ⟨⟩; exact hb1.size)
       generalize hs0 : w1.heap.size = s0 at *
       have hs0w : w.heap.size ≤ s0 := hs0 ▸ hb1.size
       clear hb1
       generalize ((w1.alloc (.cells #[.int .u8 0, .int .u8 0, .int .u8 0, .int .u8 0] 244)).setRow s0 (bytesV l4).toArray) = W1 at *
       clear hs0)
    | (at_make
       refine wpL_make _ rfl _ _ _ rfl w w.heap.size B1 B1.size 5 _ 1 1 Tryz.underlying23 Num.info_u8 _ _ _ _ (n + 4) rfl rfl (by omega) (by omega) (by omega) (by unfold maxLen; omega) _ (made_u8 (n + 4)) ?_
       intro w2 hown2 hb2 hg2
       have g2 := heap_grown g1 hg2 (by simp)
       have hs0l := heap_lt g1
       have k2 := hown2.heap
       have hgB := hb2.size
       have hgW := B1.size
       generalize hg0 : W1.heap.size = g at *
       clear g1 B1 hown2 hg2 hg0))
  have Hb2 := Lib.hid (hb.bel hb2)
  have hgl := heap_lt k2
  have hs0g : s0 ≠ g := by omega
  have hdrop := splice_two n l4 b Hbl.out Hl4.out
  refine wp_region_phi (by kernel_rfl) 6 ((some g)) (fun i_ => match i_ with | 3 => true | _ => false) (fun i_ v wz => match i_ with
    | 0 => v = .slice (some ⟨g, 0, none⟩) (n + 4) (n + 4)
    | 1 => v = .slice (some ⟨g, 0, none⟩) (n + 4) (n + 4)
    | 2 => v = .slice A n c
    | 3 => v = .int .i64 n ∧ wz.heap[g]? = some (.cells (bytesV (b ++ List.replicate 4 0)).toArray 5 (0, 0))
    | 4 => v = .slice (some ⟨g, n, none⟩) 4 4
    | 5 => v = .slice (some ⟨s0, 0, none⟩) 4 4
    | _ => True) (by kernel_rfl) ?_ ?_ ?_
  · (repeat' (first | exact allLt_zero | refine allLt_succ ?_ ?_))
    · exact fun _ _ _ h _ => h
    · exact fun _ _ _ h _ => h
    · exact fun _ _ _ h _ => h
    · intro v w1 w2 h hg
      rw [show kindRow _ _ = none from by kernel_rfl] at hg
      exact ⟨h.1, heap_grown h.2 hg (by simp)⟩
    · exact fun _ _ _ h _ => h
    · exact fun _ _ _ h _ => h
  · (repeat' (first | exact allLt_zero | refine allLt_succ ?_ ?_))
    · intro a w' hf he
      have k4 : a.tmps.getD 4 undef = .slice (some ⟨g, 0, none⟩) (n + 4) (n + 4) := hf.var (by kernel_rfl) rfl
      refine wpOp_step rfl (fun K hK => ?_)
      go_simp
      exact hK _ _ ⟨_, rfl, rfl, World.grownBy.refl _ _⟩
    · intro a w' hf he
      have k4 : a.tmps.getD 4 undef = .slice (some ⟨g, 0, none⟩) (n + 4) (n + 4) := hf.var (by kernel_rfl) rfl
      refine wpOp_step rfl (fun K hK => ?_)
      go_simp
      exact hK _ _ ⟨_, rfl, rfl, World.grownBy.refl _ _⟩
    · intro a w' hf he
      have k0 : a.tmps.getD 0 undef = .slice A n c := hf.var (by kernel_rfl) rfl
      refine wpOp_step rfl (fun K hK => ?_)
      go_simp
      exact hK _ _ ⟨_, rfl, rfl, World.grownBy.refl _ _⟩
    · intro a w' hf he
      have f1 : a.tmps.getD 12 undef = .slice (some ⟨g, 0, none⟩) (n + 4) (n + 4) := he 1 (by kernel_rfl)
      have f2 : a.tmps.getD 13 undef = .slice A n c := he 2 (by kernel_rfl)
      rw [show kindRow _ _ = none from by kernel_rfl] at hf
      refine wpOp_step rfl (fun K hK => ?_)
      refine wp_copy_splice (.tmp 12) (.tmp 13) 23 23 rfl 5 Tryz.underlying23 (by kernel_rfl) _ A (n + 4) (n + 4) n c f1 f2 g 0 _ 5 ((hf.bel.block _ hgl).trans k2) (bytesV b) (by rw [bytesV_length, Hbl.out]; exact (Nat.min_eq_left (by omega)).symm) (fun h0 => ⟨rfl, (Hb2.out.bel hf.bel).src (by rw [bytesV_length, Hbl.out] at h0; exact h0)⟩) (by simp [bytesV, Hbl.out]) bytesV_one ?_
      intro w3 h3 hgr
      rw [splice_one n b Hbl.out] at h3
      exact hK _ _ ⟨_, rfl, ⟨by rw [bytesV_length, Hbl.out]; rfl, h3⟩, hgr⟩
    · intro a w' hf he
      have f0 : a.tmps.getD 11 undef = .slice (some ⟨g, 0, none⟩) (n + 4) (n + 4) := he 0 (by kernel_rfl)
      obtain ⟨hv3, hr3⟩ := he 3 (by kernel_rfl)
      have f3 : a.tmps.getD 14 undef = _ := hv3
      rw [show kindRow _ _ = ((some g)) from by kernel_rfl] at hf
      refine wpOp_step rfl (fun K hK => ?_)
      go_simp
      rw [if_pos (by omega)]
      exact hK _ _ ⟨_, rfl, rfl, World.grownBy.refl _ _⟩
    · intro a w' hf he
      have k3 : a.tmps.getD 3 undef = .pointer (some ⟨s0, 0, none⟩) := hf.var (by kernel_rfl) rfl
      refine wpOp_step rfl (fun K hK => ?_)
      go_simp
      exact hK _ _ ⟨_, rfl, rfl, World.grownBy.refl _ _⟩
  · intro a w' hf he
    obtain ⟨u11, f0⟩ : ∃ u, a.tmps.getD 11 undef = u := ⟨_, rfl⟩
    obtain ⟨u12, f1⟩ : ∃ u, a.tmps.getD 12 undef = u := ⟨_, rfl⟩
    obtain ⟨u13, f2⟩ : ∃ u, a.tmps.getD 13 undef = u := ⟨_, rfl⟩
    obtain ⟨hv3, hr3⟩ := he 3 (by decide)
    have f3 : a.tmps.getD 14 undef = _ := hv3
    have f4 : a.tmps.getD 15 undef = .slice (some ⟨g, n, none⟩) 4 4 := he 4 (by decide)
    have f5 : a.tmps.getD 16 undef = .slice (some ⟨s0, 0, none⟩) 4 4 := he 5 (by decide)
    have hlit := hf.lit ((11, u11) :: (12, u12) :: (13, u13) :: (14, _) :: (15, .slice (some ⟨g, n, none⟩) 4 4) :: (16, .slice (some ⟨s0, 0, none⟩) 4 4) :: []) (by kernel_rfl) ⟨f0, f1, f2, f3, f4, f5, trivial⟩
    have hB := hf.grown
    clear he hf f0 f1 f2 f3 f4 f5 hv3
    subst hlit
    simp only [putAll_nil, putAll_cons, Act.put, List.setIfInBounds_toArray, List.set_cons_zero, List.set_cons_succ]
    simp only [List.drop_succ_cons, List.drop_zero]
    refine wpList_plain rfl fun _ hK => wp_copy_splice (.tmp 15) (.tmp 16) 23 23 rfl 5 Tryz.underlying23 (by kernel_rfl) _ _ 4 4 4 4 rfl rfl g n _ 5 hr3 (bytesV l4) (by rw [bytesV_length, Hl4.out]; rfl) (fun _ => ⟨rfl, (rd_of_heap (heap_grown (w := w2.drew) g2 hB (by simpa using hs0g)) (by rw [bytesV_length, Hl4.out]) (by simp [maxLen])).src (by omega)⟩) (by simp [bytesV, Hbl.out, Hl4.out]) bytesV_one ?_
    intro w5 h5 hgr
    rw [hdrop] at h5
    refine hK _ _ ?_
    clear hK
    simp only [Act.put, List.setIfInBounds_toArray, List.set_cons_zero, List.set_cons_succ]
    have hbw : Below w.heap.size w w5 := ((show Below w.heap.size w w2.drew from ⟨hb2.os, hb2.tape, hb2.output, hb2.size, hb2.block⟩).grown hB hb2.size (by rintro k ⟨⟩; exact hgW)).grown hgr (Nat.le_trans hb2.size hB.size) (by rintro k ⟨⟩; exact hgW)
    go_wp2_with fail
    go_ret
    refine ⟨some ⟨g, 0, none⟩, n + 4, rfl, ?_, hbw⟩
    rw [Hs.out]
    exact own_of_heap h5 hgW (by simp [bytesV, Hbl.out, Hl4.out]) (by unfold maxLen; omega)
end Go.Proofs.YtaldlapnhhhclaaGreat.Seal
/- Contracts of the package seal, and of its reference: Record. Conditions: none. -/
namespace Go.Proofs.YtaldlapnhhhclaaGreat.Seal
open Go.RowKit Tw
open Crc (le sealed le_length sealed_length)
set_option maxHeartbeats 400000

/-- the bytes of a record -/
def rec (n p : Nat) : List UInt8 := sealed (Num.be 4 n ++ Num.be 8 p)
theorem rec_length (n p : Nat) : (rec n p).length = 16 := by simp [rec, sealed_length, Num.be_length]
def z16 : List Value := [.int .u8 0, .int .u8 0, .int .u8 0, .int .u8 0, .int .u8 0, .int .u8 0, .int .u8 0, .int .u8 0, .int .u8 0, .int .u8 0, .int .u8 0, .int .u8 0, .int .u8 0, .int .u8 0, .int .u8 0, .int .u8 0]
theorem z16_bytes : z16 = bytesV (List.replicate 16 0) := rfl

theorem two_alloc (w : World) (o : Obj) : ∃ w0, w0 = (w.alloc o).alloc o ∧ w0.heap[w.heap.size]? = some o ∧ w0.heap[w.heap.size + 1]? = some o ∧ Below w.heap.size w w0 := by
  refine ⟨_, rfl, ?_, ?_, ((Below.refl _ _).alloc (Nat.le_refl _) _).alloc (by simp) _⟩
  · rw [Below.heap_alloc _ _ _ (by simp)]
    exact heap_alloc_new w o
  · have h := heap_alloc_new (w.alloc o) o
    simpa using h

theorem c_Record (n p : Nat) (w : World) (hn : n < 4294967296) (hp : p < 18446744073709551616) :
    Calls Tryz.prog 160 #[.int .u32 (n : Int), .int .u64 (p : Int)] w fun e w' => e = .returned (.agg (bytesV (rec n p)).toArray) ∧ Below w.heap.size w w' := by
  have Hl := Lib.hid (rec_length n p)
  have H16 : Hid ((Tryz.prog.info? 127).map (·.size) = some (bytesV (rec n p)).toArray.size) := Lib.hid (by rw [List.size_toArray, bytesV_length, Hl.out]; kernel_rfl)
  have hr : Hid (sealed (Num.be 4 n ++ Num.be 8 p) = rec n p) := Lib.hid rfl
  generalize rec n p = L at *
  go_enter Tryz.func160, Tryz.ntmps160
  go_wp2_with fail
  obtain ⟨W0, hW0, hg1, hg2, hB0⟩ := two_alloc w (.cells z16.toArray 127)
  have HW : W0 = ((w.alloc (.cells #[.int .u8 0, .int .u8 0, .int .u8 0, .int .u8 0, .int .u8 0, .int .u8 0, .int .u8 0, .int .u8 0, .int .u8 0, .int .u8 0, .int .u8 0, .int .u8 0, .int .u8 0, .int .u8 0, .int .u8 0, .int .u8 0] 127)).alloc (.cells #[.int .u8 0, .int .u8 0, .int .u8 0, .int .u8 0, .int .u8 0, .int .u8 0, .int .u8 0, .int .u8 0, .int .u8 0, .int .u8 0, .int .u8 0, .int .u8 0, .int .u8 0, .int .u8 0, .int .u8 0, .int .u8 0] 127)) := hW0
  rw [← HW]
  clear HW hW0
  have hlt1 : w.heap.size + 1 < W0.heap.size := heap_lt hg2
  have HW0 := hB0.size
  refine wp_region_phi (by kernel_rfl) 7 ((some (w.heap.size + 1))) (fun i_ => match i_ with | 6 => true | _ => false) (fun i_ v wz => match i_ with
    | 0 => v = .slice (some ⟨w.heap.size + 1, 0, none⟩) 16 16
    | 1 => v = .int .u32 (n : Int)
    | 2 => ∃ A3 c3, v = .slice A3 4 c3 ∧ Own wz W0.heap.size 5 1 A3 4 c3 (bytesV (Num.be 4 n))
    | 3 => v = .int .u64 (p : Int)
    | 4 => ∃ A3 c3, v = .slice A3 12 c3 ∧ Own wz W0.heap.size 5 1 A3 12 c3 (bytesV (Num.be 4 n ++ Num.be 8 p))
    | 5 => ∃ A3 c3, v = .slice A3 16 c3 ∧ Own wz W0.heap.size 5 1 A3 16 c3 (bytesV L)
    | 6 => v = .int .i64 16 ∧ wz.heap[w.heap.size + 1]? = some (.cells (bytesV L).toArray 127 (0, 0))
    | _ => True) (by kernel_rfl) ?_ ?_ ?_
  · (repeat' (first | exact allLt_zero | refine allLt_succ ?_ ?_))
    · exact fun _ _ _ h _ => h
    · exact fun _ _ _ h _ => h
    · intro v w1 w2 h hg
      rw [show kindRow _ _ = ((some (w.heap.size + 1))) from by kernel_rfl] at hg
      obtain ⟨A3, c3, rfl, hr⟩ := h
      exact ⟨A3, c3, rfl, hr.kept hg (own_apart hr (by rintro k ⟨⟩; omega))⟩
    · exact fun _ _ _ h _ => h
    · intro v w1 w2 h hg
      rw [show kindRow _ _ = ((some (w.heap.size + 1))) from by kernel_rfl] at hg
      obtain ⟨A3, c3, rfl, hr⟩ := h
      exact ⟨A3, c3, rfl, hr.kept hg (own_apart hr (by rintro k ⟨⟩; omega))⟩
    · intro v w1 w2 h hg
      rw [show kindRow _ _ = ((some (w.heap.size + 1))) from by kernel_rfl] at hg
      obtain ⟨A3, c3, rfl, hr⟩ := h
      exact ⟨A3, c3, rfl, hr.kept hg (own_apart hr (by rintro k ⟨⟩; omega))⟩
    · intro v w1 w2 h hg
      rw [show kindRow _ _ = none from by kernel_rfl] at hg
      exact ⟨h.1, heap_grown h.2 hg (by simp)⟩
  · (repeat' (first | exact allLt_zero | refine allLt_succ ?_ ?_))
    · intro a w' hf he
      have k5 : a.tmps.getD 5 undef = .pointer (some ⟨w.heap.size + 1, 0, none⟩) := hf.var (by kernel_rfl) rfl
      refine wpOp_step rfl (fun K hK => ?_)
      go_simp
      exact hK _ _ ⟨_, rfl, rfl, World.grownBy.refl _ _⟩
    · intro a w' hf he
      have k0 : a.tmps.getD 0 undef = .int .u32 (n : Int) := hf.var (by kernel_rfl) rfl
      refine wpOp_step rfl (fun K hK => ?_)
      go_simp
      exact hK _ _ ⟨_, rfl, rfl, World.grownBy.refl _ _⟩
    · intro a w' hf he
      have f1 : a.tmps.getD 7 undef = .int .u32 (n : Int) := he 1 (by kernel_rfl)
      rw [show kindRow _ _ = none from by kernel_rfl] at hf
      refine wpOp_step rfl (fun K hK => ?_)
      go_simp
      refine (Num.c_Put32 none 0 0 [] _ n 4 _ Rd.nil_ rfl hn rfl (by omega)).mono ?_
      rintro e w2 ⟨A3, c3, rfl, hown, hb2⟩
      exact hK _ _ ⟨_, rfl, ⟨A3, c3, rfl, hown.mono hf.bel.size⟩, grown_bel hb2⟩
    · intro a w' hf he
      have k1 : a.tmps.getD 1 undef = .int .u64 (p : Int) := hf.var (by kernel_rfl) rfl
      refine wpOp_step rfl (fun K hK => ?_)
      go_simp
      exact hK _ _ ⟨_, rfl, rfl, World.grownBy.refl _ _⟩
    · intro a w' hf he
      obtain ⟨A2, c2, hv2, hr2⟩ := he 2 (by kernel_rfl)
      have f2 : a.tmps.getD 8 undef = _ := hv2
      have f3 : a.tmps.getD 9 undef = .int .u64 (p : Int) := he 3 (by kernel_rfl)
      rw [show kindRow _ _ = none from by kernel_rfl] at hf
      refine wpOp_step rfl (fun K hK => ?_)
      go_simp
      refine (Num.c_Put64 _ _ _ _ _ p 12 _ hr2.rd rfl hp rfl (by omega)).mono ?_
      rintro e w2 ⟨A3, c3, rfl, hown, hb2⟩
      exact hK _ _ ⟨_, rfl, ⟨A3, c3, rfl, hown.mono hf.bel.size⟩, grown_bel hb2⟩
    · intro a w' hf he
      obtain ⟨A4, c4, hv4, hr4⟩ := he 4 (by kernel_rfl)
      have f4 : a.tmps.getD 10 undef = _ := hv4
      rw [show kindRow _ _ = none from by kernel_rfl] at hf
      refine wpOp_step rfl (fun K hK => ?_)
      go_simp
      refine (c_Put _ 12 _ _ _ hr4.rd (by omega)).mono ?_
      rintro e w2 ⟨A3, c3, rfl, hown, hb2⟩
      rw [hr.out] at hown
      exact hK _ _ ⟨_, rfl, ⟨A3, c3, rfl, hown.mono hf.bel.size⟩, grown_bel hb2⟩
    · intro a w' hf he
      have f0 : a.tmps.getD 6 undef = .slice (some ⟨w.heap.size + 1, 0, none⟩) 16 16 := he 0 (by kernel_rfl)
      obtain ⟨A5, c5, hv5, hr5⟩ := he 5 (by kernel_rfl)
      have f5 : a.tmps.getD 11 undef = _ := hv5
      rw [show kindRow _ _ = none from by kernel_rfl] at hf
      refine wpOp_step rfl (fun K hK => ?_)
      refine wp_copy_splice (.tmp 6) (.tmp 11) 23 23 rfl 5 Tryz.underlying23 (by kernel_rfl) _ _ 16 16 16 _ f0 f5 (w.heap.size + 1) 0 _ 127 ((hf.bel.block _ hlt1).trans hg2) (bytesV L) (by rw [bytesV_length, Hl.out]; rfl) (fun _ => ⟨rfl, hr5.rd.src (by omega)⟩) (by rw [bytesV_length, Hl.out]; simp [z16]) bytesV_one ?_
      intro w2 h2 hgr
      rw [splice_all (by rw [bytesV_length, Hl.out]; rfl)] at h2
      exact hK _ _ ⟨_, rfl, ⟨by rw [bytesV_length, Hl.out]; rfl, h2⟩, hgr⟩
  · intro a w' hf he
    obtain ⟨u6, f0⟩ : ∃ u, a.tmps.getD 6 undef = u := ⟨_, rfl⟩
    obtain ⟨u7, f1⟩ : ∃ u, a.tmps.getD 7 undef = u := ⟨_, rfl⟩
    obtain ⟨u8, f2⟩ : ∃ u, a.tmps.getD 8 undef = u := ⟨_, rfl⟩
    obtain ⟨u9, f3⟩ : ∃ u, a.tmps.getD 9 undef = u := ⟨_, rfl⟩
    obtain ⟨u10, f4⟩ : ∃ u, a.tmps.getD 10 undef = u := ⟨_, rfl⟩
    obtain ⟨u11, f5⟩ : ∃ u, a.tmps.getD 11 undef = u := ⟨_, rfl⟩
    obtain ⟨hv6, hr6⟩ := he 6 (by decide)
    have f6 : a.tmps.getD 12 undef = _ := hv6
    have hlit := hf.lit ((6, u6) :: (7, u7) :: (8, u8) :: (9, u9) :: (10, u10) :: (11, u11) :: (12, _) :: []) (by kernel_rfl) ⟨f0, f1, f2, f3, f4, f5, f6, trivial⟩
    have hB := hf.grown
    clear he hf f0 f1 f2 f3 f4 f5 f6 hv6
    subst hlit
    simp only [putAll_nil, putAll_cons, Act.put, List.setIfInBounds_toArray, List.set_cons_zero, List.set_cons_succ]
    simp only [List.drop_succ_cons, List.drop_zero]
    have h1' := heap_grown (w := W0.drew) hg1 hB (by simp)
    have hBw : Below w.heap.size w w' := (show Below w.heap.size w W0.drew from ⟨hB0.os, hB0.tape, hB0.output, hB0.size, hB0.block⟩).grown hB hB0.size (by rintro k ⟨⟩; omega)
    clear hB hg1 hg2
    go_wp2_with (first
      | (refine wpList_load_row rfl 127 (.tmp 5) rfl _ rfl _ _ _ _ hr6 Tryz.underlying127 rfl H16.out ?_)
      | (refine wpList_store_row rfl 127 (.tmp 4) (.tmp 13) rfl _ _ rfl rfl _ _ h1' H16.out (by simp [bytesV_length, Hl.out, z16]) (Array.all_eq_true_iff_forall_mem.2 fun v hv => bytesV_one v (by simpa using hv)) ?_))
    (try simp only [Exit.inBlock, Exit.then])
    refine bodyPost_ret (results_cell_row rfl _ _ w.heap.size _ _ (0, 0) _ rfl (setRow_heap _ _ _ _ _ _ h1') Tryz.underlying127 rfl H16.out) rfl ?_
    exact ⟨rfl, hBw.grown (grown_setRow _ _ _) hBw.size (by rintro k ⟨⟩; omega)⟩

theorem fill_next {L : List UInt8} {k : Nat} {q : UInt8} (hL : L.length = 16) (hq : L[k]? = some q) (hk : k < 16) : (bytesV (L.take k ++ List.replicate (16 - k) 0)).toArray.setIfInBounds k (.int .u8 (q.toNat : Int)) = (bytesV (L.take (k + 1) ++ List.replicate (16 - (k + 1)) 0)).toArray := by
  rw [Crc.take_snoc hq, List.setIfInBounds_toArray]
  congr 1
  obtain ⟨m, hm⟩ : ∃ m, 16 - k = m + 1 := ⟨15 - k, by omega⟩
  rw [hm, show 16 - (k + 1) = m from by omega, List.replicate_succ, bytesV_append, bytesV_append, List.set_append_right _ _ (by simp [bytesV]; omega)]
  have : k - (bytesV (L.take k)).length = 0 := by simp [bytesV]; omega
  rw [this]
  simp [bytesV]
set_option maxRecDepth 100000 in
theorem c_rRecord (n p : Nat) (w : World) (hn : n < 4294967296) (hp : p < 18446744073709551616) :
    Calls Tryz.prog 117 #[.int .u32 (n : Int), .int .u64 (p : Int)] w fun e w' => e = .returned (.agg (bytesV (rec n p)).toArray) ∧ Below w.heap.size w w' := by
  have Hl := Lib.hid (rec_length n p)
  have H16 : Hid ((Tryz.prog.info? 127).map (·.size) = some (bytesV (rec n p)).toArray.size) := Lib.hid (by rw [List.size_toArray, bytesV_length, Hl.out]; kernel_rfl)
  have hr : Hid (sealed (Num.be 4 n ++ Num.be 8 p) = rec n p) := Lib.hid rfl
  generalize rec n p = L at *
  go_enter Tryz.func117, Tryz.ntmps117
  obtain ⟨W0, hW0, hg1, hg2, hB0⟩ := two_alloc w (.cells z16.toArray 127)
  have HW : Hid (((w.alloc (.cells #[.int .u8 0, .int .u8 0, .int .u8 0, .int .u8 0, .int .u8 0, .int .u8 0, .int .u8 0, .int .u8 0, .int .u8 0, .int .u8 0, .int .u8 0, .int .u8 0, .int .u8 0, .int .u8 0, .int .u8 0, .int .u8 0] 127)).alloc (.cells #[.int .u8 0, .int .u8 0, .int .u8 0, .int .u8 0, .int .u8 0, .int .u8 0, .int .u8 0, .int .u8 0, .int .u8 0, .int .u8 0, .int .u8 0, .int .u8 0, .int .u8 0, .int .u8 0, .int .u8 0, .int .u8 0] 127)) = W0) := Lib.hid hW0.symm
  clear hW0
  have hlt1 : w.heap.size + 1 < W0.heap.size := heap_lt hg2
  have HW0 := hB0.size
  go_wp2_with (first
    | (go_at_call 164
       rw [HW.out]
       (with_reducible refine (Num.c_rPut32 none 0 0 [] _ n 4 _ Rd.nil_ rfl hn rfl (by omega)).mono ?_)
       rintro e w1 ⟨A1, c1, rfl, hown1, hb1⟩)
    | (go_at_call 163
       (with_reducible refine (Num.c_rPut64 _ _ _ _ _ p 12 _ hown1.rd rfl hp rfl (by omega)).mono ?_)
       rintro e w2 ⟨A2, c2, rfl, hown2, hb2⟩)
    | (go_at_call 162
       (with_reducible refine (c_rPut _ 12 _ _ _ hown2.rd (by omega)).mono ?_)
       rintro e w3 ⟨A3, c3, rfl, hown3, hb3⟩
       replace hown3 : Own w3 w2.heap.size 5 1 A3 16 c3 (bytesV (sealed (Num.be 4 n ++ Num.be 8 p))) := hown3
       rw [hr.out] at hown3
       have hB3 : Below W0.heap.size W0 w3 := (hb1.trans (hb2.mono hb1.size)).trans (hb3.mono (Nat.le_trans hb1.size hb2.size))))
  have g1 := (hB3.block _ (by omega)).trans hg1
  have g2 := (hB3.block _ hlt1).trans hg2
  have hBw : Below w.heap.size w w3 := hB0.trans (hB3.mono HW0)
  have hsz := hB3.size
  replace hown3 := hown3.mono (Nat.le_trans hb1.size hb2.size)
  clear HW hg1 hg2 hb1 hb2 hb3 hown1 hown2 hB3 hB0
  obtain ⟨ad, rfl, -⟩ := hown3.rd.src (by omega)
  have Ho := Lib.hid hown3
  clear hown3
  go_loopw [13] (fun i wr => ∃ k : Nat, k ≤ 16 ∧ i = .int .i64 (k : Int) ∧ wr.heap[w.heap.size + 1]? = some (.cells (bytesV (L.take k ++ List.replicate (16 - k) 0)).toArray 127 (0, 0)) ∧ wr.heap[w.heap.size]? = some (.cells z16.toArray 127 (0, 0)) ∧ Hid (Own wr W0.heap.size 5 1 (some ad) 16 c3 (bytesV L)) ∧ Below w.heap.size w wr) (fun i _ => 16 - (intOf i).toNat)
  case atStart => exact ⟨0, by omega, rfl, g2, g1, Ho, hBw⟩
  case round =>
    clear g1 g2 hBw Ho
    obtain ⟨k, hk, rfl, g2, g1, ho, hBw⟩ := hrel
    by_cases hk16 : k < 16
    · obtain ⟨ad', q, had, hq, hcell, hq256⟩ := Rd.atB ho.out.rd hk16
      injection had with had
      subst had
      have hfill := fill_next Hl.out hq.out hk16
      have Hf := Lib.hid hfill
      clear hfill
      have Hks : Hid (k < (bytesV (L.take k ++ List.replicate (16 - k) 0)).toArray.size) := Lib.hid (by rw [List.size_toArray, bytesV_length, List.length_append, List.length_take, List.length_replicate, Hl.out]; omega)
      have G2 := Lib.hid g2
      have G1 := Lib.hid g1
      clear g1 g2
      go_wp2_with (first
        | (refine wpL_store_int rfl 5 (.tmp 21) (.tmp 20) rfl _ k rfl .u8 _ rfl (by kernel_rfl) _ _ G2.out Hks.out ?_
           intro w5 h5 hgr
           rw [Hf.out] at h5))
      have ho5 := ho.out.kept hgr (own_apart ho.out (by rintro j ⟨⟩; omega))
      have h15 := heap_grown G1.out hgr (by simp)
      have hB5 := hBw.grown hgr hBw.size (by rintro j ⟨⟩; omega)
      go_roundw
      case rel => exact ⟨k + 1, by omega, by go_num, h5, h15, Lib.hid ho5, hB5⟩
      case measure => simp [intOf] <;> omega
    · obtain rfl : k = 16 := by omega
      have hL : L.take 16 ++ List.replicate (16 - 16) 0 = L := by rw [Nat.sub_self, List.replicate_zero, List.append_nil, List.take_of_length_le (by rw [Hl.out]; omega)]
      rw [hL] at g2
      have G2 := Lib.hid g2
      have G1 := Lib.hid g1
      clear hL g1 g2
      go_wp2_with (first
        | (refine wpList_load_row rfl 127 (.tmp 5) rfl _ rfl _ _ _ _ G2.out Tryz.underlying127 rfl H16.out ?_)
        | (refine wpList_store_row rfl 127 (.tmp 4) (.tmp 23) rfl _ _ rfl rfl _ _ G1.out H16.out (by simp [bytesV_length, Hl.out, z16]) (Array.all_eq_true_iff_forall_mem.2 fun v hv => bytesV_one v (by simpa using hv)) ?_))
      (try simp only [Exit.inBlock, Exit.then])
      refine bodyPost_ret (results_cell_row rfl _ _ w.heap.size _ _ (0, 0) _ rfl (setRow_heap _ _ _ _ _ _ G1.out) Tryz.underlying127 rfl H16.out) rfl ?_
      exact ⟨rfl, hBw.grown (grown_setRow _ _ _) hBw.size (by rintro k ⟨⟩; omega)⟩
end Go.Proofs.YtaldlapnhhhclaaGreat.Seal
/- Contracts of the package seal, and of its reference: Get. Conditions: none. -/
namespace Go.Proofs.YtaldlapnhhhclaaGreat.Seal
open Go.RowKit Tw
open Crc (le sealed le_length sealed_length)
set_option maxHeartbeats 400000

/-- what bytes tell: the bytes, and the error's number -/
def get (b : List UInt8) : List UInt8 × Nat := if b.length < 4 then ([], 8) else if sealed (b.take (b.length - 4)) = b then (b.take (b.length - 4), 0) else ([], 10)
theorem get_short {b : List UInt8} (h : b.length < 4) : get b = ([], 8) := by simp [get, h]
theorem get_sum {b : List UInt8} (h : 4 ≤ b.length) (hs : sealed (b.take (b.length - 4)) ≠ b) : get b = ([], 10) := by simp [get, show ¬ b.length < 4 by omega, hs]
theorem get_ok {b : List UInt8} (h : 4 ≤ b.length) (hs : sealed (b.take (b.length - 4)) = b) : get b = (b.take (b.length - 4), 0) := by simp [get, show ¬ b.length < 4 by omega, hs]
theorem sealed_iff (b : List UInt8) (m : Nat) (hb : b.length = m + 4) : sealed (b.take m) = b ↔ le 4 (Crc.sum (b.take m)) = b.drop m := by
  constructor
  · intro h
    have h2 : (sealed (b.take m)).drop m = b.drop m := by rw [h]
    rw [← h2]
    unfold sealed
    rw [List.drop_append_of_le_length (by simp; omega), List.drop_of_length_le (by simp; omega), List.nil_append]
  · intro h
    unfold sealed
    rw [h, List.take_append_drop]

end Go.Proofs.YtaldlapnhhhclaaGreat.Seal
