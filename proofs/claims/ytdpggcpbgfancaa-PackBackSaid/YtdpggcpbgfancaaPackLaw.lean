/- Messages' bytes, plainly: what was laid is read, what is read was laid. Conditions: none. -/
import Derived.Test.YtdpggcpbgfancaaPack10
set_option linter.unusedVariables false
set_option linter.unusedSimpArgs false
namespace Go.Proofs.Ytdpggcpbgfancaa.Pack
open Go.RowKit Tw
open Bx (be_gv gv_be)
theorem good_some {p : Ms} (h : GoodM p) : 1 ≤ p.k ∧ p.k ≤ 8 ∧ 0 ≤ p.i ∧ p.i ≤ 72057594037927935 ∧ 0 ≤ p.o ∧ p.o ≤ 255 ∧ p.d.length ≤ 128 := by
  unfold GoodM Good at h
  omega
theorem kk_of {k : Int} (h0 : 1 ≤ k) (h1 : k ≤ 8) : kk k = true := decide_eq_true ⟨h0, h1⟩
theorem head_raw {k i o : Int} {m : Nat} {wb : Bool} {d : List UInt8} (h0 : 1 ≤ k) (h1 : k ≤ 8) : headM (raw k i o m wb d) = k := by
  unfold headM raw
  simp only [List.append_assoc, List.singleton_append, List.getD_cons_zero]
  simp
  omega
theorem tail_raw {k i o : Int} {m : Nat} {wb : Bool} {d : List UInt8} : (raw k i o m wb d).drop 1 = (if kW k = true then fb wb :: Num.be 8 m else []) ++ ((if kI k = true then Num.be 8 i.toNat else []) ++ ((if kO k = true then Num.be 2 o.toNat else []) ++ d)) := by
  unfold raw
  simp only [List.append_assoc, List.singleton_append, List.drop_succ_cons, List.drop_zero]
  rfl
theorem fb_flag (w : Bool) : ((fb w).toNat : Int) ≤ 1 ∧ ((((fb w).toNat : Nat) : Int) == 1) = w := by cases w <;> decide
theorem len8 (n : Nat) : (Num.be 8 n).length = 8 := Num.be_length 8 n
theorem len2 (n : Nat) : (Num.be 2 n).length = 2 := Num.be_length 2 n
theorem drop8 (n : Nat) (l : List UInt8) : (Num.be 8 n ++ l).drop 8 = l := List.drop_left' (len8 n)
theorem drop2 (n : Nat) (l : List UInt8) : (Num.be 2 n ++ l).drop 2 = l := List.drop_left' (len2 n)
/-- the fields of what was laid -/
theorem fields_raw {k i o : Int} {m : Nat} {wb : Bool} {d : List UInt8} (hm : m < 18446744073709551616) (hG : Good k i o m wb d.length) :
    fieldsM k ((raw k i o m wb d).drop 1) = ⟨k, i, o, m, wb, d⟩ ∧ fine (kW k) (kI k) ((raw k i o m wb d).drop 1) = true ∧ ((raw k i o m wb d).drop 1).length = nd (kW k) (kI k) (kO k) + d.length := by
  have hg' : 0 ≤ i ∧ i ≤ 72057594037927935 ∧ 0 ≤ o ∧ o ≤ 255 := by unfold Good at hG; omega
  have hI0 : kI k = false → i = 0 := fun h => by unfold kI at h; simp only [decide_eq_false_iff_not] at h; unfold Good at hG; omega
  have hO0 : kO k = false → o = 0 := fun h => by unfold kO at h; simp only [decide_eq_false_iff_not] at h; unfold Good at hG; omega
  have hW0 : kW k = false → wb = false ∧ m = 0 := fun h => by
    unfold kW at h
    simp only [decide_eq_false_iff_not] at h
    rcases hG.2.1 with e | e
    · exact absurd e h
    · exact e
  obtain ⟨q1, q2, q3, q4⟩ := hg'
  have hsh := shapes (K := k)
  rw [tail_raw]
  unfold fieldsM
  have ei : ((i.toNat : Nat) : Int) = i := Int.toNat_of_nonneg q1
  have eo : ((o.toNat : Nat) : Int) = o := Int.toNat_of_nonneg q3
  have hi : i.toNat < 256 ^ 8 := by omega
  have ho : o.toNat < 256 ^ 2 := by omega
  have hm8 : m < 256 ^ 8 := hm
  clear hG
  generalize kW k = a at *
  generalize kI k = b at *
  generalize kO k = c at *
  rcases hsh with ⟨rfl, rfl, rfl⟩ | ⟨rfl, rfl, rfl⟩ | ⟨rfl, rfl, rfl⟩ | ⟨rfl, rfl, rfl⟩ | ⟨rfl, rfl, rfl⟩
  · obtain rfl := hI0 rfl
    obtain rfl := hO0 rfl
    simp only [if_true, Bool.false_eq_true, if_false, List.nil_append, List.cons_append]
    refine ⟨?_, ?_, ?_⟩
    · have e1 : fM true (fb wb :: (Num.be 8 m ++ d)) = m := by
        show Num.gv 8 (Num.be 8 m ++ d) = m
        exact gv_be 8 m hm8 d
      have e2 : fW true (fb wb :: (Num.be 8 m ++ d)) = wb := (fb_flag wb).2
      have e3 : (fb wb :: (Num.be 8 m ++ d)).drop (nd true false false) = d := by
        show (Num.be 8 m ++ d).drop 8 = d
        exact drop8 m d
      rw [e1, e2, e3]
      rfl
    · show decide (((fb wb).toNat : Int) ≤ 1) = true
      exact decide_eq_true (fb_flag wb).1
    · simp [nd, len8]
      omega
  · obtain ⟨rfl, rfl⟩ := hW0 rfl
    simp only [if_true, Bool.false_eq_true, if_false, List.nil_append]
    have hv : Num.gv 8 (Num.be 8 i.toNat ++ (Num.be 2 o.toNat ++ d)) = i.toNat := gv_be 8 _ hi _
    refine ⟨?_, ?_, ?_⟩
    · have e1 : fI true (Num.be 8 i.toNat ++ (Num.be 2 o.toNat ++ d)) = i.toNat := by
        unfold fI
        rw [if_pos rfl, hv, if_pos (by omega)]
      have e2 : fO true true (Num.be 8 i.toNat ++ (Num.be 2 o.toNat ++ d)) = o.toNat := by
        unfold fO
        rw [if_pos rfl, if_pos rfl, drop8]
        exact gv_be 2 _ ho _
      have e3 : (Num.be 8 i.toNat ++ (Num.be 2 o.toNat ++ d)).drop (nd false true true) = d := by
        rw [show nd false true true = 8 + 2 from rfl, ← List.drop_drop, drop8, drop2]
      rw [e1, e2, e3, ei, eo]
      rfl
    · show decide (Num.gv 8 _ ≤ 72057594037927935) = true
      rw [hv]
      exact decide_eq_true (by omega)
    · simp [nd, len8, len2]
      omega
  · obtain ⟨rfl, rfl⟩ := hW0 rfl
    obtain rfl := hO0 rfl
    simp only [if_true, Bool.false_eq_true, if_false, List.nil_append]
    have hv : Num.gv 8 (Num.be 8 i.toNat ++ d) = i.toNat := gv_be 8 _ hi _
    refine ⟨?_, ?_, ?_⟩
    · have e1 : fI true (Num.be 8 i.toNat ++ d) = i.toNat := by
        unfold fI
        rw [if_pos rfl, hv, if_pos (by omega)]
      have e3 : (Num.be 8 i.toNat ++ d).drop (nd false true false) = d := drop8 _ _
      rw [e1, e3, ei]
      rfl
    · show decide (Num.gv 8 _ ≤ 72057594037927935) = true
      rw [hv]
      exact decide_eq_true (by omega)
    · simp [nd, len8]
  · obtain ⟨rfl, rfl⟩ := hW0 rfl
    obtain rfl := hI0 rfl
    simp only [if_true, Bool.false_eq_true, if_false, List.nil_append]
    refine ⟨?_, rfl, ?_⟩
    · have e2 : fO false true (Num.be 2 o.toNat ++ d) = o.toNat := by
        unfold fO
        rw [if_pos rfl, if_neg (by simp)]
        exact gv_be 2 _ ho _
      have e3 : (Num.be 2 o.toNat ++ d).drop (nd false false true) = d := drop2 _ _
      rw [e2, e3, eo]
      rfl
    · simp [nd, len2]
  · obtain ⟨rfl, rfl⟩ := hW0 rfl
    obtain rfl := hI0 rfl
    obtain rfl := hO0 rfl
    simp only [Bool.false_eq_true, if_false, List.nil_append]
    exact ⟨rfl, rfl, by simp [nd]⟩
theorem nd_le (a b c : Bool) : nd a b c ≤ 19 := by cases a <;> cases b <;> cases c <;> decide
theorem nd_le2 (k : Int) : nd (kW k) (kI k) (kO k) ≤ 10 := by
  rcases shapes (K := k) with ⟨h1, h2, h3⟩ | ⟨h1, h2, h3⟩ | ⟨h1, h2, h3⟩ | ⟨h1, h2, h3⟩ | ⟨h1, h2, h3⟩ <;> rw [h1, h2, h3] <;> decide
theorem bytesM_good {p : Ms} (h : GoodM p) : bytesM p = raw p.k p.i p.o p.m p.w p.d := if_pos h
theorem bytesM_bad {p : Ms} (h : ¬GoodM p) : bytesM p = [] := if_neg h
theorem raw_len {p : Ms} (hm : p.m < 18446744073709551616) (h : GoodM p) : (raw p.k p.i p.o p.m p.w p.d).length = 1 + nd (kW p.k) (kI p.k) (kO p.k) + p.d.length := by
  have h1 := (fields_raw hm h).2.2
  rw [List.length_drop] at h1
  have h2 : 0 < (raw p.k p.i p.o p.m p.w p.d).length := by unfold raw; simp
  omega
theorem len_good {p : Ms} (hm : p.m < 18446744073709551616) (h : GoodM p) : 0 < (bytesM p).length ∧ (bytesM p).length ≤ 200 := by
  rw [bytesM_good h, raw_len hm h]
  have := nd_le2 p.k
  have := (good_some h).2.2.2.2.2.2
  omega
/-- what was laid is read -/
theorem parse_bytes {p : Ms} (hm : p.m < 18446744073709551616) (h : GoodM p) : parse (bytesM p) = (p, 0) := by
  have hl := len_good hm h
  have hg := good_some h
  have hf := fields_raw hm h
  rw [bytesM_good h] at hl ⊢
  have hh : headM (raw p.k p.i p.o p.m p.w p.d) = p.k := head_raw hg.1 hg.2.1
  unfold parse
  rw [if_neg (by omega), if_neg (by omega), hh, kk_of hg.1 hg.2.1, if_neg (by simp), if_neg (by rw [hf.2.2]; omega), hf.1, hf.2.1, if_pos ⟨rfl, h⟩]
/-- the bytes of the fields -/
theorem raw_fields {b : List UInt8} (hb : 0 < b.length) (hl : nd (kW (headM b)) (kI (headM b)) (kO (headM b)) ≤ (b.drop 1).length) (hf : fine (kW (headM b)) (kI (headM b)) (b.drop 1) = true) :
    raw (fieldsM (headM b) (b.drop 1)).k (fieldsM (headM b) (b.drop 1)).i (fieldsM (headM b) (b.drop 1)).o (fieldsM (headM b) (b.drop 1)).m (fieldsM (headM b) (b.drop 1)).w (fieldsM (headM b) (b.drop 1)).d = b := by
  cases b with
  | nil => simp at hb
  | cons x r =>
    have hx : headM (x :: r) = ((x.toNat : Nat) : Int) := rfl
    have hx2 : UInt8.ofNat (headM (x :: r)).toNat = x := by rw [hx, Int.toNat_natCast]; exact UInt8.toNat_inj.1 (by simp)
    rw [show (x :: r).drop 1 = r from rfl] at hl hf ⊢
    generalize headM (x :: r) = k at *
    have hsh := shapes (K := k)
    unfold fieldsM raw
    simp only
    rw [hx2]
    generalize kW k = a at *
    generalize kI k = b at *
    generalize kO k = c at *
    rcases hsh with ⟨rfl, rfl, rfl⟩ | ⟨rfl, rfl, rfl⟩ | ⟨rfl, rfl, rfl⟩ | ⟨rfl, rfl, rfl⟩ | ⟨rfl, rfl, rfl⟩
    · cases r with
      | nil => simp [nd] at hl
      | cons y r =>
        simp only [if_true, Bool.false_eq_true, if_false, List.append_nil]
        have h8 : 8 ≤ r.length := by simp [nd] at hl; omega
        have e1 : fM true (y :: r) = Num.gv 8 r := rfl
        have e2 : fb (fW true (y :: r)) = y := by
          have hy : ((y.toNat : Nat) : Int) ≤ 1 := of_decide_eq_true hf
          show fb ((((y.toNat : Nat) : Int) == 1)) = y
          have h2 : y.toNat = 0 ∨ y.toNat = 1 := by omega
          rcases h2 with h2 | h2
          · rw [h2]
            exact UInt8.toNat_inj.1 (by rw [h2]; rfl)
          · rw [h2]
            exact UInt8.toNat_inj.1 (by rw [h2]; rfl)
        rw [e1, e2, be_gv h8]
        simp [nd]
    · simp only [if_true, Bool.false_eq_true, if_false, List.append_nil, Int.toNat_natCast]
      have h10 : 10 ≤ r.length := hl
      have hv : Num.gv 8 r ≤ 72057594037927935 := of_decide_eq_true hf
      have e1 : fI true r = Num.gv 8 r := by unfold fI; rw [if_pos rfl, if_pos hv]
      have e2 : fO true true r = Num.gv 2 (r.drop 8) := rfl
      rw [e1, e2, be_gv (by omega), be_gv (by rw [List.length_drop]; omega), show nd false true true = 8 + 2 from rfl, ← List.drop_drop]
      simp only [List.append_assoc, List.singleton_append, List.cons_append, List.nil_append, List.take_append_drop]
    · simp only [if_true, Bool.false_eq_true, if_false, List.append_nil, Int.toNat_natCast]
      have h10 : 8 ≤ r.length := hl
      have hv : Num.gv 8 r ≤ 72057594037927935 := of_decide_eq_true hf
      have e1 : fI true r = Num.gv 8 r := by unfold fI; rw [if_pos rfl, if_pos hv]
      rw [e1, be_gv (by omega), show nd false true false = 8 from rfl]
      simp
    · simp only [if_true, Bool.false_eq_true, if_false, List.append_nil, Int.toNat_natCast]
      have h10 : 2 ≤ r.length := hl
      have e2 : fO false true r = Num.gv 2 r := rfl
      rw [e2, be_gv (by omega), show nd false false true = 2 from rfl]
      simp
    · simp [nd]
theorem parse_ok {b : List UInt8} (h : (parse b).2 = 0) : 0 < b.length ∧ b.length ≤ 200 ∧ nd (kW (headM b)) (kI (headM b)) (kO (headM b)) ≤ (b.drop 1).length ∧ fine (kW (headM b)) (kI (headM b)) (b.drop 1) = true ∧ GoodM (fieldsM (headM b) (b.drop 1)) ∧ (parse b).1 = fieldsM (headM b) (b.drop 1) := by
  unfold parse at h ⊢
  split at h
  · cases h
  · split at h
    · cases h
    · split at h
      · cases h
      · split at h
        · cases h
        · split at h
          · rename_i h1 h2 h3 h4 h5
            rw [if_neg h1, if_neg h2, if_neg h3, if_neg h4, if_pos h5]
            exact ⟨by omega, by omega, by omega, h5.1, h5.2, rfl⟩
          · cases h
/-- what is read was laid -/
theorem bytes_parse {b : List UInt8} (h : (parse b).2 = 0) : GoodM (parse b).1 ∧ bytesM (parse b).1 = b := by
  obtain ⟨h1, h2, h3, h4, h5, h6⟩ := parse_ok h
  rw [h6]
  exact ⟨h5, by rw [bytesM_good h5]; exact raw_fields h1 h3 h4⟩
/-- the reference's way -/
theorem parse_ref {b : List UInt8} (h0 : 0 < b.length) (h1 : b.length ≤ 200) (hk : kk (headM b) = true) (hl : nd (kW (headM b)) (kI (headM b)) (kO (headM b)) ≤ (b.drop 1).length) (hid : kI (headM b) = true → Num.gv 8 (b.drop 1) ≤ 72057594037927935) :
    parse b = if bytesM (fieldsM (headM b) (b.drop 1)) = b then (fieldsM (headM b) (b.drop 1), 0) else (zm, 9) := by
  unfold parse
  rw [if_neg (by omega), if_neg (by omega), hk, if_neg (by simp), if_neg (by omega)]
  by_cases hb : bytesM (fieldsM (headM b) (b.drop 1)) = b
  · rw [if_pos hb]
    have hG : GoodM (fieldsM (headM b) (b.drop 1)) := by
      by_cases hg : GoodM (fieldsM (headM b) (b.drop 1))
      · exact hg
      · rw [bytesM_bad hg] at hb
        rw [← hb] at h0
        simp at h0
    have hb2 := hb
    rw [bytesM_good hG] at hb2
    have hm : (fieldsM (headM b) (b.drop 1)).m < 18446744073709551616 := by
      show fM _ _ < _
      unfold fM
      split
      · exact Num.gv_lt 8 _
      · omega
    have hf := (fields_raw hm hG).2.1
    rw [hb2] at hf
    rw [if_pos ⟨hf, hG⟩]
  · rw [if_neg hb, if_neg]
    rintro ⟨hf, hG⟩
    exact hb (by rw [bytesM_good hG]; exact raw_fields h0 hl hf)
theorem parse_big {b : List UInt8} (h0 : 0 < b.length) (h1 : b.length ≤ 200) (hk : kk (headM b) = true) (hl : nd (kW (headM b)) (kI (headM b)) (kO (headM b)) ≤ (b.drop 1).length) (hI : kI (headM b) = true) (hid : ¬Num.gv 8 (b.drop 1) ≤ 72057594037927935) : parse b = (zm, 9) := by
  unfold parse
  rw [if_neg (by omega), if_neg (by omega), hk, if_neg (by simp), if_neg (by omega), if_neg]
  rintro ⟨hf, -⟩
  have hW : kW (headM b) = false := by
    rcases shapes (K := headM b) with ⟨h1, h2, h3⟩ | ⟨h1, h2, h3⟩ | ⟨h1, h2, h3⟩ | ⟨h1, h2, h3⟩ | ⟨h1, h2, h3⟩
    · rw [hI] at h2; cases h2
    all_goals exact h1
  rw [hW, hI] at hf
  exact hid (of_decide_eq_true hf)
end Go.Proofs.Ytdpggcpbgfancaa.Pack
