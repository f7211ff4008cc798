/- Packets' bytes, plainly: what was laid is read, what is read was laid, and what was cut or turned is no packet. Conditions: none. -/
import Derived.Test.YtdpggcpbgfancaaWire6
import Derived.Test.YtdpggcpbgfancaaSealLaw2
namespace Go.Proofs.Ytdpggcpbgfancaa.Wire
open Go.RowKit Tw
open Crc (le sealed le_length sealed_length turn)
theorem be_high (k : Nat) : ∀ a v, Num.be k (a * 256 ^ k + v) = Num.be k v := by
  induction k with
  | zero => intro a v; rfl
  | succ k ih =>
    intro a v
    have e : a * 256 ^ (k + 1) + v = (a * 256) * 256 ^ k + v := by rw [Nat.pow_succ, Nat.mul_assoc, Nat.mul_comm 256]
    rw [Num.be, Num.be, e, ih]
    congr 1
    have h1 : ((a * 256) * 256 ^ k + v) / 256 ^ k = a * 256 + v / 256 ^ k := by
      rw [Nat.add_comm, Nat.add_mul_div_right _ _ (Nat.pow_pos (by omega)), Nat.add_comm]
    rw [h1]
    apply UInt8.toNat_inj.1
    simp
theorem val_cons (x : UInt8) (l : List UInt8) : Num.val (x :: l) = x.toNat * 256 ^ l.length + Num.val l := by
  have h : ∀ (l : List UInt8) (a : Nat), l.foldl (fun n (c : UInt8) => n * 256 + c.toNat) a = a * 256 ^ l.length + Num.val l := by
    intro l
    induction l with
    | nil => intro a; simp [Num.val]
    | cons y l ih =>
      intro a
      have h1 := ih (a * 256 + y.toNat)
      have h2 := ih (0 * 256 + y.toNat)
      simp only [List.foldl_cons, Num.val] at h1 h2 ⊢
      rw [h1, h2, List.length_cons, Nat.pow_succ, Nat.zero_mul, Nat.zero_add, Nat.add_mul, Nat.mul_assoc, Nat.mul_comm 256 (256 ^ l.length)]
      omega
  have h3 := h l x.toNat
  simp only [Num.val, List.foldl_cons, Nat.zero_mul, Nat.zero_add] at h3 ⊢
  exact h3
theorem be_val : ∀ (l : List UInt8) (k : Nat), l.length = k → Num.be k (Num.val l) = l
  | [], k, h => by
    subst h
    rfl
  | x :: l, k, h => by
    subst h
    have hl := Num.val_lt l
    rw [List.length_cons, val_cons, Num.be, be_high, be_val l _ rfl]
    congr 1
    rw [Nat.add_comm, Nat.add_mul_div_right _ _ (Nat.pow_pos (by omega)), Nat.div_eq_of_lt hl]
    apply UInt8.toNat_inj.1
    simp
theorem be_gv {l : List UInt8} {k : Nat} (h : k ≤ l.length) : Num.be k (Num.gv k l) = l.take k := by
  rw [Num.gv_yes h]
  exact be_val _ _ (by rw [List.length_take]; omega)
theorem gv_be (k n : Nat) (h : n < 256 ^ k) (l : List UInt8) : Num.gv k (Num.be k n ++ l) = n := by
  rw [Num.gv_yes (by rw [List.length_append, Num.be_length]; omega), List.take_left' (Num.be_length k n), Seal.val_be' k n h]
theorem parse_yes {b : List UInt8} (h0 : 23 ≤ b.length) (h1 : b.length ≤ 223) (h2 : Num.gv 2 b = b.length) (h3 : (Seal.get b).2 = 0) (h4 : GoodP (fields (Seal.get b).1)) : parse b = (fields (Seal.get b).1, 0) := by
  unfold parse
  rw [if_neg (by omega), if_neg (by omega), if_neg (by omega), if_neg (by omega), if_pos h4]
theorem parse_ok {b : List UInt8} (h : (parse b).2 = 0) : 23 ≤ b.length ∧ b.length ≤ 223 ∧ Num.gv 2 b = b.length ∧ (Seal.get b).2 = 0 ∧ GoodP (fields (Seal.get b).1) ∧ (parse b).1 = fields (Seal.get b).1 := by
  unfold parse at h ⊢
  split at h
  · cases h
  · split at h
    · cases h
    · split at h
      · cases h
      · split at h
        · contradiction
        · split at h
          · rename_i h1 h2 h3 h4 h5
            rw [if_neg h1, if_neg h2, if_neg h3, if_neg h4, if_pos h5]
            exact ⟨by omega, by omega, by omega, by omega, h5, rfl⟩
          · cases h
theorem get_is {b : List UInt8} (h : (Seal.get b).2 = 0) : sealed (Seal.get b).1 = b := by
  unfold Seal.get at h ⊢
  split at h
  · cases h
  · split at h
    · rename_i h1 h2
      rw [if_neg h1, if_pos h2]
      exact h2
    · cases h
theorem good_bounds {f t : Nat} {k s a : Int} {n : Nat} (h : Good f t k s a n) : n ≤ 200 ∧ 0 ≤ s ∧ s ≤ 2147483647 ∧ 0 ≤ a ∧ a ≤ 2147483647 ∧ 1 ≤ k ∧ k ≤ 3 := by
  unfold Good at h
  omega
theorem raw_bytes (p : Pk) (hf : p.f < 4294967296) (ht : p.t < 4294967296) (h : GoodP p) : fields (raw p.f p.t p.k p.s p.a p.body) = p := by
  obtain ⟨f, t, k, s, a, body⟩ := p
  obtain ⟨q0, q1, q2, q3, q4, q5, q6⟩ := good_bounds h
  simp only at q0 q1 q2 q3 q4 q5 q6 hf ht ⊢
  clear h
  have r2 : (raw f t k s a body).drop 2 = Num.be 4 f ++ (Num.be 4 t ++ ([UInt8.ofNat k.toNat] ++ (Num.be 4 s.toNat ++ (Num.be 4 a.toNat ++ body)))) := by
    simp only [raw, List.append_assoc]
    exact List.drop_left' (Num.be_length 2 _)
  have r6 : (raw f t k s a body).drop 6 = Num.be 4 t ++ ([UInt8.ofNat k.toNat] ++ (Num.be 4 s.toNat ++ (Num.be 4 a.toNat ++ body))) := by
    rw [show 6 = 2 + 4 from rfl, ← List.drop_drop, r2]
    exact List.drop_left' (Num.be_length 4 _)
  have r10 : (raw f t k s a body).drop 10 = [UInt8.ofNat k.toNat] ++ (Num.be 4 s.toNat ++ (Num.be 4 a.toNat ++ body)) := by
    rw [show 10 = 6 + 4 from rfl, ← List.drop_drop, r6]
    exact List.drop_left' (Num.be_length 4 _)
  have r11 : (raw f t k s a body).drop 11 = Num.be 4 s.toNat ++ (Num.be 4 a.toNat ++ body) := by
    rw [show 11 = 10 + 1 from rfl, ← List.drop_drop, r10]
    rfl
  have r15 : (raw f t k s a body).drop 15 = Num.be 4 a.toNat ++ body := by
    rw [show 15 = 11 + 4 from rfl, ← List.drop_drop, r11]
    exact List.drop_left' (Num.be_length 4 _)
  have r19 : (raw f t k s a body).drop 19 = body := by
    rw [show 19 = 15 + 4 from rfl, ← List.drop_drop, r15]
    exact List.drop_left' (Num.be_length 4 _)
  have rb : (raw f t k s a body).getD 10 0 = UInt8.ofNat k.toNat := by
    have h1 : (raw f t k s a body)[10]? = ((raw f t k s a body).drop 10)[0]? := by rw [List.getElem?_drop]
    rw [List.getD_eq_getElem?_getD, h1, r10]
    rfl
  unfold fields
  rw [r2, r6, r11, r15, r19, rb, gv_be 4 f hf, gv_be 4 t ht, gv_be 4 s.toNat (by omega), gv_be 4 a.toNat (by omega)]
  have e1 : ((UInt8.ofNat k.toNat).toNat : Int) = k := by simp; omega
  rw [e1, Int.toNat_of_nonneg q1, Int.toNat_of_nonneg q3]
theorem sealed_raw_len (p : Pk) : (sealed (raw p.f p.t p.k p.s p.a p.body)).length = 23 + p.body.length := by rw [sealed_length, raw_len]; omega
theorem gv2_append {l : List UInt8} (m : List UInt8) (h : 2 ≤ l.length) : Num.gv 2 (l ++ m) = Num.gv 2 l := by
  rw [Num.gv_yes h, Num.gv_yes (by rw [List.length_append]; omega), List.take_append_of_le_length h]
theorem gv2_raw (p : Pk) (h : p.body.length ≤ 200) : Num.gv 2 (raw p.f p.t p.k p.s p.a p.body) = 23 + p.body.length := by
  simp only [raw, List.append_assoc]
  exact gv_be 2 _ (by omega) _
theorem parse_bytes (p : Pk) (hf : p.f < 4294967296) (ht : p.t < 4294967296) (h : GoodP p) : parse (sealed (raw p.f p.t p.k p.s p.a p.body)) = (p, 0) := by
  have hg := Seal.get_sealed (raw p.f p.t p.k p.s p.a p.body)
  have hr := raw_bytes p hf ht h
  have hb := (good_bounds h).1
  have hl := sealed_raw_len p
  have := parse_yes (b := sealed (raw p.f p.t p.k p.s p.a p.body)) (by omega) (by omega) (by
    rw [hl, sealed, gv2_append _ (by rw [raw_len]; omega), gv2_raw p hb]) (by rw [hg]) (by rw [hg]; simp only; rw [hr]; exact h)
  rw [this, hg]
  simp only
  rw [hr]
/-- bytes that are a packet are its bytes -/
theorem bytes_parse {b : List UInt8} (h : (parse b).2 = 0) : bytes (parse b).1.f (parse b).1.t (parse b).1.k (parse b).1.s (parse b).1.a (parse b).1.body = b := by
  obtain ⟨h0, h1, h2, h3, h4, h5⟩ := parse_ok h
  rw [h5]
  have hs := get_is h3
  have hlen := get_len b h3
  have h6 : Num.gv 2 (Seal.get b).1 = b.length := by
    rw [← h2]
    conv => rhs; rw [← hs]
    rw [sealed, gv2_append _ (by omega)]
  generalize (Seal.get b).1 = x at *
  rw [bytes_is]
  unfold GoodP at h4
  rw [if_pos h4]
  rw [← hs]
  congr 1
  have hb23 : 23 + (x.drop 19).length = b.length := by rw [List.length_drop]; omega
  unfold raw fields
  simp only
  rw [hb23, ← h6, be_gv (by omega), be_gv (by rw [List.length_drop]; omega), be_gv (by rw [List.length_drop]; omega), Int.toNat_natCast, Int.toNat_natCast, Int.toNat_natCast, be_gv (by rw [List.length_drop]; omega), be_gv (by rw [List.length_drop]; omega)]
  have e1 : [UInt8.ofNat (x.getD 10 0).toNat] = (x.drop 10).take 1 := by
    have hd : x.drop 10 = x[10]'(by omega) :: x.drop 11 := List.drop_eq_getElem_cons (by omega)
    rw [List.getD_eq_getElem?_getD, List.getElem?_eq_getElem (show 10 < x.length by omega), hd]
    simp only [Option.getD_some, UInt8.ofNat_toNat]
    rfl
  rw [e1]
  simp only [List.append_assoc]
  have cut : ∀ (n m : Nat), (x.drop n).take m ++ x.drop (n + m) = x.drop n := fun n m => by rw [← List.drop_drop, List.take_append_drop]
  rw [cut 15 4, cut 11 4, cut 10 1, cut 6 4, cut 2 4, List.take_append_drop]
theorem parse_cut (p : Pk) (h : GoodP p) {k : Nat} (hk : k < 23 + p.body.length) : (parse ((sealed (raw p.f p.t p.k p.s p.a p.body)).take k)).2 ≠ 0 := by
  intro he
  obtain ⟨h0, h1, h2, h3, -, -⟩ := parse_ok he
  have hl := sealed_raw_len p
  have hb := (good_bounds h).1
  rw [List.length_take] at h0 h2
  have hm : min k (sealed (raw p.f p.t p.k p.s p.a p.body)).length = k := by omega
  rw [hm] at h0 h2
  have h4 : Num.gv 2 ((sealed (raw p.f p.t p.k p.s p.a p.body)).take k) = Num.gv 2 (sealed (raw p.f p.t p.k p.s p.a p.body)) := by
    conv => rhs; rw [← List.take_append_drop k (sealed (raw p.f p.t p.k p.s p.a p.body))]
    rw [gv2_append _ (by rw [List.length_take]; omega)]
  rw [h4, sealed, gv2_append _ (by rw [raw_len]; omega), gv2_raw p hb] at h2
  omega
theorem parse_turned (p : Pk) {a s : Nat} (hs : s < 4294967296) (h0 : s ≠ 0) (ha : a ≤ 19 + p.body.length) : (parse (turn (sealed (raw p.f p.t p.k p.s p.a p.body)) (Seal.bits4 a 4 (23 + p.body.length) s))).2 ≠ 0 := by
  intro he
  obtain ⟨-, -, -, h3, -, -⟩ := parse_ok he
  have h4 := Seal.get_turned (raw p.f p.t p.k p.s p.a p.body) hs h0 (by rw [raw_len]; exact ha)
  rw [raw_len, show 19 + p.body.length + 4 = 23 + p.body.length by omega] at h4
  rw [h4] at h3
  cases h3
end Go.Proofs.Ytdpggcpbgfancaa.Wire
