/- Contracts of the package wire and of its reference: Bytes. Conditions: none. -/
import Derived.Test.YtplemdgihlabgaaWire
import Derived.Test.YtplemdgihlabgaaNum
import Derived.Test.YtplemdgihlabgaaSeal3
import Derived.Test.YtplemdgihlabgaaCopy
set_option linter.unusedVariables false
set_option linter.unusedSimpArgs false
namespace Go.Proofs.Ytplemdgihlabgaa.Wire
open Go.RowKit Tw
set_option maxHeartbeats 8000000
set_option maxRecDepth 100000
/-- a packet's bytes ahead of the sum -/
def raw (f t : Nat) (k s a : Int) (body : List UInt8) : List UInt8 :=
  (((((Num.be 2 (23 + body.length) ++ Num.be 4 f) ++ Num.be 4 t) ++ [UInt8.ofNat k.toNat]) ++ Num.be 4 s.toNat) ++ Num.be 4 a.toNat) ++ body
theorem raw_len (f t : Nat) (k s a : Int) (body : List UInt8) : (raw f t k s a body).length = 19 + body.length := by simp [raw, Num.be_length]; omega
def bytes (f t : Nat) (k s a : Int) (body : List UInt8) : List UInt8 := if Good f t k s a body.length then Crc.sealed (raw f t k s a body) else []
theorem bytes_is (f t : Nat) (k s a : Int) (body : List UInt8) : bytes f t k s a body = if Good f t k s a body.length then Crc.sealed (raw f t k s a body) else [] := rfl
theorem one_byte {K : Nat} (h : K < 256) (l : List UInt8) : bytesV l ++ [.int .u8 (K : Int)] = bytesV (l ++ [UInt8.ofNat K]) := by
  rw [bytesV_append]
  congr 1
  simp [bytesV, Nat.mod_eq_of_lt h]
theorem c_rBytes (f t : Nat) (k s a : Int) (A : Option Addr) (n c : Nat) (body : List UInt8) (w : World) (hf : f < 4294967296) (ht : t < 4294967296) (hb : Byt w A n c body) :
    Calls Try.prog 48 #[.agg #[.int .u32 (f : Int), .int .u32 (t : Int), .int .i64 k, .int .i64 s, .int .i64 a, .slice A n c]] w fun e w' => ∃ A2 n2 c2, e = .returned (.slice A2 n2 c2) ∧ Byt w' A2 n2 c2 (bytes f t k s a body) ∧ Below w.heap.size w w' := by
  have hlen := hb.blen
  have HB := Lib.hid ((Below.refl _ _).alloc (Nat.le_refl w.heap.size) (.cells #[.int .u32 (f : Int), .int .u32 (t : Int), .int .i64 k, .int .i64 s, .int .i64 a, .slice A n c] 92))
  have HX := Lib.hid (heap_alloc_new w (.cells #[.int .u32 (f : Int), .int .u32 (t : Int), .int .i64 k, .int .i64 s, .int .i64 a, .slice A n c] 92))
  have Hb := Lib.hid hb
  have hg := fun w => c_rGood f t k s a A n c w
  obtain ⟨k0, k1, k2, k3, k4, k5⟩ := cells6 HX.out
  clear hb
  have hby := bytes_is f t k s a body
  rw [hlen] at hby
  obtain ⟨BY, hBY⟩ : ∃ l, bytes f t k s a body = l := ⟨_, rfl⟩
  rw [hBY] at hby ⊢
  clear hBY
  go_enter Try.func48, Try.ntmps48
  go_upto_region 1 with (fail)
  generalize w.alloc (.cells #[.int .u32 (f : Int), .int .u32 (t : Int), .int .i64 k, .int .i64 s, .int .i64 a, .slice A n c] 92) = W1 at *
  by_cases hgd : Good f t k s a n
  · have hd := Lib.hid (decide_eq_true hgd)
    rw [if_pos hgd] at hby
    obtain ⟨g1, g2, g3, g4, g5, g6⟩ := hgd
    have hk : 1 ≤ k ∧ k ≤ 3 := by omega
    have hn : n ≤ 200 := by omega
    obtain ⟨K, rfl⟩ : ∃ K : Nat, k = (K : Int) := ⟨k.toNat, by omega⟩
    obtain ⟨S, rfl⟩ : ∃ S : Nat, s = (S : Int) := ⟨s.toNat, by omega⟩
    obtain ⟨AA, rfl⟩ : ∃ AA : Nat, a = (AA : Int) := ⟨a.toNat, by omega⟩
    have Hn := Lib.hid hlen
    unfold raw at hby
    rw [hlen] at hby
    simp only [Int.toNat_natCast] at hby
    have Hby := Lib.hid hby
    have hNN : Hid (((23 + (n : Int)) % 65536).toNat = 23 + n) := Lib.hid (by omega)
    have hK3 : K < 256 := by omega
    clear g6 hlen hby
    go_wp2_with (first
      | (go_at_call 109
         (with_reducible refine (hg _).mono ?_)
         rintro e w1 ⟨rfl, hb1⟩
         rw [hd.out]
         have HB1 := Lib.hid (HB.out.trans (hb1.mono HB.out.size))
         have HX := Lib.hid ((hb1.block _ (heap_lt HX.out)).trans HX.out)
         clear k0 k1 k2 k3 k4 k5
         obtain ⟨k0, k1, k2, k3, k4, k5⟩ := cells6 HX.out
         clear hb1 hg)
      | (go_at_call 110
         (with_reducible refine (Num.c_rPut16 none 0 0 [] (23 + (n : Int)) 2 _ Rd.nil_ rfl (by omega)).mono ?_)
         rintro e w2 ⟨A2, c2, rfl, ho2, hb2⟩
         rw [hNN.out, List.nil_append] at ho2
         have HB2 := Lib.hid (HB1.out.trans (hb2.mono HB1.out.size))
         have HX := Lib.hid ((hb2.block _ (heap_lt HX.out)).trans HX.out)
         have HS2 := Lib.hid (heap_lt HX.out)
         have O2 := Lib.hid ho2
         clear k0 k1 k2 k3 k4 k5
         obtain ⟨k0, k1, k2, k3, k4, k5⟩ := cells6 HX.out
         clear hb2 ho2)
      | (go_at_call 111
         (with_reducible refine (Num.c_rPut32 A2 2 c2 _ _ f 6 _ O2.out.rd rfl hf rfl (by omega)).mono ?_)
         rintro e w3 ⟨A3, c3, rfl, ho3, hb3⟩
         have HB3 := Lib.hid (HB2.out.trans (hb3.mono HB2.out.size))
         have HX := Lib.hid ((hb3.block _ (heap_lt HX.out)).trans HX.out)
         have HS3 := Lib.hid (heap_lt HX.out)
         have O3 := Lib.hid ho3
         clear k0 k1 k2 k3 k4 k5
         obtain ⟨k0, k1, k2, k3, k4, k5⟩ := cells6 HX.out
         clear hb3 ho3 O2)
      | (go_at_call 111
         (with_reducible refine (Num.c_rPut32 A3 6 c3 _ _ t 10 _ O3.out.rd rfl ht rfl (by omega)).mono ?_)
         rintro e w4 ⟨A4, c4, rfl, ho4, hb4⟩
         have HB4 := Lib.hid (HB3.out.trans (hb4.mono HB3.out.size))
         have HX := Lib.hid ((hb4.block _ (heap_lt HX.out)).trans HX.out)
         have HS4 := Lib.hid (heap_lt HX.out)
         have O4 := Lib.hid ho4
         clear k0 k1 k2 k3 k4 k5
         obtain ⟨k0, k1, k2, k3, k4, k5⟩ := cells6 HX.out
         have R5 := Lib.hid (rd_one w4 5 (.int .u8 (K : Int)))
         have BB5 := Lib.hid (bel_alloc (Below.refl w3.heap.size w4) hb4.size (.cells #[.int .u8 (K : Int)] 5))
         have HS5 : Hid (w3.heap.size ≤ (w4.alloc (.cells #[.int .u8 (K : Int)] 5)).heap.size) := Lib.hid (by have := hb4.size; rw [World.size_alloc]; omega)
         have O5 := Lib.hid (O4.out.alloc (.cells #[.int .u8 (K : Int)] 5))
         clear hb4 ho4 O3)
      | (refine wpL_append _ rfl (.tmp 20) (.tmp 24) _ rfl w4 w3.heap.size BB5.out HS5.out 5 _ 1 1 Try.underlying62 Num.info_u8 rfl (by omega) _ _ _ _ rfl O5.out _ _ _ _ rfl R5.out (by simp [Value.oneCell']) 11 _ rfl (one_byte hK3 _) (by unfold maxLen; omega) (by omega) ?_
         intro A6 c6 w6 ho6 hb6 hg6 hl6
         have HB6 := Lib.hid (HB4.out.trans (hb6.mono HB3.out.size))
         have HX := Lib.hid ((hb6.block _ HS3.out).trans HX.out)
         have O6 := Lib.hid ho6
         clear k0 k1 k2 k3 k4 k5
         obtain ⟨k0, k1, k2, k3, k4, k5⟩ := cells6 HX.out
         clear ho6 hb6 hg6 hl6 O5 R5 BB5)
      | (go_at_call 111
         (with_reducible refine (Num.c_rPut32 A6 11 c6 _ _ S 15 _ O6.out.rd rfl (by omega) rfl (by omega)).mono ?_)
         rintro e w7 ⟨A7, c7, rfl, ho7, hb7⟩
         have HB7 := Lib.hid (HB6.out.trans (hb7.mono HB6.out.size))
         have HX := Lib.hid ((hb7.block _ (heap_lt HX.out)).trans HX.out)
         have HS7 := Lib.hid (heap_lt HX.out)
         have O7 := Lib.hid ho7
         clear k0 k1 k2 k3 k4 k5
         obtain ⟨k0, k1, k2, k3, k4, k5⟩ := cells6 HX.out
         clear hb7 ho7 O6)
      | (go_at_call 111
         (with_reducible refine (Num.c_rPut32 A7 15 c7 _ _ AA 19 _ O7.out.rd rfl (by omega) rfl (by omega)).mono ?_)
         rintro e w8 ⟨A8, c8, rfl, ho8, hb8⟩
         have HB8 := Lib.hid (HB7.out.trans (hb8.mono HB7.out.size))
         have HX := Lib.hid ((hb8.block _ (heap_lt HX.out)).trans HX.out)
         have HS8 := Lib.hid (heap_lt HX.out)
         have O8 := Lib.hid ho8
         clear k0 k1 k2 k3 k4 k5
         obtain ⟨k0, k1, k2, k3, k4, k5⟩ := cells6 HX.out
         have HS9 := Lib.hid hb8.size
         clear hb8 ho8 O7)
      | (refine wpL_append _ rfl (.tmp 36) (.tmp 38) _ rfl w8 w7.heap.size (Below.refl _ _) HS9.out 5 _ 1 1 Try.underlying62 Num.info_u8 rfl (by omega) _ _ _ _ rfl O8.out _ _ _ _ rfl (Hb.out.bel HB8.out) bytesV_one (19 + n) _ rfl (bytesV_append _ _).symm (by unfold maxLen; omega) (by omega) ?_
         intro A9 c9 w9 ho9 hb9 hg9 hl9
         have HB9 := Lib.hid (HB8.out.trans (hb9.mono HB7.out.size))
         have O9 := Lib.hid ho9.rd
         clear ho9 hb9 hg9 hl9)
      | (go_at_call 112
         (with_reducible refine (Seal.c_rPut A9 (19 + n) c9 _ _ O9.out (by omega)).mono ?_)
         rintro e w10 ⟨A10, c10, rfl, ho10, hb10⟩
         have HB10 := Lib.hid (HB9.out.trans (hb10.mono HB9.out.size))
         have O10 := Lib.hid ho10.rd
         clear ho10 hb10))
    go_ret
    rw [Hby.out]
    exact ⟨A10, _, c10, rfl, O10.out, HB10.out⟩
  · have hd := Lib.hid (decide_eq_false hgd)
    rw [if_neg hgd] at hby
    have Hby := Lib.hid hby
    clear hgd hby
    go_wp2_with (first
      | (go_at_call 109
         (with_reducible refine (hg _).mono ?_)
         rintro e w1 ⟨rfl, hb1⟩
         rw [hd.out]
         have HB1 := Lib.hid (HB.out.trans (hb1.mono HB.out.size))
         clear hb1 hg))
    go_ret
    rw [Hby.out]
    exact ⟨none, 0, 0, rfl, Rd.nil_, HB1.out⟩
end Go.Proofs.Ytplemdgihlabgaa.Wire
