/- Numbers of a round of the law SealBack. Conditions: none. -/
import Derived.Test.YtdpggcpbgfancaaSealLaw2
import Derived.Laws.BitsAllLaws
namespace Go.Proofs.Ytdpggcpbgfancaa.Seal
open Go.RowKit Tw
open Crc (le sealed le_length sealed_length turn)

theorem ix_p {a n k p : Nat} (hn : n ≤ 2000) (hk : k < 4) (hp : p = a % (n + 1) + k) : wrap64 ((a : Int) % ((n : Int) + 4 - 3) + (k : Int)) = (p : Int) := by
  have h1 : (n : Int) + 4 - 3 = ((n + 1 : Nat) : Int) := by omega
  have h2 := Nat.mod_lt a (show n + 1 > 0 by omega)
  rw [h1, ← Int.natCast_emod, hp]
  generalize a % (n + 1) = z at *
  unfold wrap64
  omega
theorem ix_s {a k j : Nat} (hk : k < 4) (hj : j = a % 13 + k) : wrap64 ((a : Int) % 13 + (k : Int)) = (j : Int) := by
  have h1 : (a : Int) % 13 = ((a % 13 : Nat) : Int) := by omega
  rw [h1, hj]
  have h2 : a % 13 < 13 := by omega
  generalize a % 13 = z at *
  unfold wrap64
  omega
theorem xor_byte (u : UInt8) (q : Nat) : bits .xor .u8 (u.toNat : Int) ((q : Int) % 256) = ((u ^^^ UInt8.ofNat (q % 256)).toNat : Int) := by
  have h := u8_xor_nat u.toNat (q % 256) (UInt8.toNat_lt _) (Nat.mod_lt _ (by omega))
  have e : ((q % 256 : Nat) : Int) = (q : Int) % 256 := by omega
  rw [e] at h
  rw [h, UInt8.toNat_xor, Crc.ofNat_toNat]
theorem turn_next {p : List UInt8} {a k m s q i : Nat} {x : UInt8} (hp : p.length = m) (h : a + (k + 1) ≤ m) (hi : i = a + k) (hx : p[i]? = some x) (hq : q = s / 256 ^ k) :
    (bytesV (turn p (bits4 a k m s))).set i (.int .u8 ((x ^^^ UInt8.ofNat (q % 256)).toNat : Int)) = bytesV (turn p (bits4 a (k + 1) m s)) := by
  subst hi hq
  rw [← turn_bits_next hp h hx]
  simp [bytesV]
theorem turn_cell {p : List UInt8} {a k m s i : Nat} {x : UInt8} (hp : p.length = m) (h : a + k ≤ m) (hi : i = a + k) (hx : p[i]? = some x) : (bytesV (turn p (bits4 a k m s)))[i]? = some (.int .u8 (x.toNat : Int)) := by
  subst hi
  rw [bytesV_get (turn_bits_get hp h hx), if_neg (by omega)]
theorem round_p {a n k p : Nat} (hk : k < 4) (hp : p = a % (n + 1) + k) : p < n + 4 := by
  have := Nat.mod_lt a (show n + 1 > 0 by omega)
  omega
theorem round_p4 {a n k : Nat} (hk : k ≤ 4) : a % (n + 1) + k ≤ n + 4 := by
  have := Nat.mod_lt a (show n + 1 > 0 by omega)
  omega
theorem round_j {a k j : Nat} (hk : k < 4) (hj : j = a % 13 + k) : j < 16 := by omega
theorem round_j4 {a k : Nat} (hk : k ≤ 4) : a % 13 + k ≤ 16 := by omega
theorem mod_p {a n p : Nat} (hp : p = a % (n + 1)) : (a : Int) % ((n : Int) + 4 - 3) = (p : Int) := by
  have h1 : (n : Int) + 4 - 3 = ((n + 1 : Nat) : Int) := by omega
  rw [h1, ← Int.natCast_emod, hp]
theorem mod_le {a n p : Nat} (hp : p = a % (n + 1)) : p ≤ n := by
  have := Nat.mod_lt a (show n + 1 > 0 by omega)
  omega
theorem mod_j {a j : Nat} (hj : j = a % 13) : (a : Int) % 13 = (j : Int) := by omega
theorem heap_cell {w : World} {g j : Nat} {t : TypeId} {xs : List Value} {v : Value} (h : w.heap[g]? = some (.cells xs.toArray t (0, 0))) (hx : xs[j]? = some v) : w.cell? ⟨g, j, none⟩ = some v := by
  simp [World.cell?, h, hx]
theorem get_some {l : List UInt8} {i : Nat} (h : i < l.length) : ∃ u, l[i]? = some u := ⟨_, List.getElem?_eq_getElem h⟩
end Go.Proofs.Ytdpggcpbgfancaa.Seal
