/- Contracts of the package disk: Durable, Fuse; sectors written out. Conditions: none. -/
import Derived.Test.YtpbcmghfhflkbaaDisk8
set_option linter.unusedVariables false
set_option linter.unusedSimpArgs false
namespace Go.Proofs.Ytpbcmghfhflkbaa.Disk
open Go.RowKit Tw Go.Maps Go.ChangeMaps
set_option maxHeartbeats 4000000
set_option maxRecDepth 100000

section
variable {w w' : World} {p g mb c : Nat} {d : Dsk}
theorem c_FuseD (h : Dk w p g mb c d) (k : Int) (hk : -9223372036854775808 ≤ k ∧ k ≤ 9223372036854775807) : Calls Try.prog 22 #[.pointer (some ⟨p, 0, none⟩), .int .i64 k] w fun e' w' => e' = .returned (.tuple #[]) ∧ Dk w' p g mb c (d.setFuse k) ∧ Fr (fun k => k = p) w w' := by
  obtain ⟨k0, k1, k2, k3, k4⟩ := h.cells
  have q2 := h.frozen 2
  have H := Lib.hid h
  have hok : (d.setFuse k).Ok := ⟨h.ok.n, h.ok.safe, h.ok.fresh, by simp only [Dsk.setFuse]; omega, h.ok.ops⟩
  have Hok := Lib.hid hok
  clear h hok
  by_cases hk1 : -1 ≤ k
  · have hm : max k (-1) = k := by omega
    have hm2 : d.setFuse k = { d with fuse := k, broken := d.broken, ops := d.ops } := by unfold Dsk.setFuse; rw [hm]
    have Hm2 := Lib.hid hm2
    clear hm2
    go_enter Try.func22, Try.ntmps22
    go_wp2_with (first
      | (go_at_call 90
         (with_reducible refine (c_Made H.out).mono ?_)
         rintro e w' ⟨rfl, rfl⟩))
    refine bodyPost_end (results_none rfl _ _ _) rfl ?_
    have hok := Hok.out
    rw [Hm2.out] at hok ⊢
    refine ⟨rfl, H.out.reset (fr_set w p 2 _) (Nat.le_refl _) hok ?_, fr_set w p 2 _⟩
    rw [heap_setCell_same _ p 2 _ _ _ H.out.blk]
    simp
  · have hm : max k (-1) = -1 := by omega
    have hm2 : d.setFuse k = { d with fuse := -1, broken := d.broken, ops := d.ops } := by unfold Dsk.setFuse; rw [hm]
    have Hm2 := Lib.hid hm2
    clear hm2
    go_enter Try.func22, Try.ntmps22
    go_wp2_with (first
      | (go_at_call 90
         (with_reducible refine (c_Made H.out).mono ?_)
         rintro e w' ⟨rfl, rfl⟩))
    refine bodyPost_end (results_none rfl _ _ _) rfl ?_
    have hok := Hok.out
    rw [Hm2.out] at hok ⊢
    refine ⟨rfl, H.out.reset (fr_set w p 2 _) (Nat.le_refl _) hok ?_, fr_set w p 2 _⟩
    rw [heap_setCell_same _ p 2 _ _ _ H.out.blk]
    simp
/-- a sector's durable bytes, as they lie -/
theorem Dk.safe (h : Dk w p g mb c d) {n : Nat} (hn : n < d.cells.length) (j : Nat) (v : Value) (hv : (bytesV (d.cell (n : Int)).1)[j]? = some v) : w.cell? ((⟨g, n * 16, none⟩ : Addr).add j) = some v := by
  have hh : d.has (n : Int) := (has_iff d _).2 (by omega)
  have hj := (List.getElem?_eq_some_iff.1 hv).1
  rw [bytesV_length, h.ok.safe _ (cell_mem hh)] at hj
  have h1 : (bytesV (durable d))[n * 16 + j]? = some v := by
    have h2 := durable_get h.ok hh hj
    rw [Int.toNat_natCast] at h2
    simp only [bytesV, List.getElem?_map] at hv ⊢
    rw [h2, hv]
  have h3 := h.own.rd.cell _ rfl _ _ h1
  rw [Addr.add_mid, Nat.zero_add] at h3
  rw [Addr.add_mid]
  exact h3
theorem durableAt_len (h : d.Ok) (x : Int) : (d.durableAt x).length = 16 := by
  unfold Dsk.durableAt
  split
  · rename_i hh
    exact h.safe _ (cell_mem hh)
  · exact zs_len
def Z16 : Array Value := #[.int .u8 0, .int .u8 0, .int .u8 0, .int .u8 0, .int .u8 0, .int .u8 0, .int .u8 0, .int .u8 0, .int .u8 0, .int .u8 0, .int .u8 0, .int .u8 0, .int .u8 0, .int .u8 0, .int .u8 0, .int .u8 0]
/-- a sector whose first byte is b -/
def sec1 (b : UInt8) : Sec := b :: List.replicate 15 0
def secVal (z : Int) : Value := .agg #[.int .u8 z, .int .u8 0, .int .u8 0, .int .u8 0, .int .u8 0, .int .u8 0, .int .u8 0, .int .u8 0, .int .u8 0, .int .u8 0, .int .u8 0, .int .u8 0, .int .u8 0, .int .u8 0, .int .u8 0, .int .u8 0]
theorem sec1_val (b : UInt8) (z : Int) (hz : z = (b.toNat : Int)) : secV (sec1 b) = secVal z := by
  subst hz
  simp [secV, sec1, secVal, bytesV, List.replicate]
theorem sec1_len (b : UInt8) : (sec1 b).length = 16 := by simp [sec1]
theorem c_dWrite1 (h : Dk w p g mb c d) (ho : d.ops < 1000000000) (x : Int) (hx : -9223372036854775808 ≤ x ∧ x ≤ 9223372036854775807) (b : UInt8) (z : Int) (hz : z = (b.toNat : Int)) (d' : Dsk) (e : Nat) (hd : d.write x (sec1 b) = (d', e)) :
    Calls Try.prog 24 #[.pointer (some ⟨p, 0, none⟩), .int .i64 x, secVal z] w fun e' w' => e' = .returned (.int .i64 (e : Int)) ∧ Dk w' p g mb c d' ∧ Fr (fun k => k = p ∨ k = g ∨ k = mb) w w' := by
  have h1 := c_dWrite h ho x hx (sec1 b) (sec1_len b)
  rw [hd, sec1_val b z hz] at h1
  exact h1.mono fun e' w' ⟨q1, q2, q3⟩ => ⟨q1, q2, q3.mono (fun k _ e => by rcases e with e | e; exact .inl e; exact .inr (.inr e))⟩
end
end Go.Proofs.Ytpbcmghfhflkbaa.Disk
