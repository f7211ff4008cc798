/- Contracts of the package disk: Durable, Fuse; sectors written out. Conditions: none. -/
import Derived.Test.YtplemdgihlabgaaDisk8
set_option linter.unusedVariables false
set_option linter.unusedSimpArgs false
namespace Go.Proofs.Ytplemdgihlabgaa.Disk
open Go.RowKit Tw Go.Maps Go.ChangeMaps
set_option maxHeartbeats 4000000
set_option maxRecDepth 100000

section
variable {w w' : World} {p g mb c : Nat} {d : Dsk}
theorem c_FuseD (h : Dk w p g mb c d) (k : Int) (hk : -9223372036854775808 ≤ k ∧ k ≤ 9223372036854775807) : Calls Try.prog 15 #[.pointer (some ⟨p, 0, none⟩), .int .i64 k] w fun e' w' => e' = .returned (.tuple #[]) ∧ Dk w' p g mb c (d.setFuse k) ∧ Fr (fun k => k = p) w w' := by
  obtain ⟨k0, k1, k2, k3, k4⟩ := h.cells
  have q2 := h.frozen 2
  have H := Lib.hid h
  have hok : (d.setFuse k).Ok := ⟨h.ok.n, h.ok.safe, h.ok.fresh, by simp only [Dsk.setFuse]; omega, h.ok.ops⟩
  have Hok := Lib.hid hok
  clear h hok
  by_cases hk1 : -1 ≤ k
  · have hm : max k (-1) = k := by omega
    have hm2 : d.setFuse k = { d with fuse := k, broken := d.broken, ops := d.ops } := by unfold Dsk.setFuse; rw [hm]
    have Hm2 := Lib.hid hm2
    clear hm2
    go_enter Try.func15, Try.ntmps15
    go_wp2_with (first
      | (go_at_call 19
         (with_reducible refine (c_Made H.out).mono ?_)
         rintro e w' ⟨rfl, rfl⟩))
    refine bodyPost_end (results_none rfl _ _ _) rfl ?_
    have hok := Hok.out
    rw [Hm2.out] at hok ⊢
    refine ⟨rfl, H.out.reset (fr_set w p 2 _) (Nat.le_refl _) hok ?_, fr_set w p 2 _⟩
    rw [heap_setCell_same _ p 2 _ _ _ H.out.blk]
    simp
  · have hm : max k (-1) = -1 := by omega
    have hm2 : d.setFuse k = { d with fuse := -1, broken := d.broken, ops := d.ops } := by unfold Dsk.setFuse; rw [hm]
    have Hm2 := Lib.hid hm2
    clear hm2
    go_enter Try.func15, Try.ntmps15
    go_wp2_with (first
      | (go_at_call 19
         (with_reducible refine (c_Made H.out).mono ?_)
         rintro e w' ⟨rfl, rfl⟩))
    refine bodyPost_end (results_none rfl _ _ _) rfl ?_
    have hok := Hok.out
    rw [Hm2.out] at hok ⊢
    refine ⟨rfl, H.out.reset (fr_set w p 2 _) (Nat.le_refl _) hok ?_, fr_set w p 2 _⟩
    rw [heap_setCell_same _ p 2 _ _ _ H.out.blk]
    simp
/-- a sector's durable bytes, as they lie -/
theorem Dk.safe (h : Dk w p g mb c d) {n : Nat} (hn : n < d.cells.length) (j : Nat) (v : Value) (hv : (bytesV (d.cell (n : Int)).1)[j]? = some v) : w.cell? ((⟨g, n * 16, none⟩ : Addr).add j) = some v := by
  have hh : d.has (n : Int) := (has_iff d _).2 (by omega)
  have hj := (List.getElem?_eq_some_iff.1 hv).1
  rw [bytesV_length, h.ok.safe _ (cell_mem hh)] at hj
  have h1 : (bytesV (durable d))[n * 16 + j]? = some v := by
    have h2 := durable_get h.ok hh hj
    rw [Int.toNat_natCast] at h2
    simp only [bytesV, List.getElem?_map] at hv ⊢
    rw [h2, hv]
  have h3 := h.own.rd.cell _ rfl _ _ h1
  rw [Addr.add_mid, Nat.zero_add] at h3
  rw [Addr.add_mid]
  exact h3
theorem durableAt_len (h : d.Ok) (x : Int) : (d.durableAt x).length = 16 := by
  unfold Dsk.durableAt
  split
  · rename_i hh
    exact h.safe _ (cell_mem hh)
  · exact zs_len
def Z16 : Array Value := #[.int .u8 0, .int .u8 0, .int .u8 0, .int .u8 0, .int .u8 0, .int .u8 0, .int .u8 0, .int .u8 0, .int .u8 0, .int .u8 0, .int .u8 0, .int .u8 0, .int .u8 0, .int .u8 0, .int .u8 0, .int .u8 0]
theorem c_Durable (h : Dk w p g mb c d) (x : Int) : Calls Try.prog 24 #[.pointer (some ⟨p, 0, none⟩), .int .i64 x] w fun e w' => e = .returned (secV (d.durableAt x)) ∧ Below w.heap.size w w' := by
  have HB := Lib.hid ((Below.refl w.heap.size w).alloc (Nat.le_refl _) (.cells Z16 23))
  have H := Lib.hid (h.bel HB.out)
  have HX := Lib.hid (heap_alloc_new w (.cells Z16 23))
  obtain ⟨k0, k1, k2, k3, k4⟩ := H.out.cells
  unfold Z16 at *
  clear h
  by_cases hh : d.has x
  · obtain ⟨n, rfl⟩ : ∃ n : Nat, x = (n : Int) := ⟨x.toNat, by have := (has_iff d x).1 hh; omega⟩
    have hnl : n < d.cells.length := by have := (has_iff d (n : Int)).1 hh; omega
    have hd := Lib.hid (decide_eq_true hh)
    have hw : Hid (d.durableAt (n : Int) = (d.cell (n : Int)).1) := Lib.hid (by unfold Dsk.durableAt; rw [if_pos hh])
    have Hsafe := Lib.hid (H.out.safe hnl)
    have Hs16 : Hid ((bytesV (d.cell (n : Int)).1).length = 16) := Lib.hid (by rw [bytesV_length]; exact H.out.ok.safe _ (cell_mem hh))
    have hn := H.out.ok.n
    clear hh
    generalize (d.cell (n : Int)).1 = s at *
    go_enter Try.func24, Try.ntmps24
    go_upto_region 1 with (fail)
    generalize (w.alloc (.cells #[.int .u8 0, .int .u8 0, .int .u8 0, .int .u8 0, .int .u8 0, .int .u8 0, .int .u8 0, .int .u8 0, .int .u8 0, .int .u8 0, .int .u8 0, .int .u8 0, .int .u8 0, .int .u8 0, .int .u8 0, .int .u8 0] 23)) = W1 at *
    go_wp2_with (first
      | (go_at_call 19
         (with_reducible refine (c_Made H.out).mono ?_)
         rintro e w' ⟨rfl, rfl⟩)
      | (go_at_call 83
         (with_reducible refine (c_has H.out _).mono ?_)
         rintro e w' ⟨rfl, rfl⟩
         rw [hd.out])
      | (refine wpL_load_rd rfl 23 (.tmp 20) rfl ⟨g, n * 16, none⟩ rfl (bytesV s) _ Hsafe.out Try.underlying23 rfl (by rw [Hs16.out]; kernel_rfl) ?_)
      | (refine wpL_store_all rfl rfl 23 (.tmp 4) (.tmp 21) rfl _ rfl _ rfl _ _ HX.out (by rw [List.size_toArray, Hs16.out]; kernel_rfl) (by rw [List.size_toArray, Hs16.out]; rfl) (fun v hv => bytesV_one v (by simpa using hv)) ?_
         intro w3 x3 g3
         have HR := Lib.hid x3
         have HBR := Lib.hid (HB.out.grown g3 HB.out.size (by rintro k ⟨⟩; exact Nat.le_refl _))
         clear x3 g3))
    refine bodyPost_ret (results_cell_row rfl _ _ w.heap.size _ _ (0, 0) _ rfl HR.out Try.underlying23 rfl (by rw [List.size_toArray, Hs16.out]; kernel_rfl)) rfl ?_
    rw [hw.out]
    exact ⟨rfl, HBR.out⟩
  · have hd := Lib.hid (decide_eq_false hh)
    have hw : Hid (d.durableAt x = zs) := Lib.hid (by unfold Dsk.durableAt; rw [if_neg hh])
    clear hh
    go_enter Try.func24, Try.ntmps24
    go_upto_region 1 with (fail)
    generalize (w.alloc (.cells #[.int .u8 0, .int .u8 0, .int .u8 0, .int .u8 0, .int .u8 0, .int .u8 0, .int .u8 0, .int .u8 0, .int .u8 0, .int .u8 0, .int .u8 0, .int .u8 0, .int .u8 0, .int .u8 0, .int .u8 0, .int .u8 0] 23)) = W1 at *
    go_wp2_with (first
      | (go_at_call 19
         (with_reducible refine (c_Made H.out).mono ?_)
         rintro e w' ⟨rfl, rfl⟩)
      | (go_at_call 83
         (with_reducible refine (c_has H.out _).mono ?_)
         rintro e w' ⟨rfl, rfl⟩
         rw [hd.out])
      | (refine wpL_store_all rfl rfl 23 (.tmp 4) (.tmp 14) rfl _ rfl _ rfl _ _ HX.out (by kernel_rfl) rfl (by simp [Value.oneCell']) ?_
         intro w2 x2 g2
         have HR := Lib.hid x2
         have HBR := Lib.hid (HB.out.grown g2 HB.out.size (by rintro k ⟨⟩; exact Nat.le_refl _))
         clear x2 g2))
    refine bodyPost_ret (results_cell_row rfl _ _ w.heap.size _ _ (0, 0) _ rfl HR.out Try.underlying23 rfl (by kernel_rfl)) rfl ?_
    rw [hw.out]
    exact ⟨by unfold secV; rw [zcells], HBR.out⟩
/-- a sector whose first byte is b -/
def sec1 (b : UInt8) : Sec := b :: List.replicate 15 0
def secVal (z : Int) : Value := .agg #[.int .u8 z, .int .u8 0, .int .u8 0, .int .u8 0, .int .u8 0, .int .u8 0, .int .u8 0, .int .u8 0, .int .u8 0, .int .u8 0, .int .u8 0, .int .u8 0, .int .u8 0, .int .u8 0, .int .u8 0, .int .u8 0]
theorem sec1_val (b : UInt8) (z : Int) (hz : z = (b.toNat : Int)) : secV (sec1 b) = secVal z := by
  subst hz
  simp [secV, sec1, secVal, bytesV, List.replicate]
theorem sec1_len (b : UInt8) : (sec1 b).length = 16 := by simp [sec1]
theorem c_dWrite1 (h : Dk w p g mb c d) (ho : d.ops < 1000000000) (x : Int) (hx : -9223372036854775808 ≤ x ∧ x ≤ 9223372036854775807) (b : UInt8) (z : Int) (hz : z = (b.toNat : Int)) (d' : Dsk) (e : Nat) (hd : d.write x (sec1 b) = (d', e)) :
    Calls Try.prog 17 #[.pointer (some ⟨p, 0, none⟩), .int .i64 x, secVal z] w fun e' w' => e' = .returned (.int .i64 (e : Int)) ∧ Dk w' p g mb c d' ∧ Fr (fun k => k = p ∨ k = g ∨ k = mb) w w' := by
  have h1 := c_dWrite h ho x hx (sec1 b) (sec1_len b)
  rw [hd, sec1_val b z hz] at h1
  exact h1.mono fun e' w' ⟨q1, q2, q3⟩ => ⟨q1, q2, q3.mono (fun k _ e => by rcases e with e | e; exact .inl e; exact .inr (.inr e))⟩
end
end Go.Proofs.Ytplemdgihlabgaa.Disk
