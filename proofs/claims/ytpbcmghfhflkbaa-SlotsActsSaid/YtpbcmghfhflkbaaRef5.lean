/- The reference's disk: Flush, Crash, Cached, New. Conditions: at most 10^9 operations. -/
import Derived.Test.YtpbcmghfhflkbaaRef4
set_option linter.unusedVariables false
set_option linter.unusedSimpArgs false
namespace Go.Proofs.Ytpbcmghfhflkbaa.Disk
open Go.RowKit Tw Dsk
set_option maxHeartbeats 4000000
set_option maxRecDepth 100000
theorem cachedFrom_append : ∀ (a b : List Cl) (o : Nat), cachedFrom o (a ++ b) = cachedFrom o a ++ cachedFrom (o + a.length) b
  | [], b, o => by simp [cachedFrom]
  | (s, none) :: r, b, o => by
    rw [List.cons_append, cachedFrom, cachedFrom, cachedFrom_append r b, List.length_cons, show o + 1 + r.length = o + (r.length + 1) by omega]
  | (s, some f) :: r, b, o => by
    rw [List.cons_append, cachedFrom, cachedFrom, cachedFrom_append r b, List.length_cons, List.cons_append, show o + 1 + r.length = o + (r.length + 1) by omega]
theorem cachedFrom_take {l : List Cl} {i : Nat} {c : Cl} (h : l[i]? = some c) : cachedFrom 0 (l.take (i + 1)) = cachedFrom 0 (l.take i) ++ (if c.2.isSome = true then [i] else []) := by
  have hlt := (List.getElem?_eq_some_iff.1 h).1
  have he := (List.getElem?_eq_some_iff.1 h).2
  rw [List.take_succ_eq_append_getElem hlt, cachedFrom_append, he, List.length_take, Nat.min_eq_left (by omega), Nat.zero_add]
  obtain ⟨s, f⟩ := c
  cases f <;> rfl
/-- numbers as cells -/
def natsV (l : List Nat) : List Value := l.map fun (n : Nat) => Value.int .i64 (n : Int)
theorem natsV_one {l : List Nat} : ∀ v ∈ natsV l, v.oneCell' = true := by
  intro v hv
  obtain ⟨n, _, rfl⟩ := List.mem_map.1 hv
  rfl
theorem info_int' : (Try.prog.info? 3).map (fun i => (i.zero, i.size, i.bytes)) = some (some (.int .i64 0), 1, 8) := by kernel_rfl
def Z33 : Array Value := #[.int .u8 0, .int .u8 0, .int .u8 0, .int .u8 0, .int .u8 0, .int .u8 0, .int .u8 0, .int .u8 0, .int .u8 0, .int .u8 0, .int .u8 0, .int .u8 0, .int .u8 0, .int .u8 0, .int .u8 0, .int .u8 0, .int .u8 0, .int .u8 0, .int .u8 0, .int .u8 0, .int .u8 0, .int .u8 0, .int .u8 0, .int .u8 0, .int .u8 0, .int .u8 0, .int .u8 0, .int .u8 0, .int .u8 0, .int .u8 0, .int .u8 0, .int .u8 0, .bool false]
theorem rcell_c0 : rcell c0 = Z33.toList := by
  unfold rcell c0
  simp only [Option.getD_none, zl_eq]
  rfl
section
variable {w w' : World} {q r c : Nat} {d : Dsk}
theorem r_Flush (h : Rk w q r c d) (ho : d.ops < 1000000000) : Calls Try.prog 99 #[.pointer (some ⟨q, 0, none⟩)] w fun e w' => e = .returned (.int .i64 (d.flush.2 : Int)) ∧ Rk w' q r c d.flush.1 ∧ Fr (fun k => k = q ∨ k = r) w w' := by
  have H := Lib.hid h
  clear h
  by_cases he : d.spend.2 = 0
  · have hw : Hid (d.flush = (d.spend.1.allSafe, 0)) := Lib.hid (by unfold Dsk.flush; rw [if_pos he])
    have He : Hid (decide (d.spend.2 = 3) = false) := Lib.hid (by rw [he]; rfl)
    clear he
    go_enter Try.func99, Try.ntmps99
    go_wp2_with (first
      | (go_at_call 105
         (with_reducible refine (r_burns H.out ho).mono ?_)
         rintro e w2 ⟨rfl, h2, f2⟩
         rw [He.out]
         have H2 := Lib.hid h2
         have F2 := Lib.hid f2
         clear h2 f2)
      | (go_at_call 101
         refine (r_keep H2.out true 0 (by omega)).mono ?_
         rintro e w3 ⟨rfl, h3, f3⟩
         rw [keepD_all] at h3
         have H3 := Lib.hid h3
         have F3 := Lib.hid f3
         clear h3 f3))
    go_ret
    rw [hw.out]
    exact ⟨rfl, H3.out, (F2.out.mono (S1 := fun k => k = q ∨ k = r) (fun _ _ e => .inl e)).trans F3.out (fun _ _ e => e)⟩
  · have hw : Hid (d.flush = d.spend) := Lib.hid (by unfold Dsk.flush; rw [if_neg he])
    have He3 : d.spend.2 = 3 := (spend_err d).resolve_left he
    have He : Hid (decide (d.spend.2 = 3) = true) := Lib.hid (by rw [He3]; rfl)
    have HE3 := Lib.hid He3
    clear he He3
    go_enter Try.func99, Try.ntmps99
    go_wp2_with (first
      | (go_at_call 105
         (with_reducible refine (r_burns H.out ho).mono ?_)
         rintro e w2 ⟨rfl, h2, f2⟩
         rw [He.out]
         have H2 := Lib.hid h2
         have F2 := Lib.hid f2
         clear h2 f2))
    go_ret
    rw [hw.out]
    exact ⟨by rw [HE3.out]; rfl, H2.out, F2.out.mono (fun _ _ e => .inl e)⟩
theorem r_Crash (h : Rk w q r c d) (mask : Nat) (hm : mask < 18446744073709551616) : Calls Try.prog 21 #[.pointer (some ⟨q, 0, none⟩), .int .u64 (mask : Int)] w fun e w' => e = .returned (.tuple #[]) ∧ Rk w' q r c (d.crash mask) ∧ Fr (fun k => k = q ∨ k = r) w w' := by
  have Hok := Lib.hid h.ok
  have H := Lib.hid h
  have He : Hid ({ d.keepD false mask with fuse := -1, broken := false, ops := (d.keepD false mask).ops } = d.crash mask) := Lib.hid rfl
  clear h
  go_enter Try.func21, Try.ntmps21
  go_wp2_with (first
    | (go_at_call 101
       (with_reducible refine (r_keep H.out false mask hm).mono ?_)
       rintro e w3 ⟨rfl, h3, f3⟩
       have hfz1 := h3.frozen 1
       have hfz2 := h3.frozen 2
       obtain ⟨k0, k1, k2, k3⟩ := h3.cells
       have H3 := Lib.hid h3
       have F3 := Lib.hid f3
       clear h3 f3))
  refine bodyPost_end (results_none rfl _ _ _) rfl ?_
  have hok : ({ d.keepD false mask with fuse := -1, broken := false, ops := (d.keepD false mask).ops } : Dsk).Ok := by rw [He.out]; exact crash_ok Hok.out mask
  have hfr : Fr (fun k => k = q) w3 ((w3.setCell ⟨q, 2, none⟩ (.bool false)).setCell ⟨q, 1, none⟩ (.int .i64 (-1))) := (fr_set w3 q 2 _).trans (fr_set _ q 1 _) (fun _ _ e => e)
  have hd := H3.out.reset hfr hok (by
    rw [heap_setCell_same _ q 1 _ _ _ (heap_setCell_same _ q 2 _ _ _ H3.out.blk)]
    simp)
  rw [He.out] at hd
  exact ⟨rfl, hd, F3.out.trans hfr (fun _ _ e => .inl e)⟩
/-- a cell, as it lies -/
theorem Rk.whole (h : Rk w q r c d) {n : Nat} (hn : n < d.cells.length) (j : Nat) (v : Value) (hv : (rcell (d.cell (n : Int)))[j]? = some v) : w.cell? ((⟨r, n * 33, none⟩ : Addr).add j) = some v := by
  have hh : d.has (n : Int) := (has_iff d _).2 (by omega)
  have hg : d.cells[n]? = some (d.cell (n : Int)) := by
    have := cell_get hh
    rwa [Int.toNat_natCast] at this
  have hm := h.ok.cell_ok _ (cell_mem hh)
  have hj := (List.getElem?_eq_some_iff.1 hv).1
  rw [rcell_len hm] at hj
  have h1 := flat_get (F := rcell) (k := 33) (fun c hc => rcell_len (h.ok.cell_ok c hc)) hg hj
  have h2 := h.own.rd.cell _ rfl (n * 33 + j) v (by rw [← hv]; exact h1)
  rw [Addr.add_mid, Nat.zero_add] at h2
  rw [Addr.add_mid]
  exact h2
theorem rcell_flag {c : Cl} (h : CellOk c) : (rcell c)[32]? = some (.bool c.2.isSome) := by
  have l1 : (bytesV c.1).length = 16 := by rw [bytesV_length]; exact h.1
  have l2 : (bytesV (c.2.getD zs)).length = 16 := by
    rw [bytesV_length]
    cases hc : c.2 with
    | none => exact zs_len
    | some s => exact h.2 s hc
  unfold rcell
  rw [List.getElem?_append_right (by omega), l1, List.getElem?_append_right (by omega), l2]
  rfl
theorem rcell_one {c : Cl} : ∀ v ∈ (rcell c).toArray, v.oneCell' = true := by
  intro v hv
  simp only [rcell, List.mem_toArray, List.mem_append, List.mem_singleton] at hv
  rcases hv with hv | hv | rfl
  · exact bytesV_one v hv
  · exact bytesV_one v hv
  · rfl
end
end Go.Proofs.Ytpbcmghfhflkbaa.Disk
