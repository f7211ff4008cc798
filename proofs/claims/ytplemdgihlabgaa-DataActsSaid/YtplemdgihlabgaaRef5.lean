/- The reference's disk: Flush, Crash, Cached, New. Conditions: at most 10^9 operations. -/
import Derived.Test.YtplemdgihlabgaaRef4
set_option linter.unusedVariables false
set_option linter.unusedSimpArgs false
namespace Go.Proofs.Ytplemdgihlabgaa.Disk
open Go.RowKit Tw Dsk
set_option maxHeartbeats 4000000
set_option maxRecDepth 100000
theorem cachedFrom_append : ∀ (a b : List Cl) (o : Nat), cachedFrom o (a ++ b) = cachedFrom o a ++ cachedFrom (o + a.length) b
  | [], b, o => by simp [cachedFrom]
  | (s, none) :: r, b, o => by
    rw [List.cons_append, cachedFrom, cachedFrom, cachedFrom_append r b, List.length_cons, show o + 1 + r.length = o + (r.length + 1) by omega]
  | (s, some f) :: r, b, o => by
    rw [List.cons_append, cachedFrom, cachedFrom, cachedFrom_append r b, List.length_cons, List.cons_append, show o + 1 + r.length = o + (r.length + 1) by omega]
theorem cachedFrom_take {l : List Cl} {i : Nat} {c : Cl} (h : l[i]? = some c) : cachedFrom 0 (l.take (i + 1)) = cachedFrom 0 (l.take i) ++ (if c.2.isSome = true then [i] else []) := by
  have hlt := (List.getElem?_eq_some_iff.1 h).1
  have he := (List.getElem?_eq_some_iff.1 h).2
  rw [List.take_succ_eq_append_getElem hlt, cachedFrom_append, he, List.length_take, Nat.min_eq_left (by omega), Nat.zero_add]
  obtain ⟨s, f⟩ := c
  cases f <;> rfl
/-- numbers as cells -/
def natsV (l : List Nat) : List Value := l.map fun (n : Nat) => Value.int .i64 (n : Int)
theorem natsV_one {l : List Nat} : ∀ v ∈ natsV l, v.oneCell' = true := by
  intro v hv
  obtain ⟨n, _, rfl⟩ := List.mem_map.1 hv
  rfl
theorem info_int' : (Try.prog.info? 3).map (fun i => (i.zero, i.size, i.bytes)) = some (some (.int .i64 0), 1, 8) := by kernel_rfl
def Z33 : Array Value := #[.int .u8 0, .int .u8 0, .int .u8 0, .int .u8 0, .int .u8 0, .int .u8 0, .int .u8 0, .int .u8 0, .int .u8 0, .int .u8 0, .int .u8 0, .int .u8 0, .int .u8 0, .int .u8 0, .int .u8 0, .int .u8 0, .int .u8 0, .int .u8 0, .int .u8 0, .int .u8 0, .int .u8 0, .int .u8 0, .int .u8 0, .int .u8 0, .int .u8 0, .int .u8 0, .int .u8 0, .int .u8 0, .int .u8 0, .int .u8 0, .int .u8 0, .int .u8 0, .bool false]
theorem rcell_c0 : rcell c0 = Z33.toList := by
  unfold rcell c0
  simp only [Option.getD_none, zl_eq]
  rfl
section
variable {w w' : World} {q r c : Nat} {d : Dsk}
theorem r_Flush (h : Rk w q r c d) (ho : d.ops < 1000000000) : Calls Try.prog 76 #[.pointer (some ⟨q, 0, none⟩)] w fun e w' => e = .returned (.int .i64 (d.flush.2 : Int)) ∧ Rk w' q r c d.flush.1 ∧ Fr (fun k => k = q ∨ k = r) w w' := by
  have H := Lib.hid h
  clear h
  by_cases he : d.spend.2 = 0
  · have hw : Hid (d.flush = (d.spend.1.allSafe, 0)) := Lib.hid (by unfold Dsk.flush; rw [if_pos he])
    have He : Hid (decide (d.spend.2 = 3) = false) := Lib.hid (by rw [he]; rfl)
    clear he
    go_enter Try.func76, Try.ntmps76
    go_wp2_with (first
      | (go_at_call 140
         (with_reducible refine (r_burns H.out ho).mono ?_)
         rintro e w2 ⟨rfl, h2, f2⟩
         rw [He.out]
         have H2 := Lib.hid h2
         have F2 := Lib.hid f2
         clear h2 f2)
      | (go_at_call 141
         refine (r_keep H2.out true 0 (by omega)).mono ?_
         rintro e w3 ⟨rfl, h3, f3⟩
         rw [keepD_all] at h3
         have H3 := Lib.hid h3
         have F3 := Lib.hid f3
         clear h3 f3))
    go_ret
    rw [hw.out]
    exact ⟨rfl, H3.out, (F2.out.mono (S1 := fun k => k = q ∨ k = r) (fun _ _ e => .inl e)).trans F3.out (fun _ _ e => e)⟩
  · have hw : Hid (d.flush = d.spend) := Lib.hid (by unfold Dsk.flush; rw [if_neg he])
    have He3 : d.spend.2 = 3 := (spend_err d).resolve_left he
    have He : Hid (decide (d.spend.2 = 3) = true) := Lib.hid (by rw [He3]; rfl)
    have HE3 := Lib.hid He3
    clear he He3
    go_enter Try.func76, Try.ntmps76
    go_wp2_with (first
      | (go_at_call 140
         (with_reducible refine (r_burns H.out ho).mono ?_)
         rintro e w2 ⟨rfl, h2, f2⟩
         rw [He.out]
         have H2 := Lib.hid h2
         have F2 := Lib.hid f2
         clear h2 f2))
    go_ret
    rw [hw.out]
    exact ⟨by rw [HE3.out]; rfl, H2.out, F2.out.mono (fun _ _ e => .inl e)⟩
theorem r_Crash (h : Rk w q r c d) (mask : Nat) (hm : mask < 18446744073709551616) : Calls Try.prog 77 #[.pointer (some ⟨q, 0, none⟩), .int .u64 (mask : Int)] w fun e w' => e = .returned (.tuple #[]) ∧ Rk w' q r c (d.crash mask) ∧ Fr (fun k => k = q ∨ k = r) w w' := by
  have Hok := Lib.hid h.ok
  have H := Lib.hid h
  have He : Hid ({ d.keepD false mask with fuse := -1, broken := false, ops := (d.keepD false mask).ops } = d.crash mask) := Lib.hid rfl
  clear h
  go_enter Try.func77, Try.ntmps77
  go_wp2_with (first
    | (go_at_call 141
       (with_reducible refine (r_keep H.out false mask hm).mono ?_)
       rintro e w3 ⟨rfl, h3, f3⟩
       have hfz1 := h3.frozen 1
       have hfz2 := h3.frozen 2
       obtain ⟨k0, k1, k2, k3⟩ := h3.cells
       have H3 := Lib.hid h3
       have F3 := Lib.hid f3
       clear h3 f3))
  refine bodyPost_end (results_none rfl _ _ _) rfl ?_
  have hok : ({ d.keepD false mask with fuse := -1, broken := false, ops := (d.keepD false mask).ops } : Dsk).Ok := by rw [He.out]; exact crash_ok Hok.out mask
  have hfr : Fr (fun k => k = q) w3 ((w3.setCell ⟨q, 2, none⟩ (.bool false)).setCell ⟨q, 1, none⟩ (.int .i64 (-1))) := (fr_set w3 q 2 _).trans (fr_set _ q 1 _) (fun _ _ e => e)
  have hd := H3.out.reset hfr hok (by
    rw [heap_setCell_same _ q 1 _ _ _ (heap_setCell_same _ q 2 _ _ _ H3.out.blk)]
    simp)
  rw [He.out] at hd
  exact ⟨rfl, hd, F3.out.trans hfr (fun _ _ e => .inl e)⟩
/-- a cell, as it lies -/
theorem Rk.whole (h : Rk w q r c d) {n : Nat} (hn : n < d.cells.length) (j : Nat) (v : Value) (hv : (rcell (d.cell (n : Int)))[j]? = some v) : w.cell? ((⟨r, n * 33, none⟩ : Addr).add j) = some v := by
  have hh : d.has (n : Int) := (has_iff d _).2 (by omega)
  have hg : d.cells[n]? = some (d.cell (n : Int)) := by
    have := cell_get hh
    rwa [Int.toNat_natCast] at this
  have hm := h.ok.cell_ok _ (cell_mem hh)
  have hj := (List.getElem?_eq_some_iff.1 hv).1
  rw [rcell_len hm] at hj
  have h1 := flat_get (F := rcell) (k := 33) (fun c hc => rcell_len (h.ok.cell_ok c hc)) hg hj
  have h2 := h.own.rd.cell _ rfl (n * 33 + j) v (by rw [← hv]; exact h1)
  rw [Addr.add_mid, Nat.zero_add] at h2
  rw [Addr.add_mid]
  exact h2
theorem rcell_flag {c : Cl} (h : CellOk c) : (rcell c)[32]? = some (.bool c.2.isSome) := by
  have l1 : (bytesV c.1).length = 16 := by rw [bytesV_length]; exact h.1
  have l2 : (bytesV (c.2.getD zs)).length = 16 := by
    rw [bytesV_length]
    cases hc : c.2 with
    | none => exact zs_len
    | some s => exact h.2 s hc
  unfold rcell
  rw [List.getElem?_append_right (by omega), l1, List.getElem?_append_right (by omega), l2]
  rfl
theorem rcell_one {c : Cl} : ∀ v ∈ (rcell c).toArray, v.oneCell' = true := by
  intro v hv
  simp only [rcell, List.mem_toArray, List.mem_append, List.mem_singleton] at hv
  rcases hv with hv | hv | rfl
  · exact bytesV_one v hv
  · exact bytesV_one v hv
  · rfl
theorem r_Cached (h : Rk w q r c d) : Calls Try.prog 91 #[.pointer (some ⟨q, 0, none⟩)] w fun e w' => ∃ A c2, e = .returned (.slice A d.cached.length c2) ∧ Tw.Own w' w.heap.size 3 1 A d.cached.length c2 (natsV d.cached) ∧ Below w.heap.size w w' := by
  have hn := h.ok.n
  have Hok := Lib.hid h.ok
  have H := Lib.hid h
  obtain ⟨k0, k1, k2, k3⟩ := h.cells
  have hlt := h.lts
  clear h
  obtain ⟨N, hN⟩ : ∃ N, d.cells.length = N := ⟨_, rfl⟩
  have HN := Lib.hid hN
  rw [hN] at k0 hn
  clear hN
  go_enter Try.func91, Try.ntmps91
  go_wp2_with fail
  go_loopw [3, 11] (fun v3 v wr => ∃ (i : Nat) (A : Option Addr) (c2 : Nat), i ≤ N ∧ v = .int .i64 (i : Int) ∧ v3 = .slice A (cachedFrom 0 (d.cells.take i)).length c2 ∧ Hid (Tw.Own wr w.heap.size 3 1 A (cachedFrom 0 (d.cells.take i)).length c2 (natsV (cachedFrom 0 (d.cells.take i)))) ∧ Hid (Below w.heap.size w wr)) (fun _ v _ => N - (intOf v).toNat)
  case atStart => exact ⟨0, none, 0, Nat.zero_le _, rfl, rfl, Lib.hid (World.ownsRow_nil _ _ _ _), Lib.hid (Below.refl _ _)⟩
  case round =>
    clear k0 k1 k2 k3
    obtain ⟨i, A, c2, hi, rfl, rfl, HO, HB⟩ := hrel
    by_cases hin : i < N
    · obtain ⟨c0, hc0⟩ : ∃ c0, d.cells[i]? = some c0 := ⟨_, List.getElem?_eq_getElem (by rw [HN.out]; exact hin)⟩
      have htk := cachedFrom_take hc0
      have hcc : d.cell (i : Int) = c0 := by
        unfold Dsk.cell
        rw [Int.toNat_natCast, List.getD_eq_getElem?_getD, hc0]
        rfl
      have hco := Hok.out.cell_ok _ (List.mem_of_getElem? hc0)
      have hwh := (H.out.bel HB.out).whole (n := i) (by rw [HN.out]; exact hin)
      rw [hcc] at hwh
      have Hwh := Lib.hid hwh
      have Hfl := Lib.hid (rcell_flag hco)
      have Hrl : Hid ((rcell c0).toArray.size = 33) := Lib.hid (by rw [List.size_toArray]; exact rcell_len hco)
      have HY := Lib.hid (heap_alloc_new wr (.cells Z33 180))
      have HYB := Lib.hid ((Below.refl wr.heap.size wr).alloc (Nat.le_refl _) (.cells Z33 180))
      have hcl : (cachedFrom 0 (d.cells.take i)).length ≤ 1024 := Nat.le_trans (cachedFrom_len _ _) (by simp; omega)
      have Htk := Lib.hid htk
      obtain ⟨b, hb⟩ : ∃ b, c0.2.isSome = b := ⟨_, rfl⟩
      rw [hb] at Hfl Htk
      unfold Z33 at HY HYB
      clear hc0 htk hcc hco hwh hb
      generalize cachedFrom 0 (d.cells.take i) = l at *
      cases b with
      | true =>
        go_wp2_with (first
          | (refine wpL_load_rd rfl 180 (.tmp 14) rfl ⟨r, i * 33, none⟩ rfl (rcell c0) _ Hwh.out Try.underlying180 rfl (by rw [← List.size_toArray, Hrl.out]; kernel_rfl) ?_)
          | (refine wpL_store_all rfl rfl 180 (.tmp 5) (.tmp 15) rfl _ rfl _ rfl _ _ HY.out (by rw [Hrl.out]; kernel_rfl) (by rw [Hrl.out]; rfl) rcell_one ?_
             intro w8 x8 g8
             have hb8 := HYB.out.grown g8 HYB.out.size (by rintro k ⟨⟩; exact Nat.le_refl _)
             have HB := Lib.hid (HB.out.trans (hb8.mono HB.out.size))
             have HO := Lib.hid (Tw.Own.bel HO.out hb8)
             have hfl := Hfl.out
             have e32 : w8.cell? ⟨wr.heap.size, 32, none⟩ = some (.bool true) := by simp only [World.cell?, x8]; simpa using hfl
             clear x8 g8 HY HYB hb8 hfl)
          | (at_builtin
             refine wpL_append _ rfl (.tmp 18) (.tmp 20) _ rfl w w.heap.size (bel_alloc HB.out HB.out.size _) (size_alloc_le HB.out.size _) 3 _ 1 8 Try.underlying42 info_int' rfl (by omega) _ _ _ (natsV l) rfl (Tw.Own.bel HO.out ((Below.refl _ _).alloc (Nat.le_refl _) _)) _ 1 1 [.int .i64 (i : Int)] rfl (rd_one w8 _ _) (by intro u hu; simp at hu; subst hu; rfl) (l.length + 1) (natsV (l ++ [i])) rfl (by simp [natsV]) (by unfold maxLen; omega) (by omega) ?_
             intro A9 c9 w9 hown9 hb9 hg9 ho9
             have HO := Lib.hid hown9
             have HB := Lib.hid hb9
             clear hown9 hb9 hg9 ho9 e32))
        go_roundw
        case rel =>
          refine ⟨i + 1, A9, c9, by omega, by go_num, ?_, ?_, HB⟩
          · rw [Htk.out]
            simp
          · rw [Htk.out]
            simpa using HO
        case measure => simp [intOf] <;> omega
      | false =>
        go_wp2_with (first
          | (refine wpL_load_rd rfl 180 (.tmp 14) rfl ⟨r, i * 33, none⟩ rfl (rcell c0) _ Hwh.out Try.underlying180 rfl (by rw [← List.size_toArray, Hrl.out]; kernel_rfl) ?_)
          | (refine wpL_store_all rfl rfl 180 (.tmp 5) (.tmp 15) rfl _ rfl _ rfl _ _ HY.out (by rw [Hrl.out]; kernel_rfl) (by rw [Hrl.out]; rfl) rcell_one ?_
             intro w8 x8 g8
             have hb8 := HYB.out.grown g8 HYB.out.size (by rintro k ⟨⟩; exact Nat.le_refl _)
             have HB := Lib.hid (HB.out.trans (hb8.mono HB.out.size))
             have HO := Lib.hid (Tw.Own.bel HO.out hb8)
             have hfl := Hfl.out
             have e32 : w8.cell? ⟨wr.heap.size, 32, none⟩ = some (.bool false) := by simp only [World.cell?, x8]; simpa using hfl
             clear x8 g8 HY HYB hb8 hfl))
        go_roundw
        case rel =>
          refine ⟨i + 1, A, c2, by omega, by go_num, ?_, ?_, HB⟩
          · rw [Htk.out]
            simp
          · rw [Htk.out]
            simpa using HO
        case measure => simp [intOf] <;> omega
    · obtain rfl : i = N := by omega
      have ho := HO.out
      have HT : Hid (cachedFrom 0 (d.cells.take i) = d.cached) := Lib.hid (by rw [← HN.out, List.take_length]; rfl)
      go_wp2_with fail
      go_ret
      rw [HT.out] at ho ⊢
      exact ⟨A, c2, rfl, ho, HB.out⟩
end
end Go.Proofs.Ytplemdgihlabgaa.Disk
