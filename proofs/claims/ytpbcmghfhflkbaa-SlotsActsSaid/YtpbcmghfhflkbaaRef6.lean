/- The reference's disk: New. Conditions: none. -/
import Derived.Test.YtpbcmghfhflkbaaRef5
set_option linter.unusedVariables false
set_option linter.unusedSimpArgs false
namespace Go.Proofs.Ytpbcmghfhflkbaa.Disk
open Go.RowKit Tw Dsk
set_option maxHeartbeats 4000000
set_option maxRecDepth 100000
theorem info_cell : (Try.prog.info? 180).map (fun i => (i.zero, i.size, i.bytes)) = some (some (.agg Z33), 33, 33) := by kernel_rfl
theorem z33_one : ∀ u ∈ Z33.toList, u.oneCell' = true := by
  rw [← rcell_c0]
  intro u hu
  exact rcell_one u (by simpa using hu)
theorem rrow_new (n : Nat) : rrow (List.replicate (n + 1) c0) = rrow (List.replicate n c0) ++ Z33.toList := by
  unfold rrow
  rw [List.replicate_succ', List.flatMap_append]
  simp [rcell_c0]
theorem r_New_bad (n : Int) (hn : n < 1 ∨ 1024 < n) (w : World) : Calls Try.prog 17 #[.int .i64 n] w fun e w' => e = .returned (.tuple #[.pointer none, .int .i64 2]) ∧ w = w' := by
  by_cases h1 : n < 1
  · go_enter Try.func17, Try.ntmps17
    go_wp2_with fail
    go_ret2
    exact ⟨rfl, rfl⟩
  · have h2 : 1024 < n := by omega
    go_enter Try.func17, Try.ntmps17
    go_wp2_with fail
    go_ret2
    exact ⟨rfl, rfl⟩
theorem r_New (n : Nat) (w : World) (h1 : 1 ≤ n) (h2 : n ≤ 1024) : Calls Try.prog 17 #[.int .i64 (n : Int)] w fun e w' => ∃ q r c, e = .returned (.tuple #[.pointer (some ⟨q, 0, none⟩), .int .i64 0]) ∧ Rk w' q r c (Dsk.new n) ∧ (w.heap.size ≤ q ∧ w.heap.size ≤ r) ∧ Below w.heap.size w w' := by
  have hb0 := heap_alloc_new w (.cells #[.slice none 0 0, .int .i64 (-1), .bool false, .int .i64 0] 51)
  have HB0 := Lib.hid ((Below.refl w.heap.size w).alloc (Nat.le_refl _) (.cells #[.slice none 0 0, .int .i64 (-1), .bool false, .int .i64 0] 51))
  have Hb0 := Lib.hid hb0
  have hs0 : w.heap.size < (w.alloc (.cells #[.slice none 0 0, .int .i64 (-1), .bool false, .int .i64 0] 51)).heap.size := by simp
  have Hs0 := Lib.hid hs0
  clear hb0 hs0
  go_enter Try.func17, Try.ntmps17
  go_wp2_with fail
  generalize (w.alloc (.cells #[.slice none 0 0, .int .i64 (-1), .bool false, .int .i64 0] 51)) = W0 at *
  go_loopw [5] (fun v wr => ∃ (i : Nat) (A : Option Addr) (c2 : Nat), i ≤ n ∧ v = .int .i64 (i : Int) ∧ Hid (wr.heap[w.heap.size]? = some (.cells #[.slice A i c2, .int .i64 (-1), .bool false, .int .i64 0] 51 (0, 0))) ∧ Hid (Tw.Own wr W0.heap.size 180 33 A i c2 (rrow (List.replicate i c0))) ∧ Hid (Below w.heap.size w wr) ∧ Hid (W0.heap.size ≤ wr.heap.size)) (fun v _ => n - (intOf v).toNat)
  case atStart => exact ⟨0, none, 0, Nat.zero_le _, rfl, Hb0, Lib.hid (World.ownsRow_nil _ _ _ _), HB0, Lib.hid (Nat.le_refl _)⟩
  case round =>
    clear Hb0 HB0
    obtain ⟨i, A, c2, hi, rfl, HX, HO, HB, HS⟩ := hrel
    have hx := HX.out
    have k0 : wr.cell? ⟨w.heap.size, 0, none⟩ = some (.slice A i c2) := by simp [World.cell?, hx]
    clear hx
    by_cases hin : i < n
    · have HZ := Lib.hid (own_lit wr wr.heap.size 180 33 Z33 1 (Nat.le_refl _) (by simp [maxLen]) rfl)
      have HXa := Lib.hid (((Below.refl wr.heap.size wr).alloc (Nat.le_refl _) (.cells Z33 180)).block _ (heap_lt HX.out))
      have Hn := Lib.hid (rrow_new i)
      unfold Z33 at HZ HXa
      go_wp2_with (first
        | (at_builtin
           refine wpL_append _ rfl (.tmp 23) (.tmp 25) _ rfl wr W0.heap.size (bel_alloc (Below.refl _ _) HS.out _) (size_alloc_le HS.out _) 180 _ 33 33 Try.underlying49 info_cell rfl (by omega) _ _ _ (rrow (List.replicate i c0)) rfl (Tw.Own.bel HO.out ((Below.refl _ _).alloc (Nat.le_refl _) _)) _ 1 1 Z33.toList rfl HZ.out.rd z33_one (i + 1) (rrow (List.replicate (i + 1) c0)) rfl Hn.out.symm (by unfold maxLen; omega) (by omega) ?_
           intro A9 c9 w9 hown9 hb9 hg9 ho9
           have hs0 := Hs0.out
           have HO := Lib.hid hown9
           have hx9 := (hb9.block _ (by omega)).trans HX.out
           have HX9 := Lib.hid hx9
           have hsz := hb9.size
           have HS := Lib.hid (Nat.le_trans HS.out hsz)
           have HB := Lib.hid (HB.out.trans (hb9.mono (by omega)))
           have d0 : w9.cell? ⟨w.heap.size, 0, none⟩ = some (.slice A i c2) := by simp [World.cell?, hx9]
           clear hown9 hb9 hg9 ho9 hs0 hx9 hsz k0)
        | (refine wpL_store_slice rfl rfl 49 (.tmp 28) (.tmp 26) rfl w.heap.size 0 rfl _ _ _ rfl (by kernel_rfl) _ _ HX9.out (by simp) ?_
           intro w10 x10 g10
           have hs0 := Hs0.out
           have HX := Lib.hid x10
           have HO := Lib.hid (HO.out.kept g10 (own_apart HO.out (by rintro k ⟨⟩; omega)))
           have HS := Lib.hid (Nat.le_trans HS.out g10.size)
           have HB := Lib.hid (HB.out.grown g10 HB.out.size (by rintro k ⟨⟩; exact Nat.le_refl _))
           clear x10 g10 hs0 d0))
      go_roundw
      case rel => exact ⟨i + 1, A9, c9, by omega, by go_num, HX, HO, HB, HS⟩
      case measure => simp [intOf] <;> omega
    · obtain rfl : i = n := by omega
      go_wp2_with fail
      go_ret2
      obtain ⟨g, rfl, hg1, hg2⟩ := own_form0 HO.out (by omega)
      have hs := Hs0.out
      refine ⟨w.heap.size, g, c2, rfl, ⟨ok_new h1 h2, by simpa [Dsk.new] using HX.out, by simpa [Dsk.new] using Tw.Own.mono HO.out (Nat.zero_le _), by omega⟩, ⟨Nat.le_refl _, by omega⟩, HB.out⟩
end Go.Proofs.Ytpbcmghfhflkbaa.Disk
