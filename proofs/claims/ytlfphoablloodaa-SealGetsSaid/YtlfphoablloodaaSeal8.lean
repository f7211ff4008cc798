/- The law SealGets, walked. Conditions: none. -/
import Derived.Test.YtlfphoablloodaaSeal7
namespace Go.Proofs.Ytlfphoablloodaa.Seal
open Go.RowKit Tw
open Crc (le sealed le_length sealed_length)
set_option maxHeartbeats 1000000
set_option maxRecDepth 100000

theorem w_SealGets (A : Option Addr) (n c : Nat) (b s : List UInt8) (w : World) (hb : Byt w A n c b) (hs : s.length = 16) :
    Calls Try.prog 14 #[.slice A n c, .agg (bytesV s).toArray] w fun e w' => e = .returned (.bool true) ∧ Below w.heap.size w w' := by
  have Hb := Lib.hid hb
  have Hs := Lib.hid hs
  have hB : Below w.heap.size w (w.alloc (.cells (bytesV s).toArray 98)) := (Below.refl _ _).alloc (Nat.le_refl _) _
  have hh0 : (w.alloc (.cells (bytesV s).toArray 98)).heap[w.heap.size]? = some (.cells (bytesV s).toArray 98 (0, 0)) := heap_alloc_new _ _
  have Hh0 := Lib.hid hh0
  have HB := Lib.hid hB
  have hi : Hid ((Try.prog.info? 98).map (·.size) = some (bytesV s).toArray.size) := Lib.hid (by rw [List.size_toArray, bytesV_length, hs]; kernel_rfl)
  clear hB hh0
  by_cases hn : n ≤ 2000
  · obtain ⟨L, k, hg⟩ : ∃ L k, get b = (L, k) := ⟨_, _, rfl⟩
    have Hg := Lib.hid hg
    obtain ⟨x, y, z, ho⟩ : ∃ x y z, opened s = (x, y, z) := ⟨_, _, _, rfl⟩
    have Ho := Lib.hid ho
    have hco := fun w => c_Open s w hs
    have hcr := fun w => c_rOpen s w hs
    rw [ho] at hco hcr
    have Hco := Lib.hid hco
    have Hcr := Lib.hid hcr
    clear hg ho hco hcr
    go_enter Try.func14, Try.ntmps14
    go_wp2_with (first
      | (go_at_call 71
         (with_reducible refine (c_Get_is L k _ n _ b _ (Hb.out.bel HB.out) (by omega) Hg.out).mono ?_)
         rintro e w1 ⟨A1, c1, rfl, h1, hb1⟩
         have B1 : Below w.heap.size w w1 := HB.out.trans (hb1.mono HB.out.size)
         have k1 := (hb1.block _ (heap_lt Hh0.out)).trans Hh0.out)
      | (go_at_call 72
         (with_reducible refine (c_rGet_is L k _ n _ b _ (Hb.out.bel B1) (by omega) Hg.out).mono ?_)
         rintro e w2 ⟨A2, c2, rfl, h2, hb2⟩
         have B2 : Below w.heap.size w w2 := B1.trans (hb2.mono B1.size)
         have k2 := (hb2.block _ (heap_lt k1)).trans k1
         have H1 := h1.bel hb2
         clear h1 k1)
      | (refine wpList_load_row rfl 98 (.tmp 3) rfl _ rfl _ _ _ _ k2 Try.underlying98 rfl hi.out ?_)
      | (go_at_call 73
         (with_reducible refine (Hco.out _).mono ?_)
         rintro e w3 ⟨rfl, hb3⟩
         have B3 : Below w.heap.size w w3 := B2.trans (hb3.mono B2.size)
         have k3 := (hb3.block _ (heap_lt k2)).trans k2
         have G1 := H1.bel hb3
         have G2 := h2.bel hb3
         clear H1 h2 k2)
      | (refine wpList_load_row rfl 98 (.tmp 3) rfl _ rfl _ _ _ _ k3 Try.underlying98 rfl hi.out ?_)
      | (go_at_call 74
         (with_reducible refine (Hcr.out _).mono ?_)
         rintro e w4 ⟨rfl, hb4⟩
         have B4 : Below w.heap.size w w4 := B3.trans (hb4.mono B3.size)
         have e1 := run_str (P := Try.prog) w4 22 9 5 A1 L.length c1 L Try.underlying22 Try.underlying5 Try.underlying9 (G1.bel hb4)
         have e2 := run_str (P := Try.prog) w4 22 9 5 A2 L.length c2 L Try.underlying22 Try.underlying5 Try.underlying9 (G2.bel hb4)
         clear G1 G2 k3)
      | (go_at_call 60
         (with_reducible refine (c_lives _).mono ?_)
         rintro e w5 ⟨rfl, hb5⟩))
    go_ret
    exact ⟨rfl, B4.trans (hb5.mono B4.size)⟩
  · go_enter Try.func14, Try.ntmps14
    go_wp2_with (first
      | (go_at_call 60; (with_reducible refine (c_lives _).mono ?_); rintro e w' ⟨rfl, hb1⟩))
    go_ret
    exact ⟨rfl, HB.out.trans (hb1.mono HB.out.size)⟩
end Go.Proofs.Ytlfphoablloodaa.Seal
