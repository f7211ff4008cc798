/- The law SlotsNone, walked; its argument opened. Conditions: none. -/
import Derived.Test.YtdpggcpbgfancaaSlots5
import Derived.Test.YtdpggcpbgfancaaFlat
namespace Go.Proofs.Ytdpggcpbgfancaa.Slots
open Go.RowKit Tw Disk
set_option maxHeartbeats 4000000
set_option maxRecDepth 100000
theorem opened_zs : Seal.opened zs = (0, 0, false) := by decide +kernel
theorem read_new (n : Nat) (x : Int) : ((Dsk.new n).read x).1 = zs := by
  unfold Dsk.read
  split
  · rename_i h
    split
    · rfl
    · have h1 := cell_mem h
      rw [show (Dsk.new n).cells = List.replicate n c0 from rfl] at h1
      rw [List.eq_of_mem_replicate h1]
      rfl
  · rfl
theorem readAt_new (n : Nat) (b s x : Int) : readAt (Dsk.new n) b s x = (0, 0) := by
  unfold readAt told
  rw [read_new, opened_zs]
  simp
theorem best_new (n : Nat) (b s : Int) (k : Nat) : best (Dsk.new n) b s k = (0, 0) := by
  induction k with
  | zero => rfl
  | succ k ih =>
    unfold best
    rw [ih, readAt_new]
    rfl
theorem latest_new (n : Nat) (b s : Int) : latest (Dsk.new n) b s = (0, 0) := by
  unfold latest
  split
  · exact best_new _ _ _ _
  · rfl
theorem new_len (n : Nat) : (Dsk.new n).cells.length = n := by simp [Dsk.new]
theorem sput_new {n : Nat} {b s : Int} (h : On b s n) (x : Nat) : (sput (Dsk.new n) b s x).2 = 0 := by
  have hp := place_on h 1
  unfold sput
  rw [if_pos (by rw [new_len]; exact h), latest_new]
  have hw : ((Dsk.new n).write (place b s 1) (Seal.rec 1 x)).2 = 0 := by
    unfold Dsk.write
    rw [if_pos ((has_iff _ _).2 (by rw [new_len]; omega))]
    rfl
  simp only [Nat.zero_add]
  rw [if_neg (by simp [Dsk.new]), if_neg (by decide), if_pos hw]
  have hf : ((Dsk.new n).write (place b s 1) (Seal.rec 1 x)).1 = (({ Dsk.new n with ops := 1 } : Dsk).put (place b s 1) (Seal.rec 1 x)) := by
    unfold Dsk.write
    rw [if_pos ((has_iff _ _).2 (by rw [new_len]; omega))]
    rfl
  rw [hf]
  rfl
theorem sput_off {n : Nat} {b s : Int} (h : ¬ On b s n) (x : Nat) : sput (Dsk.new n) b s x = (Dsk.new n, 2) := by
  unfold sput
  rw [if_neg (by rw [new_len]; exact h)]
theorem three_cells {w : World} {g : Nat} {t : TypeId} {a b c : Value} (h : w.heap[g]? = some (.cells #[a, b, c] t (0, 0))) : w.cell? ⟨g, 0, none⟩ = some a ∧ w.cell? ⟨g, 1, none⟩ = some b ∧ w.cell? ⟨g, 2, none⟩ = some c := by
  simp [World.cell?, h]
theorem w_SlotsNone (x : Nat) (n b s : Int) (w : World) (hx : x < 18446744073709551616) :
    Calls Try.prog 12 #[.int .u64 (x : Int), .agg #[.int .i64 n, .int .i64 b, .int .i64 s]] w fun e w' => e = .returned (.bool true) ∧ Below w.heap.size w w' := by
  have HB := Lib.hid ((Below.refl w.heap.size w).alloc (Nat.le_refl _) (.cells #[.int .i64 n, .int .i64 b, .int .i64 s] 55))
  have HX := Lib.hid (heap_alloc_new w (.cells #[.int .i64 n, .int .i64 b, .int .i64 s] 55))
  obtain ⟨k1, k2, k3⟩ := three_cells HX.out
  go_enter Try.func12, Try.ntmps12
  go_wp2_with fail
  go_quiet (fail)
  have HBq := Lib.hid (HB.out.trans ((Fr.drewN (S := fun _ => False) nq).bel (fun _ e => e.elim) HB.out.size))
  generalize (w.alloc (.cells #[.int .i64 n, .int .i64 b, .int .i64 s] 55)).drewN nq = W1 at *
  clear k1 k2 k3 HB HX
  by_cases h1 : n < 1
  · go_wp2_with (first
  | (go_at_call 43
     (with_reducible refine (c_Latest_nil _ _ _).mono ?_)
     rintro e w2 ⟨rfl, hb2⟩
     have HB2 := Lib.hid (HBq.out.trans (hb2.mono HBq.out.size))
     clear hb2)
  | (go_at_call 44
     (with_reducible refine (c_Put_nil _ _ _ _).mono ?_)
     rintro e w3 ⟨rfl, hb3⟩
     have HB3 := Lib.hid (HB2.out.trans (hb3.mono HB2.out.size))
     clear hb3)
  | (go_at_call 42
     (with_reducible refine (c_lives _).mono ?_)
     rintro e w4 ⟨rfl, hb4⟩
     have HB4 := Lib.hid (HB3.out.trans (hb4.mono HB3.out.size))
     clear hb4)
    | fail)
    go_ret
    exact ⟨rfl, HB4.out⟩
  · by_cases h2 : 40 < n
    · go_wp2_with (first
    | (go_at_call 43
       (with_reducible refine (c_Latest_nil _ _ _).mono ?_)
       rintro e w2 ⟨rfl, hb2⟩
       have HB2 := Lib.hid (HBq.out.trans (hb2.mono HBq.out.size))
       clear hb2)
    | (go_at_call 44
       (with_reducible refine (c_Put_nil _ _ _ _).mono ?_)
       rintro e w3 ⟨rfl, hb3⟩
       have HB3 := Lib.hid (HB2.out.trans (hb3.mono HB2.out.size))
       clear hb3)
    | (go_at_call 42
       (with_reducible refine (c_lives _).mono ?_)
       rintro e w4 ⟨rfl, hb4⟩
       have HB4 := Lib.hid (HB3.out.trans (hb4.mono HB3.out.size))
       clear hb4)
      | fail)
      go_ret
      exact ⟨rfl, HB4.out⟩
    · obtain ⟨m, rfl⟩ : ∃ m : Nat, n = (m : Int) := ⟨n.toNat, by omega⟩
      by_cases hon : On b s m
      · obtain ⟨⟨d2, e2⟩, hs⟩ : ∃ r, sput (Dsk.new m) b s x = r := ⟨_, rfl⟩
        have he := sput_new hon x
        rw [hs] at he
        simp only at he
        subst he
        have Hs := Lib.hid hs
        obtain ⟨⟨r1, r2, r3, r4⟩, r5⟩ := hon
        clear hs
        go_wp2_with (first
      | (go_at_call 45
         (with_reducible refine (c_dNewI' _ m rfl _ (by omega) (by omega)).mono ?_)
         rintro e w1 ⟨p, g, mb, rfl, hk, hge, hb1⟩
         have HB := Lib.hid (HBq.out.trans (hb1.mono HBq.out.size))
         have HG : Hid (w.heap.size ≤ p ∧ w.heap.size ≤ g ∧ w.heap.size ≤ mb) := Lib.hid (by have := HBq.out.size; omega)
         have HK := Lib.hid hk
         clear hb1 hk hge)
      | (go_at_call 44
         (with_reducible refine (c_PutI HK.out (by simp [Dsk.new]) b s _ x rfl hx _ Hs.out).mono ?_)
         rintro e w2 ⟨rfl, hk2, f2⟩
         have HB2 := Lib.hid (Dk.fresh HG.out HB.out f2)
         have HK2 := Lib.hid hk2
         clear hk2 f2)
      | (go_at_call 46
         (with_reducible refine (c_Ops HK2.out).mono ?_)
         rintro e w3 ⟨rfl, rfl⟩)
      | (go_at_call 42
         (with_reducible refine (c_lives _).mono ?_)
         rintro e w4 ⟨rfl, hb4⟩
         have HB4 := Lib.hid (HB2.out.trans (hb4.mono HB2.out.size))
         clear hb4)
        | fail)
        go_ret
        exact ⟨rfl, HB4.out⟩
      · have Hs := Lib.hid (sput_off hon x)
        have hz : (Dsk.new m).ops = 0 := rfl
        unfold On RingOk at hon
        go_wp2_with (first
      | (go_at_call 45
         (with_reducible refine (c_dNewI' _ m rfl _ (by omega) (by omega)).mono ?_)
         rintro e w1 ⟨p, g, mb, rfl, hk, hge, hb1⟩
         have HB := Lib.hid (HBq.out.trans (hb1.mono HBq.out.size))
         have HG : Hid (w.heap.size ≤ p ∧ w.heap.size ≤ g ∧ w.heap.size ≤ mb) := Lib.hid (by have := HBq.out.size; omega)
         have HK := Lib.hid hk
         clear hb1 hk hge)
      | (go_at_call 44
         (with_reducible refine (c_PutI HK.out (by simp [Dsk.new]) b s _ x rfl hx _ Hs.out).mono ?_)
         rintro e w2 ⟨rfl, hk2, f2⟩
         have HB2 := Lib.hid (Dk.fresh HG.out HB.out f2)
         have HK2 := Lib.hid hk2
         clear hk2 f2)
      | (go_at_call 46
         (with_reducible refine (c_Ops HK2.out).mono ?_)
         rintro e w3 ⟨rfl, rfl⟩)
      | (go_at_call 42
         (with_reducible refine (c_lives _).mono ?_)
         rintro e w4 ⟨rfl, hb4⟩
         have HB4 := Lib.hid (HB2.out.trans (hb4.mono HB2.out.size))
         clear hb4)
        | fail)
        all_goals
          go_ret
          exact ⟨rfl, HB4.out⟩
section
open Go.ChangeShapes Go.WideShapes Go.Deep
variable {H : Type} {enc : TypeId × Value → H} {P : Program} {W : World} {base : Nat} {spare : Nat → Bool} {held : Bool}
theorem open_three {r : Reach} {base2 : Nat} {t : TypeId} {v : Value} {d : DataW H} {ps : List MemPlace} (hL : flat P 4 t = some [.int .i64, .int .i64, .int .i64]) (hc : P.cellsOf t = 3) (ht : (P.underlying t).map (·.isRow) = some true)
    (hv : Value.okWide P W r base2 t v) (h : DataW.Trod enc P W base spare held t v d ps) : ∃ (n b s : Int), v = .agg #[.int .i64 n, .int .i64 b, .int .i64 s] := by
  obtain ⟨cs, rfl, hr⟩ := open_agg 4 hL hc ht hv h
  obtain ⟨v1, r1, rfl, k1, hr⟩ := rowOk_cons hr
  obtain ⟨v2, r2, rfl, k2, hr⟩ := rowOk_cons hr
  obtain ⟨v3, r3, rfl, k3, hr⟩ := rowOk_cons hr
  obtain rfl := rowOk_nil hr
  obtain ⟨z1, rfl, q1⟩ := leaf_i64 k1
  obtain ⟨z2, rfl, q2⟩ := leaf_i64 k2
  obtain ⟨z3, rfl, q3⟩ := leaf_i64 k3
  exact ⟨z1, z2, z3, rfl⟩
end
end Go.Proofs.Ytdpggcpbgfancaa.Slots
