/- The law SlotsNone, walked; its argument opened. Conditions: none. -/
import Derived.Test.YtpbcmghfhflkbaaSlots5
import Derived.Test.YtpbcmghfhflkbaaFlat
set_option linter.unusedVariables false
set_option linter.unusedSimpArgs false
namespace Go.Proofs.Ytpbcmghfhflkbaa.Slots
open Go.RowKit Tw Disk
set_option maxHeartbeats 4000000
set_option maxRecDepth 100000
theorem opened_zs : Seal.opened zs = (0, 0, false) := by decide +kernel
theorem read_new (n : Nat) (x : Int) : ((Dsk.new n).read x).1 = zs := by
  unfold Dsk.read
  split
  · rename_i h
    split
    · rfl
    · have h1 := cell_mem h
      rw [show (Dsk.new n).cells = List.replicate n c0 from rfl] at h1
      rw [List.eq_of_mem_replicate h1]
      rfl
  · rfl
theorem readAt_new (n : Nat) (b s x : Int) : readAt (Dsk.new n) b s x = (0, 0) := by
  unfold readAt told
  rw [read_new, opened_zs]
  simp
theorem best_new (n : Nat) (b s : Int) (k : Nat) : best (Dsk.new n) b s k = (0, 0) := by
  induction k with
  | zero => rfl
  | succ k ih =>
    unfold best
    rw [ih, readAt_new]
    rfl
theorem latest_new (n : Nat) (b s : Int) : latest (Dsk.new n) b s = (0, 0) := by
  unfold latest
  split
  · exact best_new _ _ _ _
  · rfl
theorem new_len (n : Nat) : (Dsk.new n).cells.length = n := by simp [Dsk.new]
theorem sput_new {n : Nat} {b s : Int} (h : On b s n) (x : Nat) : (sput (Dsk.new n) b s x).2 = 0 := by
  have hp := place_on h 1
  unfold sput
  rw [if_pos (by rw [new_len]; exact h), latest_new]
  have hw : ((Dsk.new n).write (place b s 1) (Seal.rec 1 x)).2 = 0 := by
    unfold Dsk.write
    rw [if_pos ((has_iff _ _).2 (by rw [new_len]; omega))]
    rfl
  simp only [Nat.zero_add]
  rw [if_neg (by simp [Dsk.new]), if_neg (by decide), if_pos hw]
  have hf : ((Dsk.new n).write (place b s 1) (Seal.rec 1 x)).1 = (({ Dsk.new n with ops := 1 } : Dsk).put (place b s 1) (Seal.rec 1 x)) := by
    unfold Dsk.write
    rw [if_pos ((has_iff _ _).2 (by rw [new_len]; omega))]
    rfl
  rw [hf]
  rfl
theorem sput_off {n : Nat} {b s : Int} (h : ¬ On b s n) (x : Nat) : sput (Dsk.new n) b s x = (Dsk.new n, 2) := by
  unfold sput
  rw [if_neg (by rw [new_len]; exact h)]
theorem three_cells {w : World} {g : Nat} {t : TypeId} {a b c : Value} (h : w.heap[g]? = some (.cells #[a, b, c] t (0, 0))) : w.cell? ⟨g, 0, none⟩ = some a ∧ w.cell? ⟨g, 1, none⟩ = some b ∧ w.cell? ⟨g, 2, none⟩ = some c := by
  simp [World.cell?, h]
section
open Go.ChangeShapes Go.WideShapes Go.Deep
variable {H : Type} {enc : TypeId × Value → H} {P : Program} {W : World} {base : Nat} {spare : Nat → Bool} {held : Bool}
theorem open_three {r : Reach} {base2 : Nat} {t : TypeId} {v : Value} {d : DataW H} {ps : List MemPlace} (hL : flat P 4 t = some [.int .i64, .int .i64, .int .i64]) (hc : P.cellsOf t = 3) (ht : (P.underlying t).map (·.isRow) = some true)
    (hv : Value.okWide P W r base2 t v) (h : DataW.Trod enc P W base spare held t v d ps) : ∃ (n b s : Int), v = .agg #[.int .i64 n, .int .i64 b, .int .i64 s] := by
  obtain ⟨cs, rfl, hr⟩ := open_agg 4 hL hc ht hv h
  obtain ⟨v1, r1, rfl, k1, hr⟩ := rowOk_cons hr
  obtain ⟨v2, r2, rfl, k2, hr⟩ := rowOk_cons hr
  obtain ⟨v3, r3, rfl, k3, hr⟩ := rowOk_cons hr
  obtain rfl := rowOk_nil hr
  obtain ⟨z1, rfl, q1⟩ := leaf_i64 k1
  obtain ⟨z2, rfl, q2⟩ := leaf_i64 k2
  obtain ⟨z3, rfl, q3⟩ := leaf_i64 k3
  exact ⟨z1, z2, z3, rfl⟩
end
end Go.Proofs.Ytpbcmghfhflkbaa.Slots
