/- Contracts of the package disk: New, Made, Size, Broken, Ops, has, spend. Conditions: at most 10^9 operations. -/
import Derived.Test.YtpbcmghfhflkbaaProg
import Derived.Test.YtpbcmghfhflkbaaNum
import Derived.Test.YtpbcmghfhflkbaaCopy
import Derived.Test.YtpbcmghfhflkbaaRegion
import Derived.Test.YtpbcmghfhflkbaaDskLaw
import Derived.Maps.OwnOps
import Derived.Maps.OwnSet
import Derived.Maps.Keyed
import Derived.WalkSpells
import Derived.Carry
set_option linter.unusedVariables false
set_option linter.unusedSimpArgs false
namespace Go.Proofs.Ytpbcmghfhflkbaa.Disk
open Go.RowKit Tw Go.Maps Go.ChangeMaps
set_option maxHeartbeats 1000000
set_option maxRecDepth 100000

theorem law : Keyed Try.prog 3 := int_keyed Try.underlying3
/-- an element reads as itself -/
def R (v : Value) : Option (DataW Value × List MemPlace) := some (.held v, [])
def kl (x : Int) : Lit := .int .i64 x
theorem hkey {x : Int} (h : -9223372036854775808 ≤ x ∧ x ≤ 9223372036854775807) : keyOf Try.prog 3 (.int .i64 x) = some (kl x) := keyOf_int_mk Try.underlying3 (by simp [Lit.wf, IntKind.min, IntKind.max, IntKind.bits, IntKind.signed]; omega)
/-- a sector as a value -/
def secV (s : Sec) : Value := .agg (bytesV s).toArray
/-- the map holds what is cached -/
def atOf (o : Option Sec) (z : DataW Value) : DataW Value := match o with | some s => .held (secV s) | none => z
def MapIs (D : DataW Value) (d : Dsk) : Prop := ∀ x : Int, Maps.has D (kl x) = (d.fresh x).isSome ∧ ∀ z, D.atKey (kl x) z = atOf (d.fresh x) z
/-- the disk at block p: its durable bytes at g, its map at mb -/
structure Dk (w : World) (p g mb c : Nat) (d : Dsk) : Prop where
  ok : d.Ok
  blk : w.heap[p]? = some (.cells #[.slice (some ⟨g, 0, none⟩) d.cells.length c, .map (some mb), .int .i64 d.fuse, .bool d.broken, .int .i64 (d.ops : Int)] 178 (0, 0))
  own : Tw.Own w 0 35 16 (some ⟨g, 0, none⟩) d.cells.length c (bytesV (durable d))
  map : ∃ D m, w.ownsMap Try.prog 3 R mb m D ∧ m ≤ d.ops ∧ MapIs D d
  ne : p ≠ g ∧ p ≠ mb ∧ g ≠ mb

section
variable {w w' : World} {p g mb c : Nat} {d : Dsk}
theorem Dk.lts (h : Dk w p g mb c d) : p < w.heap.size ∧ g < w.heap.size ∧ mb < w.heap.size := by
  obtain ⟨D, m, h1, _⟩ := h.map
  exact ⟨heap_lt h.blk, (h.own.at0 _ rfl).2, h1.lt⟩
theorem Dk.fr {S : Nat → Prop} (h : Dk w p g mb c d) (hf : Fr S w w') (h1 : ¬ S p) (h2 : ¬ S g) (h3 : ¬ S mb) : Dk w' p g mb c d := by
  obtain ⟨D, m, hm, hle, hi⟩ := h.map
  refine ⟨h.ok, heap_fr h.blk hf h1, h.own.fr hf (fun ad e => by injection e with e; subst e; exact h2), ⟨D, m, ?_, hle, hi⟩, h.ne⟩
  obtain ⟨es, clock, hb, rest⟩ := hm
  exact ⟨es, clock, heap_fr hb hf h3, rest⟩
theorem Dk.bel (h : Dk w p g mb c d) (hb : Below w.heap.size w w') : Dk w' p g mb c d := h.fr (S := fun _ => False) (Fr.of_bel hb) (fun e => e) (fun e => e) (fun e => e)
theorem Dk.cells (h : Dk w p g mb c d) : w.cell? ⟨p, 0, none⟩ = some (.slice (some ⟨g, 0, none⟩) d.cells.length c) ∧ w.cell? ⟨p, 1, none⟩ = some (.map (some mb)) ∧ w.cell? ⟨p, 2, none⟩ = some (.int .i64 d.fuse) ∧ w.cell? ⟨p, 3, none⟩ = some (.bool d.broken) ∧ w.cell? ⟨p, 4, none⟩ = some (.int .i64 (d.ops : Int)) := by
  simp [World.cell?, h.blk]
end
theorem info_sec : (Try.prog.info? 35).map (fun i => (i.zero, i.size, i.bytes)) = some (some (.agg (bytesV zs).toArray), 16, 16) := by kernel_rfl
theorem madeSec (n : Nat) : (madeCells (Value.agg (bytesV zs).toArray).cells (n * 16)).toList = bytesV (durable (Dsk.new n)) := by
  have h1 : durable (Dsk.new n) = List.replicate (n * 16) 0 := by
    unfold durable Dsk.new
    induction n with
    | zero => rfl
    | succ n ih =>
      rw [List.replicate_succ, List.flatMap_cons]
      simp only at ih
      rw [ih, Nat.succ_mul, Nat.add_comm, ← List.replicate_append_replicate]
      rfl
  rw [h1]
  have h2 : (Value.agg (bytesV zs).toArray).cells = (bytesV zs).toArray := rfl
  rw [h2]
  refine List.ext_getElem (by simp [madeCells, bytesV]) fun i h3 h4 => ?_
  have h5 : i % 16 < 16 := Nat.mod_lt _ (by omega)
  simp [madeCells, bytesV, zs, h5]
  generalize i % 16 = k at *
  match k, h5 with
  | 0, _ => rfl
  | 1, _ => rfl
  | 2, _ => rfl
  | 3, _ => rfl
  | 4, _ => rfl
  | 5, _ => rfl
  | 6, _ => rfl
  | 7, _ => rfl
  | 8, _ => rfl
  | 9, _ => rfl
  | 10, _ => rfl
  | 11, _ => rfl
  | 12, _ => rfl
  | 13, _ => rfl
  | 14, _ => rfl
  | 15, _ => rfl
  | _ + 16, h => exact absurd h (by omega)
theorem mapIs_nil (n : Nat) : MapIs (.map []) (Dsk.new n) := fun x => by
  have h : (Dsk.new n).fresh x = none := by
    unfold Dsk.fresh
    split
    · rename_i h
      have h1 := cell_mem h
      rw [show (Dsk.new n).cells = List.replicate n c0 from rfl] at h1
      rw [List.eq_of_mem_replicate h1]
      rfl
    · rfl
  rw [h]
  exact ⟨rfl, fun z => rfl⟩
theorem c_dNew (n : Nat) (w : World) (h1 : 1 ≤ n) (h2 : n ≤ 1024) :
    Calls Try.prog 16 #[.int .i64 (n : Int)] w fun e w' => ∃ p g mb, e = .returned (.tuple #[.pointer (some ⟨p, 0, none⟩), .int .i64 0]) ∧ Dk w' p g mb n (Dsk.new n) ∧ (w.heap.size ≤ p ∧ w.heap.size ≤ g ∧ w.heap.size ≤ mb) ∧ Below w.heap.size w w' := by
  have hmm := @run_makeMap Try.prog
  go_enter Try.func16, Try.ntmps16
  go_wp2_with (first
    | (at_make
       refine wpL_make _ rfl _ _ _ rfl w w.heap.size (Below.refl _ _) (Nat.le_refl _) 35 _ 16 16 Try.underlying175 info_sec _ _ _ _ n rfl rfl rfl rfl (by omega) (by unfold maxLen; omega) _ (madeSec n) ?_
       intro w1 hown1 hb1 hg1))
  go_ret2
  have hlt := (hown1.at0 _ rfl).2
  simp only at hlt
  have hsz := hb1.size
  have hl : (Dsk.new n).cells.length = n := by simp [Dsk.new]
  refine ⟨_, w.heap.size, w1.heap.size, rfl, ⟨ok_new h1 h2, ?_, ?_, ⟨.map [], 0, (World.ownsMap_made w1 Try.prog 3 R).alloc _, Nat.le_refl _, mapIs_nil n⟩, by omega⟩, by omega, bel_alloc (bel_alloc hb1 hb1.size _) (size_alloc_le hb1.size _) _⟩
  · have h := heap_alloc_new (w1.alloc (.map #[] 0)) (.cells #[.slice (some ⟨w.heap.size, 0, none⟩) n n, .map (some w1.heap.size), .int .i64 (-1), .bool false, .int .i64 0] 178)
    rw [hl]
    simpa [Dsk.new] using h
  · rw [hl]
    exact Tw.Own.mono ((hown1.alloc _).alloc _) (Nat.zero_le _)
theorem c_Made_nil (w : World) : Calls Try.prog 90 #[.pointer none] w fun e w' => e = .returned (.bool false) ∧ w = w' := by
  go_enter Try.func90, Try.ntmps90
  go_wp2_with fail
  go_ret
  exact ⟨rfl, rfl⟩
section
variable {w : World} {p g mb c : Nat} {d : Dsk}
theorem c_Made (h : Dk w p g mb c d) : Calls Try.prog 90 #[.pointer (some ⟨p, 0, none⟩)] w fun e w' => e = .returned (.bool true) ∧ w = w' := by
  obtain ⟨k0, k1, k2, k3, k4⟩ := h.cells
  have hq := run_neq_slice_nil_any (P := Try.prog) w 175 35 (some ⟨g, 0, none⟩) d.cells.length c 0 0 Try.underlying175
  clear h
  go_enter Try.func90, Try.ntmps90
  go_wp2_with fail
  go_ret
  exact ⟨rfl, rfl⟩
theorem c_Size (h : Dk w p g mb c d) : Calls Try.prog 162 #[.pointer (some ⟨p, 0, none⟩)] w fun e w' => e = .returned (.int .i64 (d.cells.length : Int)) ∧ w = w' := by
  obtain ⟨k0, k1, k2, k3, k4⟩ := h.cells
  have H := Lib.hid h
  clear h
  go_enter Try.func162, Try.ntmps162
  go_wp2_with (first
    | (go_at_call 90
       (with_reducible refine (c_Made H.out).mono ?_)
       rintro e w' ⟨rfl, rfl⟩))
  go_ret
  exact ⟨rfl, rfl⟩
theorem c_Size_nil (w : World) : Calls Try.prog 162 #[.pointer none] w fun e w' => e = .returned (.int .i64 0) ∧ w = w' := by
  go_enter Try.func162, Try.ntmps162
  go_wp2_with (first
    | (go_at_call 90
       (with_reducible refine (c_Made_nil _).mono ?_)
       rintro e w' ⟨rfl, rfl⟩))
  go_ret
  exact ⟨rfl, rfl⟩
theorem c_has (h : Dk w p g mb c d) (x : Int) : Calls Try.prog 102 #[.pointer (some ⟨p, 0, none⟩), .int .i64 x] w fun e w' => e = .returned (.bool (decide (d.has x))) ∧ w = w' := by
  obtain ⟨k0, k1, k2, k3, k4⟩ := h.cells
  clear h
  by_cases h0 : 0 ≤ x
  · have hd : decide (d.has x) = decide (x < (d.cells.length : Int)) := by
      rw [Bool.eq_iff_iff, decide_eq_true_eq, decide_eq_true_eq, has_iff]; omega
    rw [hd]
    clear hd
    go_enter Try.func102, Try.ntmps102
    go_wp2_with fail
    go_ret
    exact ⟨rfl, rfl⟩
  · have hd : decide (d.has x) = false := by rw [decide_eq_false_iff_not, has_iff]; omega
    rw [hd]
    clear hd
    have h1 : decide (0 ≤ x) = false := by simpa using h0
    go_enter Try.func102, Try.ntmps102
    go_wp2_with fail
    go_ret
    exact ⟨rfl, rfl⟩
end
section
variable {w : World} {p g mb c : Nat} {d : Dsk}
theorem c_Broken (h : Dk w p g mb c d) : Calls Try.prog 92 #[.pointer (some ⟨p, 0, none⟩)] w fun e w' => e = .returned (.bool d.broken) ∧ w = w' := by
  obtain ⟨k0, k1, k2, k3, k4⟩ := h.cells
  have H := Lib.hid h
  clear h
  go_enter Try.func92, Try.ntmps92
  go_wp2_with (first
    | (go_at_call 90
       (with_reducible refine (c_Made H.out).mono ?_)
       rintro e w' ⟨rfl, rfl⟩))
  go_ret
  exact ⟨rfl, rfl⟩
theorem c_Ops (h : Dk w p g mb c d) : Calls Try.prog 28 #[.pointer (some ⟨p, 0, none⟩)] w fun e w' => e = .returned (.int .i64 (d.ops : Int)) ∧ w = w' := by
  obtain ⟨k0, k1, k2, k3, k4⟩ := h.cells
  have H := Lib.hid h
  clear h
  go_enter Try.func28, Try.ntmps28
  go_wp2_with (first
    | (go_at_call 90
       (with_reducible refine (c_Made H.out).mono ?_)
       rintro e w' ⟨rfl, rfl⟩))
  go_ret
  exact ⟨rfl, rfl⟩
end
end Go.Proofs.Ytpbcmghfhflkbaa.Disk
