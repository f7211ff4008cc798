/- Contracts of the package disk: spend, Fuse, Write, Read. Conditions: at most 10^9 operations. -/
import Derived.Test.YtpbcmghfhflkbaaDisk
set_option linter.unusedVariables false
set_option linter.unusedSimpArgs false
namespace Go.Proofs.Ytpbcmghfhflkbaa.Disk
open Go.RowKit Tw Go.Maps Go.ChangeMaps
set_option maxHeartbeats 2000000
set_option maxRecDepth 100000

section
variable {w w' : World} {p g mb c : Nat} {d : Dsk}
/-- the disk's struct written anew -/
theorem Dk.reset (h : Dk w p g mb c d) (hf : Fr (fun k => k = p) w w') {f : Int} {b : Bool} {o : Nat} (ho : d.ops ≤ o) (hok : ({ d with fuse := f, broken := b, ops := o } : Dsk).Ok)
    (hb : w'.heap[p]? = some (.cells #[.slice (some ⟨g, 0, none⟩) d.cells.length c, .map (some mb), .int .i64 f, .bool b, .int .i64 (o : Int)] 178 (0, 0))) : Dk w' p g mb c { d with fuse := f, broken := b, ops := o } := by
  have hne := h.ne
  obtain ⟨D, m, hm, hle, hi⟩ := h.map
  refine ⟨hok, hb, h.own.fr hf (fun ad e => by injection e with e; subst e; exact fun e => hne.1 e.symm), ⟨D, m, ?_, Nat.le_trans hle ho, hi⟩, hne⟩
  obtain ⟨es, clock, hb, rest⟩ := hm
  exact ⟨es, clock, heap_fr hb hf (fun e => hne.2.1 e.symm), rest⟩
theorem fr_set (w : World) (p i : Nat) (v : Value) : Fr (fun k => k = p) w (w.setCell ⟨p, i, none⟩ v) := Fr.setCell (S := fun k => k = p) (p := ⟨p, i, none⟩) rfl v
theorem Dk.frozen (h : Dk w p g mb c d) (i : Nat) : w.frozen? ⟨p, i, none⟩ = false := by simp [World.frozen?, h.blk]

theorem c_spend (h : Dk w p g mb c d) (ho : d.ops < 1000000000) : Calls Try.prog 103 #[.pointer (some ⟨p, 0, none⟩)] w fun e w' => e = .returned (.int .i64 (d.spend.2 : Int)) ∧ Dk w' p g mb c d.spend.1 ∧ Fr (fun k => k = p) w w' := by
  obtain ⟨k0, k1, k2, k3, k4⟩ := h.cells
  have q2 := h.frozen 2
  have q3 := h.frozen 3
  have q4 := h.frozen 4
  have hsp := spend_ok h.ok ho
  have hfu := h.ok.fuse
  have H := Lib.hid h
  have Hsp := Lib.hid hsp
  clear h hsp
  by_cases h0 : d.fuse = 0
  · have hs : d.spend = ({ d with fuse := 0, broken := true, ops := d.ops }, 3) := by
      unfold Dsk.spend Dsk.burn
      rw [if_pos h0]
      rw [if_pos rfl]
      simp [h0]
    have Hs := Lib.hid hs
    rw [h0] at k2
    clear h0 hs
    go_enter Try.func103, Try.ntmps103
    go_wp2_with fail
    go_ret
    have hs := Hs.out
    have hok := Hsp.out
    rw [hs] at hok ⊢
    refine ⟨rfl, H.out.reset (fr_set w p 3 _) (Nat.le_refl _) hok ?_, fr_set w p 3 _⟩
    rw [heap_setCell_same _ p 3 _ _ _ H.out.blk]
    have : d.fuse = 0 := by have h2 := H.out.cells.2.2.1; rw [k2] at h2; injection h2 with h2; injection h2 with _ h2; exact h2.symm
    simp [this]
  · by_cases hb : d.broken = true
    · have hs : d.spend = ({ d with fuse := d.fuse, broken := d.broken, ops := d.ops }, 3) := by
        unfold Dsk.spend Dsk.burn
        rw [if_neg h0, if_pos hb]
      have Hs := Lib.hid hs
      have h1 : (d.fuse == 0) = false := by simpa using h0
      have H1 := Lib.hid h0
      clear hs h0
      go_enter Try.func103, Try.ntmps103
      go_wp2_with fail
      go_ret
      have hs := Hs.out
      rw [hs]
      exact ⟨rfl, H.out, Fr.refl _ _⟩
    · have hb : d.broken = false := by simpa using hb
      have h1 : (d.fuse == 0) = false := by simpa using h0
      by_cases hp : 0 < d.fuse
      · have hs : d.spend = ({ d with fuse := d.fuse - 1, broken := d.broken, ops := d.ops + 1 }, 0) := by
          unfold Dsk.spend Dsk.burn
          rw [if_neg h0, hb, if_neg (by simp), if_pos hp]
        have Hs := Lib.hid hs
        clear hs h0
        go_enter Try.func103, Try.ntmps103
        go_wp2_with fail
        go_ret
        have hs := Hs.out
        have hok := Hsp.out
        rw [hs] at hok ⊢
        have hfr : Fr (fun k => k = p) w ((w.setCell ⟨p, 2, none⟩ (.int .i64 (d.fuse - 1))).setCell ⟨p, 4, none⟩ (.int .i64 ((d.ops : Int) + 1))) := (fr_set w p 2 _).trans (fr_set _ p 4 _) (fun _ _ e => e)
        refine ⟨rfl, H.out.reset hfr (Nat.le_succ _) hok ?_, hfr⟩
        rw [heap_setCell_same _ p 4 _ _ _ (heap_setCell_same _ p 2 _ _ _ H.out.blk)]
        simp
      · have hs : d.spend = ({ d with fuse := d.fuse, broken := d.broken, ops := d.ops + 1 }, 0) := by
          unfold Dsk.spend Dsk.burn
          rw [if_neg h0, hb, if_neg (by simp), if_neg hp]
        have Hs := Lib.hid hs
        have hp2 : decide (0 < d.fuse) = false := by simpa using hp
        clear hs h0
        go_enter Try.func103, Try.ntmps103
        go_wp2_with fail
        go_ret
        have hs := Hs.out
        have hok := Hsp.out
        rw [hs] at hok ⊢
        have hfr : Fr (fun k => k = p) w (w.setCell ⟨p, 4, none⟩ (.int .i64 ((d.ops : Int) + 1))) := fr_set w p 4 _
        refine ⟨rfl, H.out.reset hfr (Nat.le_succ _) hok ?_, hfr⟩
        rw [heap_setCell_same _ p 4 _ _ _ H.out.blk]
        simp
end
end Go.Proofs.Ytpbcmghfhflkbaa.Disk
