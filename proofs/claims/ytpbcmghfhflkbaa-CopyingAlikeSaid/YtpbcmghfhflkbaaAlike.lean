/- Copying an extent from one disk to the other, plainly. Conditions: none. -/
import Derived.Test.YtpbcmghfhflkbaaSafe4
import Derived.Test.YtpbcmghfhflkbaaB6
set_option linter.unusedVariables false
set_option linter.unusedSimpArgs false
namespace Go.Proofs.Ytpbcmghfhflkbaa.Slots
open Tw Disk Seal Dsk Go.Proofs.Ytpbcmghfhflkbaa.Data

/-- a Put that is done leaves nothing cached -/
theorem sput_clean {d d' : Dsk} {b s : Int} {x : Nat} (h : sput d b s x = (d', 0)) : Clean d' := by
  unfold sput at h
  by_cases hon : On b s d.cells.length
  · rw [if_pos hon] at h
    by_cases hb : d.broken = true
    · rw [if_pos hb] at h
      cases h
    · rw [if_neg hb] at h
      by_cases hm : (latest d b s).1 = 4294967295
      · rw [if_pos hm] at h
        cases h
      · rw [if_neg hm] at h
        by_cases hw : (d.write (place b s ((latest d b s).1 + 1)) (rec ((latest d b s).1 + 1) x)).2 = 0
        · rw [if_pos hw] at h
          obtain ⟨hb2, f2, o2, he2⟩ := flush_done (by rw [h])
          rw [h] at he2
          simp only at he2
          subst he2
          refine ⟨fun c hc => ?_, hb2⟩
          obtain ⟨c', _, rfl⟩ := List.mem_map.1 hc
          rfl
        · rw [if_neg hw] at h
          rw [h] at hw
          exact absurd rfl hw
  · rw [if_neg hon] at h
    cases h
/-- a disk that does not break does each Put on a ring that has room -/
theorem sput_fine {d : Dsk} {b s : Int} (x : Nat) (hb : d.broken = false) (hf : d.fuse < 0) (hon : On b s d.cells.length) (hn : (latest d b s).1 ≠ 4294967295) : (sput d b s x).2 = 0 ∧ (sput d b s x).1.fuse < 0 := by
  have hp := place_on hon ((latest d b s).1 + 1)
  have hP : d.has (place b s ((latest d b s).1 + 1)) := (has_iff _ _).2 (by omega)
  unfold sput
  rw [if_pos hon, if_neg (by simp [hb]), if_neg hn]
  rcases write_step hb hP (rec ((latest d b s).1 + 1) x) with ⟨f0, _⟩ | ⟨_, hw⟩
  · omega
  · rw [hw, if_pos rfl]
    rcases flush_step (d := { d.put (place b s ((latest d b s).1 + 1)) (rec ((latest d b s).1 + 1) x) with fuse := if 0 < d.fuse then d.fuse - 1 else d.fuse, ops := d.ops + 1 }) hb with ⟨f0, _⟩ | ⟨_, hfl⟩
    · have : (if 0 < d.fuse then d.fuse - 1 else d.fuse) = 0 := f0
      rw [if_neg (by omega)] at this
      omega
    · simp only at hfl ⊢
      rw [hfl]
      refine ⟨rfl, ?_⟩
      show (if 0 < (if 0 < d.fuse then d.fuse - 1 else d.fuse) then _ else _) < 0
      rw [if_neg (by rw [if_neg (by omega)]; omega), if_neg (by omega)]
      exact hf
theorem sput_form (d : Dsk) (b s : Int) (x : Nat) : (∃ e, sput d b s x = (d, e)) ∨ ∃ P R, sput d b s x = d.write P R ∨ sput d b s x = (d.write P R).1.flush := by
  unfold sput
  by_cases h1 : On b s d.cells.length
  · rw [if_pos h1]
    by_cases h2 : d.broken = true
    · rw [if_pos h2]
      exact .inl ⟨_, rfl⟩
    · rw [if_neg h2]
      by_cases h3 : (latest d b s).1 = 4294967295
      · rw [if_pos h3]
        exact .inl ⟨_, rfl⟩
      · rw [if_neg h3]
        refine .inr ⟨place b s ((latest d b s).1 + 1), rec ((latest d b s).1 + 1) x, ?_⟩
        by_cases h4 : (d.write (place b s ((latest d b s).1 + 1)) (rec ((latest d b s).1 + 1) x)).2 = 0
        · rw [if_pos h4]
          exact .inr rfl
        · rw [if_neg h4]
          exact .inl rfl
  · rw [if_neg h1]
    exact .inl ⟨_, rfl⟩
theorem sput_ops2 (d : Dsk) (b s : Int) (x : Nat) : (sput d b s x).1.ops ≤ d.ops + 2 := by
  rcases sput_form d b s x with ⟨e, h⟩ | ⟨P, R, h | h⟩
  · rw [h]; exact Nat.le_add_right _ _
  · rw [h]; exact Nat.le_succ_of_le (write_facts d P R).1
  · rw [h]; exact Nat.le_trans (flush_facts _).1 (Nat.succ_le_succ (write_facts d P R).1)
theorem spend_fuse {d : Dsk} (hd : -1 ≤ d.fuse) : -1 ≤ d.spend.1.fuse := by
  unfold Dsk.spend Dsk.burn
  (repeat' split) <;> simp only <;> omega
theorem write_fuse {d : Dsk} (hd : -1 ≤ d.fuse) (P : Int) (R : Sec) : -1 ≤ (d.write P R).1.fuse := by
  have h := spend_fuse hd
  unfold Dsk.write
  split
  · split
    · exact h
    · exact h
  · exact hd
theorem flush_fuse {d : Dsk} (hd : -1 ≤ d.fuse) : -1 ≤ d.flush.1.fuse := by
  have h := spend_fuse hd
  unfold Dsk.flush
  split
  · exact h
  · exact h
theorem sput_fuse {d : Dsk} (hd : -1 ≤ d.fuse) (b s : Int) (x : Nat) : -1 ≤ (sput d b s x).1.fuse := by
  rcases sput_form d b s x with ⟨e, h⟩ | ⟨P, R, h | h⟩
  · rw [h]; exact hd
  · rw [h]; exact write_fuse hd P R
  · rw [h]; exact flush_fuse (write_fuse hd P R)
theorem whole_n {x : Nat} (hx : x ≤ 63) : whole (x : Int) = (((4 * x : Nat) : Int), ((4 : Nat) : Int)) := by
  unfold whole
  rw [if_pos (by omega)]
  exact Prod.ext (by simp only; omega) rfl
theorem ext_write {d : Dsk} {N x : Nat} {b : List UInt8} (hl : d.cells.length = N) (hN : 8 + 4 * x + 4 ≤ N) (hx : x ≤ 63) (hb : b.length = 64) : dWrite d (whole (x : Int)).1 (whole (x : Int)).2 b = wseq (4 * x) b d (List.range 4) := by
  rw [whole_n hx]
  unfold dWrite
  rw [if_pos ?_, if_pos (by simp only; omega)]
  · simp only [Int.toNat_natCast]
  · unfold Span.Good secs
    simp only
    omega
/-- what an extent of a disk that works tells -/
theorem ext_read {d : Dsk} {N x : Nat} (hF : Fine d) (hl : d.cells.length = N) (hN : 8 + 4 * x + 4 ≤ N) (hx : x ≤ 63) : dRead d (whole (x : Int)).1 (whole (x : Int)).2 = (cat (fun i => Data.viewAt d (8 + 4 * x + i)) 4, 0) := by
  rw [whole_n hx]
  exact fine_dRead hF (by unfold Span.Good secs; omega)
theorem ext_is {d : Dsk} {x : Nat} {b : List UInt8} (hb : b.length = 64) (h : has_ext d (4 * x) 4 b) : cat (fun i => Data.viewAt d (8 + 4 * x + i)) 4 = b := by
  rw [← cat_secs (b := b) (L := 4) (by omega)]
  exact cat_congr fun i hi => h i hi
/-- the disk that gets: its extent written, its bitmap put -/
theorem alike_start {x : Nat} {c : List UInt8} (hx : x ≤ 3) (hc : c.length = 64) :
    ∃ x1 x2 x3, dWrite (Dsk.new 24) (whole (x : Int)).1 (whole (x : Int)).2 c = (x1, 0) ∧ dput x1 15 = (x2, 0) ∧ x2.flush = (x3, 0) ∧ x1.ops ≤ 4 ∧ x2.ops ≤ 6 ∧ x3.ops ≤ 7 ∧ St x3 24 1 0 0 15 ∧ x3.fuse < 0 ∧ x1.Ok ∧ Fine x1 ∧ has_ext x1 (4 * x) 4 c ∧ x1.cells.length = 24 := by
  have h0 := st_new (N := 24) (by omega)
  have hl0 : (Dsk.new 24).cells.length = 24 := by simp [Dsk.new]
  have hF0 : Fine (Dsk.new 24) := fine_new (by omega) (by omega)
  have hw := ext_write (x := x) (b := c) hl0 (by omega) (by omega) hc
  have hk := wseq_safe (o := 4 * x) (b := c) h0.clean h0.fuse 4 (by rw [hl0]; omega)
  have hfw := fine_dWrite hF0 (by simp [Dsk.new]) (whole (x : Int)).1 (whole (x : Int)).2 c
  have hops := wseq_ops (o := 4 * x) (b := c) (List.range 4) (Dsk.new 24)
  rw [hw] at hfw
  obtain ⟨⟨x1, e1⟩, h1⟩ : ∃ r, wseq (4 * x) c (Dsk.new 24) (List.range 4) = r := ⟨_, rfl⟩
  rw [h1] at hk hfw hops hw
  simp only at hk hfw hops
  have ho1 : x1.ops ≤ 4 := by simpa [Dsk.new] using hops
  rcases hk with ⟨rfl, k⟩ | ⟨_, _, k2, _⟩
  · have hf1 : x1.fuse < 0 := by rw [k.fuse1 (by simp [Dsk.new])]; simp [Dsk.new]
    have hF1 : Fine x1 := by
      rcases hfw with ⟨h, _⟩ | ⟨_, o, L, _, _, _, _, hF, _⟩
      · exact absurd rfl h
      · exact hF
    have hl1 : x1.cells.length = 24 := k.off.len.trans hl0
    have hoff := k.off
    have lz : ∀ b2 s2, b2 + s2 ≤ 8 → latest x1 b2 s2 = latest (Dsk.new 24) b2 s2 := fun b2 s2 h => hoff.latest h0.clean.up k.up (.inl (by omega))
    obtain ⟨n2, q2, l2⟩ := h0.hot
    obtain ⟨n3, q3, l3⟩ := h0.dirty
    have hl6 : latest x1 6 2 = (n3, 0) := by rw [lz 6 2 (by omega)]; exact l3
    have hon : On 6 2 x1.cells.length := on62 hl1 (by omega)
    have hsf := sput_fine (b := 6) (s := 2) 15 k.up hf1 hon (by rw [hl6]; simp only; omega)
    obtain ⟨⟨x2, e2⟩, h2⟩ : ∃ r, sput x1 6 2 15 = r := ⟨_, rfl⟩
    rw [h2] at hsf
    obtain ⟨he2, hf2⟩ := hsf
    simp only at he2 hf2
    subst he2
    have hnow := sput_now (by omega) h2
    have hcl2 := sput_clean h2
    have hd2 : dput x1 15 = (x2, 0) := by
      show rput 6 2 x1 15 = _
      unfold rput
      rw [if_neg (by simp [k.up]), hl6, if_neg (by simp), h2]
    have ho2 : x2.ops ≤ 6 := by
      have h8 := sput_ops2 x1 6 2 15
      rw [h2] at h8
      simp only at h8
      omega
    have hov := hnow.2.2.2.2.1
    have hb2 : boot x2 = 0 := by
      unfold boot
      rw [hov.latest k.up hcl2.up (.inl (by omega)), lz 0 2 (by omega)]
      exact h0.boot
    have hh2 : latest x2 2 4 = (n2, 0) := by rw [hov.latest k.up hcl2.up (.inl (by omega)), lz 2 4 (by omega)]; exact l2
    have hdd : latest x2 6 2 = (n3 + 1, 15) := by rw [hnow.2.2.2.1, hl6]
    have hst2 : St x2 24 1 0 0 15 := ⟨hcl2, hov.len.trans hl1, by omega, (by have h9 := sput_fuse (d := x1) hF1.ok.fuse.1 6 2 15; rw [h2] at h9; exact h9), hb2, ⟨n2, by omega, hh2⟩, ⟨n3 + 1, by omega, hdd⟩⟩
    obtain ⟨⟨x3, e3⟩, h3⟩ : ∃ r, x2.flush = r := ⟨_, rfl⟩
    rcases flush_step hcl2.up with ⟨f0, _⟩ | ⟨_, hfl⟩
    · omega
    · rw [h3] at hfl
      obtain ⟨rfl, rfl⟩ := Prod.mk.inj hfl
      have ho3 : Off x2 ({ x2.allSafe with fuse := if 0 < x2.fuse then x2.fuse - 1 else x2.fuse, ops := x2.ops + 1 } : Dsk) 8 0 := by
        have := (Off.refl x2 8 0).safe hcl2
        exact ⟨this.len, this.off⟩
      have hc3 : Clean ({ x2.allSafe with fuse := if 0 < x2.fuse then x2.fuse - 1 else x2.fuse, ops := x2.ops + 1 } : Dsk) := by
        refine ⟨fun cc hcc => ?_, hcl2.up⟩
        obtain ⟨c', _, rfl⟩ := List.mem_map.1 hcc
        rfl
      have hf3 : ({ x2.allSafe with fuse := if 0 < x2.fuse then x2.fuse - 1 else x2.fuse, ops := x2.ops + 1 } : Dsk).fuse = x2.fuse := by
        show (if 0 < x2.fuse then x2.fuse - 1 else x2.fuse) = x2.fuse
        rw [if_neg (by omega)]
      refine ⟨x1, x2, _, hw, hd2, h3, ho1, ho2, by show x2.ops + 1 ≤ 7; omega, ho3.st hst2 (by omega) hc3 (by rw [hf3]; exact hst2.fuse), by rw [hf3]; exact hf2, hF1.ok, hF1, fun i hi => ?_, hl1⟩
      obtain ⟨c1, hc1⟩ := k.new i hi
      unfold Data.viewAt
      rw [List.getD_eq_getElem?_getD, hc1]
      rfl
  · simp [Dsk.new] at k2
end Go.Proofs.Ytpbcmghfhflkbaa.Slots
