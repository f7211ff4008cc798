/- What a crash leaves of an extent that is put, plainly. Conditions: none. -/
import Derived.Test.YtaldlapnhhhclaaGreatB10
import Derived.Test.YtaldlapnhhhclaaGreatDataPlain
import Derived.Test.YtaldlapnhhhclaaGreatDataEx
set_option linter.unusedVariables false
set_option linter.unusedSimpArgs false
namespace Go.Proofs.YtaldlapnhhhclaaGreat.Slots
open Tw Disk Seal Dsk Go.Proofs.YtaldlapnhhhclaaGreat.Data

theorem write_step {d : Dsk} {P : Int} (hb : d.broken = false) (hP : d.has P) (s : Sec) :
    (d.fuse = 0 ∧ d.write P s = ({ d with broken := true }, 3)) ∨ (d.fuse ≠ 0 ∧ d.write P s = ({ d.put P s with fuse := if 0 < d.fuse then d.fuse - 1 else d.fuse, ops := d.ops + 1 }, 0)) := by
  obtain ⟨cells, fuse, broken, ops⟩ := d
  simp only at hb
  subst hb
  unfold Dsk.write
  rw [if_pos hP]
  by_cases h0 : fuse = 0
  · subst h0
    exact .inl ⟨rfl, by simp [Dsk.spend, Dsk.burn]⟩
  · exact .inr ⟨h0, by simp [Dsk.spend, Dsk.burn, Dsk.put, Dsk.cell, h0]⟩
theorem flush_step {d : Dsk} (hb : d.broken = false) :
    (d.fuse = 0 ∧ d.flush = ({ d with broken := true }, 3)) ∨ (d.fuse ≠ 0 ∧ d.flush = ({ d.allSafe with fuse := if 0 < d.fuse then d.fuse - 1 else d.fuse, ops := d.ops + 1 }, 0)) := by
  obtain ⟨cells, fuse, broken, ops⟩ := d
  simp only at hb
  subst hb
  unfold Dsk.flush
  by_cases h0 : fuse = 0
  · subst h0
    exact .inl ⟨rfl, by simp [Dsk.spend, Dsk.burn]⟩
  · exact .inr ⟨h0, by simp [Dsk.spend, Dsk.burn, Dsk.allSafe, h0]⟩
theorem Clean.at {d : Dsk} (h : Clean d) {i : Nat} {c : Cl} (hc : d.cells[i]? = some c) : c.2 = Option.none := h.none c (List.mem_of_getElem? hc)
/-- a crash keeps what is off the sectors that were written -/
theorem Off.crash {d d' : Dsk} {b s : Int} (hc : Clean d) (h : Off d d' b s) (mask : Nat) : Off d (d'.crash mask) b s := by
  refine ⟨(crash_len d' mask).trans h.len, fun i hi => ?_⟩
  have ho := h.off i hi
  show (keep mask 0 d'.cells)[i]? = _
  cases hci : d.cells[i]? with
  | none =>
    have hl := h.len
    rw [List.getElem?_eq_none_iff] at hci ⊢
    rw [keep_len]
    omega
  | some c =>
    have h1 := hc.at hci
    obtain ⟨c1, c2⟩ := c
    simp only at h1
    subst h1
    exact keep_get mask _ 0 i c1 (ho.trans hci)
theorem Off.safe {d d' : Dsk} {b s : Int} (hc : Clean d) (h : Off d d' b s) : Off d d'.allSafe b s := by
  refine ⟨by simp [Dsk.allSafe, h.len], fun i hi => ?_⟩
  have ho := h.off i hi
  show (d'.cells.map fun c => ((Disk.view c, none) : Cl))[i]? = _
  rw [safe_cells fun c h1 => hc.at (ho.symm.trans h1)]
  exact ho
theorem Off.crash' {d d' : Dsk} {b s : Int} (h : Off d d' b s) (hc' : Clean d') (mask : Nat) : Off d (d'.crash mask) b s :=
  ⟨(crash_len d' mask).trans h.len, fun i hi => by rw [hc'.crash_cells]; exact h.off i hi⟩
structure Wrote (d d' : Dsk) (o k : Nat) (b : List UInt8) : Prop where
  up : d'.broken = false
  off : Off d d' (8 + (o : Int)) (k : Int)
  new : ∀ i : Nat, i < k → ∃ c1, d'.cells[8 + o + i]? = some (c1, some (secAt b i))
  fuse1 : d.fuse < 0 → d'.fuse = d.fuse
  fuse2 : 0 ≤ d.fuse → d'.fuse = d.fuse - k ∧ (k : Int) ≤ d.fuse
theorem off_wider {d d' : Dsk} {b s s' : Int} (h : Off d d' b s) (hs : s ≤ s') : Off d d' b s' := ⟨h.len, fun i hi => h.off i (by omega)⟩
theorem wseq_safe {o : Nat} {b : List UInt8} {d : Dsk} (hc : Clean d) (hf : -1 ≤ d.fuse) : ∀ k : Nat, 8 + o + k ≤ d.cells.length →
    ((wseq o b d (List.range k)).2 = 0 ∧ Wrote d (wseq o b d (List.range k)).1 o k b) ∨ ((wseq o b d (List.range k)).2 = 3 ∧ Off d (wseq o b d (List.range k)).1 (8 + (o : Int)) (k : Int) ∧ 0 ≤ d.fuse ∧ d.fuse < (k : Int))
  | 0, _ => .inl ⟨rfl, hc.up, Off.refl _ _ _, fun i hi => absurd hi (by omega), fun _ => rfl, fun h => ⟨by show d.fuse = _; omega, by omega⟩⟩
  | k + 1, hl => by
    rw [List.range_succ]
    rcases wseq_safe (o := o) (b := b) hc hf k (by omega) with ⟨he, h⟩ | ⟨he, h1, h2, h3⟩
    · obtain ⟨⟨d1, e1⟩, hw⟩ : ∃ r, wseq o b d (List.range k) = r := ⟨_, rfl⟩
      rw [wseq_snoc k he, hw]
      rw [hw] at he h
      simp only at he h ⊢
      have hP : d1.has (8 + (o : Int) + (k : Int)) := (has_iff _ _).2 (by have := h.off.len; omega)
      have hPn : (8 + (o : Int) + (k : Int)).toNat = 8 + o + k := by omega
      rcases write_step h.up hP (secAt b k) with ⟨f0, hs⟩ | ⟨f1, hs⟩
      · rw [hs]
        refine .inr ⟨rfl, off_wider ⟨h.off.len, h.off.off⟩ (by omega), ?_⟩
        by_cases h0 : d.fuse < 0
        · have := h.fuse1 h0; omega
        · have := h.fuse2 (by omega); omega
      · rw [hs]
        have hlk : 8 + o + k < d1.cells.length := by have := h.off.len; omega
        have hcs : ({ d1.put (8 + (o : Int) + (k : Int)) (secAt b k) with fuse := if 0 < d1.fuse then d1.fuse - 1 else d1.fuse, ops := d1.ops + 1 } : Dsk).cells = d1.cells.set (8 + o + k) ((d1.cell (8 + (o : Int) + (k : Int))).1, some (secAt b k)) := by
          show d1.cells.set (8 + (o : Int) + (k : Int)).toNat _ = _
          rw [hPn]
        refine .inl ⟨rfl, h.up, ⟨by rw [hcs, List.length_set]; exact h.off.len, fun i hi => ?_⟩, fun i hi => ?_, fun h0 => ?_, fun h0 => ?_⟩
        · rw [hcs, List.getElem?_set_ne (by omega)]
          exact h.off.off i (by omega)
        · rw [hcs]
          by_cases hik : i = k
          · subst hik
            exact ⟨_, List.getElem?_set_self hlk⟩
          · obtain ⟨c1, h1⟩ := h.new i (by omega)
            exact ⟨c1, by rw [List.getElem?_set_ne (by omega)]; exact h1⟩
        · have := h.fuse1 h0
          show (if 0 < d1.fuse then d1.fuse - 1 else d1.fuse) = _
          rw [if_neg (by omega)]
          omega
        · have := h.fuse2 h0
          show (if 0 < d1.fuse then d1.fuse - 1 else d1.fuse) = _ ∧ _
          rw [if_pos (by omega)]
          omega
    · rw [wseq_fail (by omega)]
      exact .inr ⟨he, off_wider h1 (by omega), h2, by omega⟩
/-- an extent that is put: written, flushed, and then no more out of sync -/
def cput (d : Dsk) (x : Int) (b : List UInt8) : Dsk × Nat :=
  if (dWrite d (whole x).1 (whole x).2 b).2 = 0 then
    if (dWrite d (whole x).1 (whole x).2 b).1.flush.2 = 0 then ((dclear (dWrite d (whole x).1 (whole x).2 b).1.flush.1 x).1, (dclear (dWrite d (whole x).1 (whole x).2 b).1.flush.1 x).2.2)
    else (dWrite d (whole x).1 (whole x).2 b).1.flush
  else dWrite d (whole x).1 (whole x).2 b
theorem Off.st {d d' : Dsk} {N c B H D : Nat} {b s : Int} (h : St d N c B H D) (ho : Off d d' b s) (hb : 8 ≤ b) (hc : Clean d') (hf : -1 ≤ d'.fuse) : St d' N c B H D := by
  obtain ⟨n2, k2, l2⟩ := h.hot
  obtain ⟨n3, k3, l3⟩ := h.dirty
  exact ⟨hc, ho.len.trans h.len, h.n8, hf, by rw [ho.boot h.clean.up hc.up (by omega)]; exact h.boot, ⟨n2, k2, by rw [ho.latest h.clean.up hc.up (.inl (by omega))]; exact l2⟩, ⟨n3, k3, by rw [ho.latest h.clean.up hc.up (.inl (by omega))]; exact l3⟩⟩
/-- the sectors of the area, as they are seen -/
def has_ext (d : Dsk) (o k : Nat) (b : List UInt8) : Prop := ∀ i : Nat, i < k → Data.viewAt d (8 + o + i) = secAt b i
theorem Off.ext {d d' : Dsk} {s t : Int} {o k : Nat} {b : List UInt8} (h : Off d d' s t) (hs : s + t ≤ 8) (he : has_ext d o k b) : has_ext d' o k b := fun i hi => by
  have h1 := h.off (8 + o + i) (by omega)
  rw [← he i hi]
  unfold Data.viewAt
  rw [List.getD_eq_getElem?_getD, List.getD_eq_getElem?_getD, h1]
theorem crash_ext {d : Dsk} (hc : Clean d) {o k : Nat} {b : List UInt8} (he : has_ext d o k b) (mask : Nat) : has_ext (d.crash mask) o k b := fun i hi => by
  rw [← he i hi]
  unfold Data.viewAt
  rw [hc.crash_cells]
theorem dput_off {d d' : Dsk} {N c B H D m e : Nat} (h : St d N c B H D) (hc : c < 4294967290) (hm : m < 18446744073709551616) (hs : dput d m = (d', e)) : (e = 0 → Off d d' 6 2) ∧ ∀ mask, Off d (d'.crash mask) 6 2 := by
  obtain ⟨n3, k3, l3⟩ := h.dirty
  rcases rput_safe h.clean h.fuse (on62 h.len h.n8) l3 (by omega) hm hs with ⟨rfl, k⟩ | ⟨rfl, k⟩
  · exact ⟨fun _ => k.off, fun mask => k.off.crash' k.clean mask⟩
  · exact ⟨fun e => (by cases e), k.off⟩
theorem dclear_off {d d' : Dsk} {N c B H D r e : Nat} (h : St d N c B H D) (hc : c < 4294967290) (x : Int) (hs : dclear d x = (d', r, e)) (mask : Nat) : Off d (d'.crash mask) 6 2 := by
  obtain ⟨n3, k3, l3⟩ := h.dirty
  have hD := (latest_lt d 6 2).2
  unfold dclear at hs
  rw [l3] at hs hD
  simp only at hs hD
  obtain ⟨⟨d1, e1⟩, h1⟩ : ∃ r, Slots.dput d (Bt.without D x) = r := ⟨_, rfl⟩
  rw [h1] at hs
  have h2 := (dput_off h hc (Bt.without_lt hD x) h1).2 mask
  by_cases h0 : e1 = 0
  · subst h0
    simp only [if_pos] at hs
    obtain ⟨rfl, hs⟩ := Prod.mk.inj hs
    exact h2
  · simp only at hs
    rw [if_neg h0] at hs
    obtain ⟨rfl, hs⟩ := Prod.mk.inj hs
    exact h2
/-- a crash within: the extent is out of sync, unless it is as it was told -/
theorem cput_safe {d d' : Dsk} {N c B H D g x : Nat} {b : List UInt8} (h : St d N c B H D) (hc : c < 4294967280) (hf : 0 ≤ d.fuse) (hx : x ≤ 63) (hN : 8 + 4 * x + 4 ≤ N) (hb : b.length = 64) (hs : cput d (x : Int) b = (d', g)) (mask : Nat) :
    ∃ D', St (d'.crash mask) N (c + 1) B H D' ∧ (has_ext (d'.crash mask) (4 * x) 4 b ∨ D' = D) ∧ (g = 0 → has_ext (d'.crash mask) (4 * x) 4 b ∧ D' = Bt.without D x) ∧ (7 ≤ d.fuse → g = 0) := by
  have hw : whole (x : Int) = (((4 * x : Nat) : Int), ((4 : Nat) : Int)) := by
    unfold whole
    rw [if_pos (by omega)]
    exact Prod.ext (by simp only; omega) rfl
  have hlen := h.len
  have hdw : dWrite d (whole (x : Int)).1 (whole (x : Int)).2 b = wseq (4 * x) b d (List.range 4) := by
    rw [hw]
    unfold dWrite
    rw [if_pos ?_, if_pos (by simp only; omega)]
    · simp only [Int.toNat_natCast]
    · unfold Span.Good secs
      simp only
      omega
  unfold cput at hs
  rw [hdw] at hs
  obtain ⟨⟨d1, e1⟩, h1⟩ : ∃ r, wseq (4 * x) b d (List.range 4) = r := ⟨_, rfl⟩
  have hk := wseq_safe (o := 4 * x) (b := b) h.clean h.fuse 4 (by omega)
  rw [h1] at hs hk
  simp only at hs hk
  rcases hk with ⟨rfl, k⟩ | ⟨rfl, k1, k2, k3⟩
  · rw [if_pos rfl] at hs
    have hf2 := k.fuse2 hf
    rcases flush_step k.up with ⟨f0, hfl⟩ | ⟨f1, hfl⟩
    · rw [hfl] at hs
      simp only at hs
      rw [if_neg (by omega)] at hs
      obtain ⟨rfl, rfl⟩ := Prod.mk.inj hs
      have ho := Off.crash h.clean (d' := { d1 with broken := true }) ⟨k.off.len, k.off.off⟩ mask
      exact ⟨D, (ho.st h (by omega) (clean_crash _ mask) (by simp [Dsk.crash])).mono (by omega), .inr rfl, fun e => (by cases e), fun h7 => by omega⟩
    · rw [hfl] at hs
      simp only [if_pos] at hs
      have ho := k.off.safe h.clean
      obtain ⟨d2, hd2⟩ : ∃ d2, d2 = ({ d1.allSafe with fuse := if 0 < d1.fuse then d1.fuse - 1 else d1.fuse, ops := d1.ops + 1 } : Dsk) := ⟨_, rfl⟩
      rw [← hd2] at hs
      have ho2 : Off d d2 (8 + ((4 * x : Nat) : Int)) ((4 : Nat) : Int) := by rw [hd2]; exact ⟨ho.len, ho.off⟩
      have hc2 : Clean d2 := by
        rw [hd2]
        refine ⟨fun cc hcc => ?_, k.up⟩
        obtain ⟨c', _, rfl⟩ := List.mem_map.1 hcc
        rfl
      have hfu : d2.fuse = d.fuse - 5 := by
        rw [hd2]
        show (if 0 < d1.fuse then d1.fuse - 1 else d1.fuse) = _
        rw [if_pos (by omega)]
        omega
      have hst := ho2.st h (by omega) hc2 (by rw [hfu]; omega)
      have hext : has_ext d2 (4 * x) 4 b := fun i hi => by
        obtain ⟨c1, hc1⟩ := k.new i hi
        have h3 : d2.cells[8 + 4 * x + i]? = some (secAt b i, none) := by
          rw [hd2]
          show (d1.cells.map fun c => ((view c, none) : Cl))[8 + 4 * x + i]? = _
          rw [List.getElem?_map, hc1]
          rfl
        unfold Data.viewAt
        rw [List.getD_eq_getElem?_getD, h3]
        rfl
      obtain ⟨⟨d3, r3, e3⟩, h3⟩ : ∃ r, dclear d2 (x : Int) = r := ⟨_, rfl⟩
      have hoff := dclear_off hst (by omega) (x : Int) h3 mask
      have hex := hoff.ext (by omega) hext
      rw [h3] at hs
      obtain ⟨rfl, rfl⟩ := Prod.mk.inj hs
      rcases hst.clear (by omega) (x : Int) h3 with ⟨rfl, _, s3, _, _⟩ | ⟨rfl, _, f3, s3⟩
      · exact ⟨_, s3.crash mask, .inl hex, fun _ => ⟨hex, rfl⟩, fun _ => rfl⟩
      · obtain ⟨D', hD, s4⟩ := s3 mask
        exact ⟨D', s4, .inl hex, fun e => (by cases e), fun h7 => by omega⟩
  · rw [if_neg (by omega)] at hs
    obtain ⟨rfl, rfl⟩ := Prod.mk.inj hs
    have ho := k1.crash h.clean mask
    exact ⟨D, (ho.st h (by omega) (clean_crash _ mask) (by simp [Dsk.crash])).mono (by omega), .inr rfl, fun e => (by cases e), fun h7 => by omega⟩
end Go.Proofs.YtaldlapnhhhclaaGreat.Slots
