/- The reference's disk in memory; contracts of in, burns, SetFuse. Conditions: at most 10^9 operations. -/
import Derived.Test.YtpbcmghfhflkbaaDisk6
import Derived.Test.YtpbcmghfhflkbaaDskCrash2
set_option linter.unusedVariables false
set_option linter.unusedSimpArgs false
namespace Go.Proofs.Ytpbcmghfhflkbaa.Disk
open Go.RowKit Tw
set_option maxHeartbeats 2000000
set_option maxRecDepth 100000

section
variable {α : Type} {k : Nat} {F : α → List Value}
theorem flat_len : ∀ {l : List α}, (∀ a ∈ l, (F a).length = k) → (l.flatMap F).length = l.length * k
  | [], _ => by simp
  | a :: l, h => by
    rw [List.flatMap_cons, List.length_append, h a List.mem_cons_self, flat_len (l := l) fun b hb => h b (List.mem_cons_of_mem _ hb), List.length_cons, Nat.succ_mul]
    omega
theorem flat_get : ∀ {l : List α} {i j : Nat} {a : α}, (∀ a ∈ l, (F a).length = k) → l[i]? = some a → j < k → (l.flatMap F)[i * k + j]? = (F a)[j]?
  | [], i, j, a, _, h, _ => by simp at h
  | b :: l, 0, j, a, hl, h, hj => by
    simp at h
    subst h
    have := hl b List.mem_cons_self
    rw [List.flatMap_cons, List.getElem?_append_left (by omega), Nat.zero_mul, Nat.zero_add]
  | b :: l, i + 1, j, a, hl, h, hj => by
    have hb := hl b List.mem_cons_self
    simp at h
    have ih := flat_get (fun c hc => hl c (List.mem_cons_of_mem _ hc)) h hj
    rw [List.flatMap_cons, List.getElem?_append_right (by rw [hb, Nat.succ_mul]; omega), hb, ← ih]
    congr 1
    rw [Nat.succ_mul]
    omega
theorem splice_left {a r : List Value} {o : Nat} {cs : List Value} (h : o + cs.length ≤ a.length) : splice (a ++ r) o cs = splice a o cs ++ r := by
  unfold splice
  rw [List.take_append_of_le_length (by omega), List.drop_append_of_le_length h]
  simp
theorem splice_right {a r : List Value} {o : Nat} {cs : List Value} : splice (a ++ r) (a.length + o) cs = a ++ splice r o cs := by
  unfold splice
  have h1 : (a ++ r).take (a.length + o) = a ++ r.take o := by
    rw [List.take_append, List.take_of_length_le (by omega)]
    congr 2
    omega
  have h2 : (a ++ r).drop (a.length + o + cs.length) = r.drop (o + cs.length) := by
    rw [List.drop_append, List.drop_eq_nil_of_le (by omega), List.nil_append]
    congr 1
    omega
  rw [h1, h2]
  simp
/-- one element changed in part -/
theorem flat_set : ∀ {l : List α} {i o : Nat} {a b : α} {cs : List Value}, (∀ a ∈ l, (F a).length = k) → l[i]? = some a → o + cs.length ≤ k → splice (F a) o cs = F b → splice (l.flatMap F) (i * k + o) cs = (l.set i b).flatMap F
  | [], i, o, a, b, cs, _, h, _, _ => by simp at h
  | x :: l, 0, o, a, b, cs, hl, h, ho, hs => by
    simp at h
    subst h
    have hx := hl x List.mem_cons_self
    rw [List.flatMap_cons, List.set_cons_zero, List.flatMap_cons, Nat.zero_mul, Nat.zero_add, splice_left (by omega), hs]
  | x :: l, i + 1, o, a, b, cs, hl, h, ho, hs => by
    have hx := hl x List.mem_cons_self
    simp at h
    have ih := flat_set (fun c hc => hl c (List.mem_cons_of_mem _ hc)) h ho hs
    rw [List.flatMap_cons, List.set_cons_succ, List.flatMap_cons, show (i + 1) * k + o = (F x).length + (i * k + o) by rw [hx, Nat.succ_mul]; omega, splice_right, ih]
end
/-- a cell of the reference's -/
def rcell (c : Cl) : List Value := bytesV c.1 ++ (bytesV (c.2.getD zs) ++ [.bool c.2.isSome])
def rrow (l : List Cl) : List Value := l.flatMap rcell
/-- as cells may be -/
def CellOk (c : Cl) : Prop := c.1.length = 16 ∧ ∀ s, c.2 = some s → s.length = 16
theorem rcell_len {c : Cl} (h : CellOk c) : (rcell c).length = 33 := by
  unfold rcell
  have h2 : (c.2.getD zs).length = 16 := by
    cases hc : c.2 with
    | none => exact zs_len
    | some s => exact h.2 s hc
  simp [bytesV_length, h.1, h2]
theorem Dsk.Ok.cell_ok {d : Dsk} (h : d.Ok) : ∀ c ∈ d.cells, CellOk c := fun c hc => ⟨h.safe c hc, h.fresh c hc⟩
/-- the reference's disk at block q, its cells at block r -/
structure Rk (w : World) (q r c : Nat) (d : Dsk) : Prop where
  ok : d.Ok
  blk : w.heap[q]? = some (.cells #[.slice (some ⟨r, 0, none⟩) d.cells.length c, .int .i64 d.fuse, .bool d.broken, .int .i64 (d.ops : Int)] 51 (0, 0))
  own : Tw.Own w 0 180 33 (some ⟨r, 0, none⟩) d.cells.length c (rrow d.cells)
  ne : q ≠ r
section
variable {w w' : World} {q r c : Nat} {d : Dsk}
theorem Rk.lts (h : Rk w q r c d) : q < w.heap.size ∧ r < w.heap.size := ⟨heap_lt h.blk, (h.own.at0 _ rfl).2⟩
theorem Rk.fr {S : Nat → Prop} (h : Rk w q r c d) (hf : Fr S w w') (h1 : ¬ S q) (h2 : ¬ S r) : Rk w' q r c d :=
  ⟨h.ok, heap_fr h.blk hf h1, h.own.fr hf (fun ad e => by injection e with e; subst e; exact h2), h.ne⟩
theorem Rk.bel (h : Rk w q r c d) (hb : Below w.heap.size w w') : Rk w' q r c d := h.fr (S := fun _ => False) (Fr.of_bel hb) (fun e => e) (fun e => e)
theorem Rk.cells (h : Rk w q r c d) : w.cell? ⟨q, 0, none⟩ = some (.slice (some ⟨r, 0, none⟩) d.cells.length c) ∧ w.cell? ⟨q, 1, none⟩ = some (.int .i64 d.fuse) ∧ w.cell? ⟨q, 2, none⟩ = some (.bool d.broken) ∧ w.cell? ⟨q, 3, none⟩ = some (.int .i64 (d.ops : Int)) := by
  simp [World.cell?, h.blk]
theorem Rk.frozen (h : Rk w q r c d) (i : Nat) : w.frozen? ⟨q, i, none⟩ = false := by simp [World.frozen?, h.blk]
/-- the disk's struct written anew -/
theorem Rk.reset (h : Rk w q r c d) (hf : Fr (fun k => k = q) w w') {f : Int} {b : Bool} {o : Nat} (hok : ({ d with fuse := f, broken := b, ops := o } : Dsk).Ok)
    (hb : w'.heap[q]? = some (.cells #[.slice (some ⟨r, 0, none⟩) d.cells.length c, .int .i64 f, .bool b, .int .i64 (o : Int)] 51 (0, 0))) : Rk w' q r c { d with fuse := f, broken := b, ops := o } :=
  ⟨hok, hb, h.own.fr hf (fun ad e => by injection e with e; subst e; exact fun e => h.ne e.symm), h.ne⟩
/-- the cells written anew -/
theorem Rk.recell (h : Rk w q r c d) (hb : w'.heap[q]? = w.heap[q]?) {l : List Cl} (hl : l.length = d.cells.length) (hok : ({ d with cells := l } : Dsk).Ok) (ho : Tw.Own w' 0 180 33 (some ⟨r, 0, none⟩) d.cells.length c (rrow l)) : Rk w' q r c { d with cells := l } :=
  ⟨hok, by rw [hb, h.blk, hl], by rw [hl]; exact ho, h.ne⟩
/-- a cell's parts, as they lie -/
theorem Rk.part (h : Rk w q r c d) {n : Nat} (hn : n < d.cells.length) : (∀ j v, (bytesV (d.cell (n : Int)).1)[j]? = some v → w.cell? ((⟨r, n * 33, none⟩ : Addr).add j) = some v) ∧ (∀ j v, (bytesV ((d.cell (n : Int)).2.getD zs))[j]? = some v → w.cell? ((⟨r, n * 33 + 16, none⟩ : Addr).add j) = some v) ∧ w.cell? ⟨r, n * 33 + 32, none⟩ = some (.bool (d.cell (n : Int)).2.isSome) := by
  have hh : d.has (n : Int) := (has_iff d _).2 (by omega)
  have hg : d.cells[n]? = some (d.cell (n : Int)) := by
    have := cell_get hh
    rwa [Int.toNat_natCast] at this
  have hm := h.ok.cell_ok _ (cell_mem hh)
  have key : ∀ j v, (rcell (d.cell (n : Int)))[j]? = some v → w.cell? ⟨r, n * 33 + j, none⟩ = some v := fun j v hv => by
    have hj := (List.getElem?_eq_some_iff.1 hv).1
    rw [rcell_len hm] at hj
    have h1 := flat_get (F := rcell) (k := 33) (fun c hc => rcell_len (h.ok.cell_ok c hc)) hg hj
    have h2 := h.own.rd.cell _ rfl (n * 33 + j) v (by rw [← hv]; exact h1)
    rw [Addr.add_mid, Nat.zero_add] at h2
    exact h2
  have l1 : (bytesV (d.cell (n : Int)).1).length = 16 := by rw [bytesV_length]; exact hm.1
  have l2 : (bytesV ((d.cell (n : Int)).2.getD zs)).length = 16 := by
    rw [bytesV_length]
    cases hc : (d.cell (n : Int)).2 with
    | none => exact zs_len
    | some s => exact hm.2 s hc
  refine ⟨fun j v hv => ?_, fun j v hv => ?_, ?_⟩
  · rw [Addr.add_mid]
    refine key j v ?_
    unfold rcell
    rw [List.getElem?_append_left (List.getElem?_eq_some_iff.1 hv).1, hv]
  · rw [Addr.add_mid, show n * 33 + 16 + j = n * 33 + (16 + j) by omega]
    refine key (16 + j) v ?_
    unfold rcell
    rw [List.getElem?_append_right (by omega), l1, show 16 + j - 16 = j by omega, List.getElem?_append_left (List.getElem?_eq_some_iff.1 hv).1, hv]
  · refine key 32 _ ?_
    unfold rcell
    rw [List.getElem?_append_right (by omega), l1, List.getElem?_append_right (by omega), l2]
    rfl
theorem r_in (h : Rk w q r c d) (x : Int) : Calls Try.prog 104 #[.pointer (some ⟨q, 0, none⟩), .int .i64 x] w fun e w' => e = .returned (.bool (decide (d.has x))) ∧ w = w' := by
  obtain ⟨k0, k1, k2, k3⟩ := h.cells
  clear h
  by_cases h0 : 0 ≤ x
  · have hd : decide (d.has x) = decide (x < (d.cells.length : Int)) := by
      rw [Bool.eq_iff_iff, decide_eq_true_eq, decide_eq_true_eq, has_iff]; omega
    rw [hd]
    clear hd
    go_enter Try.func104, Try.ntmps104
    go_wp2_with fail
    go_ret
    exact ⟨rfl, rfl⟩
  · have hd : decide (d.has x) = false := by rw [decide_eq_false_iff_not, has_iff]; omega
    rw [hd]
    clear hd
    have h1 : decide (0 ≤ x) = false := by simpa using h0
    go_enter Try.func104, Try.ntmps104
    go_wp2_with fail
    go_ret
    exact ⟨rfl, rfl⟩
theorem r_burns (h : Rk w q r c d) (ho : d.ops < 1000000000) : Calls Try.prog 105 #[.pointer (some ⟨q, 0, none⟩)] w fun e w' => e = .returned (.bool (decide (d.spend.2 = 3))) ∧ Rk w' q r c d.spend.1 ∧ Fr (fun k => k = q) w w' := by
  obtain ⟨k0, k1, k2, k3⟩ := h.cells
  have q1 := h.frozen 1
  have q2 := h.frozen 2
  have q3 := h.frozen 3
  have hsp := spend_ok h.ok ho
  have hfu := h.ok.fuse
  have H := Lib.hid h
  have Hsp := Lib.hid hsp
  clear h hsp
  by_cases hb : d.broken = true
  · have hs : d.spend = ({ d with fuse := d.fuse, broken := true, ops := d.ops }, 3) := by
      unfold Dsk.spend Dsk.burn
      by_cases h0 : d.fuse = 0
      · rw [if_pos h0, if_pos rfl]
      · rw [if_neg h0, if_pos hb, ← hb]
    have Hs := Lib.hid hs
    have Hb := Lib.hid hb
    rw [hb] at k2
    clear hs hb
    go_enter Try.func105, Try.ntmps105
    go_wp2_with fail
    go_ret
    have hs := Hs.out
    have hok := Hsp.out
    rw [hs] at hok ⊢
    refine ⟨rfl, ?_, Fr.refl _ _⟩
    exact H.out.reset (Fr.refl _ _) hok (by rw [H.out.blk, Hb.out])
  · have hb : d.broken = false := by simpa using hb
    rw [hb] at k2
    by_cases h0 : d.fuse = 0
    · have hs : d.spend = ({ d with fuse := d.fuse, broken := true, ops := d.ops }, 3) := by
        unfold Dsk.spend Dsk.burn
        rw [if_pos h0, if_pos rfl]
      have Hs := Lib.hid hs
      have hz : (d.fuse == 0) = true := by simpa using h0
      have Hb := Lib.hid hb
      clear hs hb h0
      go_enter Try.func105, Try.ntmps105
      go_wp2_with fail
      go_ret
      have hs := Hs.out
      have hok := Hsp.out
      rw [hs] at hok ⊢
      refine ⟨rfl, H.out.reset (fr_set w q 2 _) hok ?_, fr_set w q 2 _⟩
      rw [heap_setCell_same _ q 2 _ _ _ H.out.blk]
      simp
    · have hz : (d.fuse == 0) = false := by simpa using h0
      by_cases hp : 0 < d.fuse
      · have hs : d.spend = ({ d with fuse := d.fuse - 1, broken := false, ops := d.ops + 1 }, 0) := by
          unfold Dsk.spend Dsk.burn
          rw [if_neg h0, hb, if_neg (by simp), if_pos hp]
        have Hs := Lib.hid hs
        have Hb := Lib.hid hb
        clear hs h0 hb
        go_enter Try.func105, Try.ntmps105
        go_wp2_with fail
        go_ret
        have hs := Hs.out
        have hok := Hsp.out
        rw [hs] at hok ⊢
        have hfr : Fr (fun k => k = q) w ((w.setCell ⟨q, 1, none⟩ (.int .i64 (d.fuse - 1))).setCell ⟨q, 3, none⟩ (.int .i64 ((d.ops : Int) + 1))) := (fr_set w q 1 _).trans (fr_set _ q 3 _) (fun _ _ e => e)
        refine ⟨rfl, H.out.reset hfr hok ?_, hfr⟩
        rw [heap_setCell_same _ q 3 _ _ _ (heap_setCell_same _ q 1 _ _ _ H.out.blk)]
        simp [Hb.out]
      · have hs : d.spend = ({ d with fuse := d.fuse, broken := false, ops := d.ops + 1 }, 0) := by
          unfold Dsk.spend Dsk.burn
          rw [if_neg h0, hb, if_neg (by simp), if_neg hp]
        have Hs := Lib.hid hs
        have hp2 : decide (0 < d.fuse) = false := by simpa using hp
        have Hb := Lib.hid hb
        clear hs h0 hb
        go_enter Try.func105, Try.ntmps105
        go_wp2_with fail
        go_ret
        have hs := Hs.out
        have hok := Hsp.out
        rw [hs] at hok ⊢
        have hfr : Fr (fun k => k = q) w (w.setCell ⟨q, 3, none⟩ (.int .i64 ((d.ops : Int) + 1))) := fr_set w q 3 _
        refine ⟨rfl, H.out.reset hfr hok ?_, hfr⟩
        rw [heap_setCell_same _ q 3 _ _ _ H.out.blk]
        simp [Hb.out]
theorem r_SetFuse (h : Rk w q r c d) (k : Int) (hk : -9223372036854775808 ≤ k ∧ k ≤ 9223372036854775807) : Calls Try.prog 23 #[.pointer (some ⟨q, 0, none⟩), .int .i64 k] w fun e' w' => e' = .returned (.tuple #[]) ∧ Rk w' q r c (d.setFuse k) ∧ Fr (fun k => k = q) w w' := by
  obtain ⟨k0, k1, k2, k3⟩ := h.cells
  have q1 := h.frozen 1
  have H := Lib.hid h
  have hok : (d.setFuse k).Ok := ⟨h.ok.n, h.ok.safe, h.ok.fresh, by simp only [Dsk.setFuse]; omega, h.ok.ops⟩
  have Hok := Lib.hid hok
  clear h hok
  by_cases hk1 : k < 0
  · have hm2 : d.setFuse k = { d with fuse := -1, broken := d.broken, ops := d.ops } := by unfold Dsk.setFuse; rw [show max k (-1) = -1 by omega]
    have Hm2 := Lib.hid hm2
    clear hm2
    go_enter Try.func23, Try.ntmps23
    go_wp2_with fail
    refine bodyPost_end (results_none rfl _ _ _) rfl ?_
    have hok := Hok.out
    rw [Hm2.out] at hok ⊢
    have hfr : Fr (fun k => k = q) w ((w.setCell ⟨q, 1, none⟩ (.int .i64 k)).setCell ⟨q, 1, none⟩ (.int .i64 (-1))) := (fr_set w q 1 _).trans (fr_set _ q 1 _) (fun _ _ e => e)
    refine ⟨rfl, H.out.reset hfr hok ?_, hfr⟩
    rw [heap_setCell_same _ q 1 _ _ _ (heap_setCell_same _ q 1 _ _ _ H.out.blk)]
    simp
  · have hm2 : d.setFuse k = { d with fuse := k, broken := d.broken, ops := d.ops } := by unfold Dsk.setFuse; rw [show max k (-1) = k by omega]
    have Hm2 := Lib.hid hm2
    clear hm2
    go_enter Try.func23, Try.ntmps23
    go_wp2_with fail
    refine bodyPost_end (results_none rfl _ _ _) rfl ?_
    have hok := Hok.out
    rw [Hm2.out] at hok ⊢
    refine ⟨rfl, H.out.reset (fr_set w q 1 _) hok ?_, fr_set w q 1 _⟩
    rw [heap_setCell_same _ q 1 _ _ _ H.out.blk]
    simp
end
end Go.Proofs.Ytpbcmghfhflkbaa.Disk
