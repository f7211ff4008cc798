/- Texts joined: what the disks, the rings and their reference do. Conditions: none. -/
import Derived.Test.YtaldlapnhhhclaaGreatB4
import Derived.Test.YtaldlapnhhhclaaGreatB3
import Derived.IntWalk
/- Contracts of the package disk: Durable, Fuse; sectors written out. Conditions: none. -/
set_option linter.unusedVariables false
set_option linter.unusedSimpArgs false
namespace Go.Proofs.YtaldlapnhhhclaaGreat.Disk
open Go.RowKit Tw Go.Maps Go.ChangeMaps
set_option maxHeartbeats 4000000
set_option maxRecDepth 100000

section
variable {w w' : World} {p g mb c : Nat} {d : Dsk}
theorem c_FuseD (h : Dk w p g mb c d) (k : Int) (hk : -9223372036854775808 ≤ k ∧ k ≤ 9223372036854775807) : Calls Tryz.prog 23 #[.pointer (some ⟨p, 0, none⟩), .int .i64 k] w fun e' w' => e' = .returned (.tuple #[]) ∧ Dk w' p g mb c (d.setFuse k) ∧ Fr (fun k => k = p) w w' := by
  obtain ⟨k0, k1, k2, k3, k4⟩ := h.cells
  have q2 := h.frozen 2
  have H := Lib.hid h
  have hok : (d.setFuse k).Ok := ⟨h.ok.n, h.ok.safe, h.ok.fresh, by simp only [Dsk.setFuse]; omega, h.ok.ops⟩
  have Hok := Lib.hid hok
  clear h hok
  by_cases hk1 : -1 ≤ k
  · have hm : max k (-1) = k := by omega
    have hm2 : d.setFuse k = { d with fuse := k, broken := d.broken, ops := d.ops } := by unfold Dsk.setFuse; rw [hm]
    have Hm2 := Lib.hid hm2
    clear hm2
    go_enter Tryz.func23, Tryz.ntmps23
    go_wp2_with (first
      | (go_at_call 62
         (with_reducible refine (c_Made H.out).mono ?_)
         rintro e w' ⟨rfl, rfl⟩))
    refine bodyPost_end (results_none rfl _ _ _) rfl ?_
    have hok := Hok.out
    rw [Hm2.out] at hok ⊢
    refine ⟨rfl, H.out.reset (fr_set w p 2 _) (Nat.le_refl _) hok ?_, fr_set w p 2 _⟩
    rw [heap_setCell_same _ p 2 _ _ _ H.out.blk]
    simp
  · have hm : max k (-1) = -1 := by omega
    have hm2 : d.setFuse k = { d with fuse := -1, broken := d.broken, ops := d.ops } := by unfold Dsk.setFuse; rw [hm]
    have Hm2 := Lib.hid hm2
    clear hm2
    go_enter Tryz.func23, Tryz.ntmps23
    go_wp2_with (first
      | (go_at_call 62
         (with_reducible refine (c_Made H.out).mono ?_)
         rintro e w' ⟨rfl, rfl⟩))
    refine bodyPost_end (results_none rfl _ _ _) rfl ?_
    have hok := Hok.out
    rw [Hm2.out] at hok ⊢
    refine ⟨rfl, H.out.reset (fr_set w p 2 _) (Nat.le_refl _) hok ?_, fr_set w p 2 _⟩
    rw [heap_setCell_same _ p 2 _ _ _ H.out.blk]
    simp
/-- a sector's durable bytes, as they lie -/
theorem Dk.safe (h : Dk w p g mb c d) {n : Nat} (hn : n < d.cells.length) (j : Nat) (v : Value) (hv : (bytesV (d.cell (n : Int)).1)[j]? = some v) : w.cell? ((⟨g, n * 16, none⟩ : Addr).add j) = some v := by
  have hh : d.has (n : Int) := (has_iff d _).2 (by omega)
  have hj := (List.getElem?_eq_some_iff.1 hv).1
  rw [bytesV_length, h.ok.safe _ (cell_mem hh)] at hj
  have h1 : (bytesV (durable d))[n * 16 + j]? = some v := by
    have h2 := durable_get h.ok hh hj
    rw [Int.toNat_natCast] at h2
    simp only [bytesV, List.getElem?_map] at hv ⊢
    rw [h2, hv]
  have h3 := h.own.rd.cell _ rfl _ _ h1
  rw [Addr.add_mid, Nat.zero_add] at h3
  rw [Addr.add_mid]
  exact h3
theorem durableAt_len (h : d.Ok) (x : Int) : (d.durableAt x).length = 16 := by
  unfold Dsk.durableAt
  split
  · rename_i hh
    exact h.safe _ (cell_mem hh)
  · exact zs_len
def Z16 : Array Value := #[.int .u8 0, .int .u8 0, .int .u8 0, .int .u8 0, .int .u8 0, .int .u8 0, .int .u8 0, .int .u8 0, .int .u8 0, .int .u8 0, .int .u8 0, .int .u8 0, .int .u8 0, .int .u8 0, .int .u8 0, .int .u8 0]
/-- a sector whose first byte is b -/
def sec1 (b : UInt8) : Sec := b :: List.replicate 15 0
def secVal (z : Int) : Value := .agg #[.int .u8 z, .int .u8 0, .int .u8 0, .int .u8 0, .int .u8 0, .int .u8 0, .int .u8 0, .int .u8 0, .int .u8 0, .int .u8 0, .int .u8 0, .int .u8 0, .int .u8 0, .int .u8 0, .int .u8 0, .int .u8 0]
theorem sec1_val (b : UInt8) (z : Int) (hz : z = (b.toNat : Int)) : secV (sec1 b) = secVal z := by
  subst hz
  simp [secV, sec1, secVal, bytesV, List.replicate]
theorem sec1_len (b : UInt8) : (sec1 b).length = 16 := by simp [sec1]
theorem c_dWrite1 (h : Dk w p g mb c d) (ho : d.ops < 1000000000) (x : Int) (hx : -9223372036854775808 ≤ x ∧ x ≤ 9223372036854775807) (b : UInt8) (z : Int) (hz : z = (b.toNat : Int)) (d' : Dsk) (e : Nat) (hd : d.write x (sec1 b) = (d', e)) :
    Calls Tryz.prog 128 #[.pointer (some ⟨p, 0, none⟩), .int .i64 x, secVal z] w fun e' w' => e' = .returned (.int .i64 (e : Int)) ∧ Dk w' p g mb c d' ∧ Fr (fun k => k = p ∨ k = g ∨ k = mb) w w' := by
  have h1 := c_dWrite h ho x hx (sec1 b) (sec1_len b)
  rw [hd, sec1_val b z hz] at h1
  exact h1.mono fun e' w' ⟨q1, q2, q3⟩ => ⟨q1, q2, q3.mono (fun k _ e => by rcases e with e | e; exact .inl e; exact .inr (.inr e))⟩
end
end Go.Proofs.YtaldlapnhhhclaaGreat.Disk
/- The reference's disk in memory; contracts of in, burns, SetFuse. Conditions: at most 10^9 operations. -/
namespace Go.Proofs.YtaldlapnhhhclaaGreat.Disk
open Go.RowKit Tw
set_option maxHeartbeats 2000000
set_option maxRecDepth 100000

section
variable {α : Type} {k : Nat} {F : α → List Value}
theorem flat_len : ∀ {l : List α}, (∀ a ∈ l, (F a).length = k) → (l.flatMap F).length = l.length * k
  | [], _ => by simp
  | a :: l, h => by
    rw [List.flatMap_cons, List.length_append, h a List.mem_cons_self, flat_len (l := l) fun b hb => h b (List.mem_cons_of_mem _ hb), List.length_cons, Nat.succ_mul]
    omega
theorem flat_get : ∀ {l : List α} {i j : Nat} {a : α}, (∀ a ∈ l, (F a).length = k) → l[i]? = some a → j < k → (l.flatMap F)[i * k + j]? = (F a)[j]?
  | [], i, j, a, _, h, _ => by simp at h
  | b :: l, 0, j, a, hl, h, hj => by
    simp at h
    subst h
    have := hl b List.mem_cons_self
    rw [List.flatMap_cons, List.getElem?_append_left (by omega), Nat.zero_mul, Nat.zero_add]
  | b :: l, i + 1, j, a, hl, h, hj => by
    have hb := hl b List.mem_cons_self
    simp at h
    have ih := flat_get (fun c hc => hl c (List.mem_cons_of_mem _ hc)) h hj
    rw [List.flatMap_cons, List.getElem?_append_right (by rw [hb, Nat.succ_mul]; omega), hb, ← ih]
    congr 1
    rw [Nat.succ_mul]
    omega
theorem splice_left {a r : List Value} {o : Nat} {cs : List Value} (h : o + cs.length ≤ a.length) : splice (a ++ r) o cs = splice a o cs ++ r := by
  unfold splice
  rw [List.take_append_of_le_length (by omega), List.drop_append_of_le_length h]
  simp
theorem splice_right {a r : List Value} {o : Nat} {cs : List Value} : splice (a ++ r) (a.length + o) cs = a ++ splice r o cs := by
  unfold splice
  have h1 : (a ++ r).take (a.length + o) = a ++ r.take o := by
    rw [List.take_append, List.take_of_length_le (by omega)]
    congr 2
    omega
  have h2 : (a ++ r).drop (a.length + o + cs.length) = r.drop (o + cs.length) := by
    rw [List.drop_append, List.drop_eq_nil_of_le (by omega), List.nil_append]
    congr 1
    omega
  rw [h1, h2]
  simp
/-- one element changed in part -/
theorem flat_set : ∀ {l : List α} {i o : Nat} {a b : α} {cs : List Value}, (∀ a ∈ l, (F a).length = k) → l[i]? = some a → o + cs.length ≤ k → splice (F a) o cs = F b → splice (l.flatMap F) (i * k + o) cs = (l.set i b).flatMap F
  | [], i, o, a, b, cs, _, h, _, _ => by simp at h
  | x :: l, 0, o, a, b, cs, hl, h, ho, hs => by
    simp at h
    subst h
    have hx := hl x List.mem_cons_self
    rw [List.flatMap_cons, List.set_cons_zero, List.flatMap_cons, Nat.zero_mul, Nat.zero_add, splice_left (by omega), hs]
  | x :: l, i + 1, o, a, b, cs, hl, h, ho, hs => by
    have hx := hl x List.mem_cons_self
    simp at h
    have ih := flat_set (fun c hc => hl c (List.mem_cons_of_mem _ hc)) h ho hs
    rw [List.flatMap_cons, List.set_cons_succ, List.flatMap_cons, show (i + 1) * k + o = (F x).length + (i * k + o) by rw [hx, Nat.succ_mul]; omega, splice_right, ih]
end
/-- a cell of the reference's -/
def rcell (c : Cl) : List Value := bytesV c.1 ++ (bytesV (c.2.getD zs) ++ [.bool c.2.isSome])
def rrow (l : List Cl) : List Value := l.flatMap rcell
/-- as cells may be -/
def CellOk (c : Cl) : Prop := c.1.length = 16 ∧ ∀ s, c.2 = some s → s.length = 16
theorem rcell_len {c : Cl} (h : CellOk c) : (rcell c).length = 33 := by
  unfold rcell
  have h2 : (c.2.getD zs).length = 16 := by
    cases hc : c.2 with
    | none => exact zs_len
    | some s => exact h.2 s hc
  simp [bytesV_length, h.1, h2]
theorem Dsk.Ok.cell_ok {d : Dsk} (h : d.Ok) : ∀ c ∈ d.cells, CellOk c := fun c hc => ⟨h.safe c hc, h.fresh c hc⟩
/-- the reference's disk at block q, its cells at block r -/
structure Rk (w : World) (q r c : Nat) (d : Dsk) : Prop where
  ok : d.Ok
  blk : w.heap[q]? = some (.cells #[.slice (some ⟨r, 0, none⟩) d.cells.length c, .int .i64 d.fuse, .bool d.broken, .int .i64 (d.ops : Int)] 62 (0, 0))
  own : Tw.Own w 0 129 33 (some ⟨r, 0, none⟩) d.cells.length c (rrow d.cells)
  ne : q ≠ r
section
variable {w w' : World} {q r c : Nat} {d : Dsk}
theorem Rk.lts (h : Rk w q r c d) : q < w.heap.size ∧ r < w.heap.size := ⟨heap_lt h.blk, (h.own.at0 _ rfl).2⟩
theorem Rk.fr {S : Nat → Prop} (h : Rk w q r c d) (hf : Fr S w w') (h1 : ¬ S q) (h2 : ¬ S r) : Rk w' q r c d :=
  ⟨h.ok, heap_fr h.blk hf h1, h.own.fr hf (fun ad e => by injection e with e; subst e; exact h2), h.ne⟩
theorem Rk.bel (h : Rk w q r c d) (hb : Below w.heap.size w w') : Rk w' q r c d := h.fr (S := fun _ => False) (Fr.of_bel hb) (fun e => e) (fun e => e)
theorem Rk.cells (h : Rk w q r c d) : w.cell? ⟨q, 0, none⟩ = some (.slice (some ⟨r, 0, none⟩) d.cells.length c) ∧ w.cell? ⟨q, 1, none⟩ = some (.int .i64 d.fuse) ∧ w.cell? ⟨q, 2, none⟩ = some (.bool d.broken) ∧ w.cell? ⟨q, 3, none⟩ = some (.int .i64 (d.ops : Int)) := by
  simp [World.cell?, h.blk]
theorem Rk.frozen (h : Rk w q r c d) (i : Nat) : w.frozen? ⟨q, i, none⟩ = false := by simp [World.frozen?, h.blk]
/-- the disk's struct written anew -/
theorem Rk.reset (h : Rk w q r c d) (hf : Fr (fun k => k = q) w w') {f : Int} {b : Bool} {o : Nat} (hok : ({ d with fuse := f, broken := b, ops := o } : Dsk).Ok)
    (hb : w'.heap[q]? = some (.cells #[.slice (some ⟨r, 0, none⟩) d.cells.length c, .int .i64 f, .bool b, .int .i64 (o : Int)] 62 (0, 0))) : Rk w' q r c { d with fuse := f, broken := b, ops := o } :=
  ⟨hok, hb, h.own.fr hf (fun ad e => by injection e with e; subst e; exact fun e => h.ne e.symm), h.ne⟩
/-- the cells written anew -/
theorem Rk.recell (h : Rk w q r c d) (hb : w'.heap[q]? = w.heap[q]?) {l : List Cl} (hl : l.length = d.cells.length) (hok : ({ d with cells := l } : Dsk).Ok) (ho : Tw.Own w' 0 129 33 (some ⟨r, 0, none⟩) d.cells.length c (rrow l)) : Rk w' q r c { d with cells := l } :=
  ⟨hok, by rw [hb, h.blk, hl], by rw [hl]; exact ho, h.ne⟩
/-- a cell's parts, as they lie -/
theorem Rk.part (h : Rk w q r c d) {n : Nat} (hn : n < d.cells.length) : (∀ j v, (bytesV (d.cell (n : Int)).1)[j]? = some v → w.cell? ((⟨r, n * 33, none⟩ : Addr).add j) = some v) ∧ (∀ j v, (bytesV ((d.cell (n : Int)).2.getD zs))[j]? = some v → w.cell? ((⟨r, n * 33 + 16, none⟩ : Addr).add j) = some v) ∧ w.cell? ⟨r, n * 33 + 32, none⟩ = some (.bool (d.cell (n : Int)).2.isSome) := by
  have hh : d.has (n : Int) := (has_iff d _).2 (by omega)
  have hg : d.cells[n]? = some (d.cell (n : Int)) := by
    have := cell_get hh
    rwa [Int.toNat_natCast] at this
  have hm := h.ok.cell_ok _ (cell_mem hh)
  have key : ∀ j v, (rcell (d.cell (n : Int)))[j]? = some v → w.cell? ⟨r, n * 33 + j, none⟩ = some v := fun j v hv => by
    have hj := (List.getElem?_eq_some_iff.1 hv).1
    rw [rcell_len hm] at hj
    have h1 := flat_get (F := rcell) (k := 33) (fun c hc => rcell_len (h.ok.cell_ok c hc)) hg hj
    have h2 := h.own.rd.cell _ rfl (n * 33 + j) v (by rw [← hv]; exact h1)
    rw [Addr.add_mid, Nat.zero_add] at h2
    exact h2
  have l1 : (bytesV (d.cell (n : Int)).1).length = 16 := by rw [bytesV_length]; exact hm.1
  have l2 : (bytesV ((d.cell (n : Int)).2.getD zs)).length = 16 := by
    rw [bytesV_length]
    cases hc : (d.cell (n : Int)).2 with
    | none => exact zs_len
    | some s => exact hm.2 s hc
  refine ⟨fun j v hv => ?_, fun j v hv => ?_, ?_⟩
  · rw [Addr.add_mid]
    refine key j v ?_
    unfold rcell
    rw [List.getElem?_append_left (List.getElem?_eq_some_iff.1 hv).1, hv]
  · rw [Addr.add_mid, show n * 33 + 16 + j = n * 33 + (16 + j) by omega]
    refine key (16 + j) v ?_
    unfold rcell
    rw [List.getElem?_append_right (by omega), l1, show 16 + j - 16 = j by omega, List.getElem?_append_left (List.getElem?_eq_some_iff.1 hv).1, hv]
  · refine key 32 _ ?_
    unfold rcell
    rw [List.getElem?_append_right (by omega), l1, List.getElem?_append_right (by omega), l2]
    rfl
theorem r_in (h : Rk w q r c d) (x : Int) : Calls Tryz.prog 161 #[.pointer (some ⟨q, 0, none⟩), .int .i64 x] w fun e w' => e = .returned (.bool (decide (d.has x))) ∧ w = w' := by
  obtain ⟨k0, k1, k2, k3⟩ := h.cells
  clear h
  by_cases h0 : 0 ≤ x
  · have hd : decide (d.has x) = decide (x < (d.cells.length : Int)) := by
      rw [Bool.eq_iff_iff, decide_eq_true_eq, decide_eq_true_eq, has_iff]; omega
    rw [hd]
    clear hd
    go_enter Tryz.func161, Tryz.ntmps161
    go_wp2_with fail
    go_ret
    exact ⟨rfl, rfl⟩
  · have hd : decide (d.has x) = false := by rw [decide_eq_false_iff_not, has_iff]; omega
    rw [hd]
    clear hd
    have h1 : decide (0 ≤ x) = false := by simpa using h0
    go_enter Tryz.func161, Tryz.ntmps161
    go_wp2_with fail
    go_ret
    exact ⟨rfl, rfl⟩
theorem r_burns (h : Rk w q r c d) (ho : d.ops < 1000000000) : Calls Tryz.prog 148 #[.pointer (some ⟨q, 0, none⟩)] w fun e w' => e = .returned (.bool (decide (d.spend.2 = 3))) ∧ Rk w' q r c d.spend.1 ∧ Fr (fun k => k = q) w w' := by
  obtain ⟨k0, k1, k2, k3⟩ := h.cells
  have q1 := h.frozen 1
  have q2 := h.frozen 2
  have q3 := h.frozen 3
  have hsp := spend_ok h.ok ho
  have hfu := h.ok.fuse
  have H := Lib.hid h
  have Hsp := Lib.hid hsp
  clear h hsp
  by_cases hb : d.broken = true
  · have hs : d.spend = ({ d with fuse := d.fuse, broken := true, ops := d.ops }, 3) := by
      unfold Dsk.spend Dsk.burn
      by_cases h0 : d.fuse = 0
      · rw [if_pos h0, if_pos rfl]
      · rw [if_neg h0, if_pos hb, ← hb]
    have Hs := Lib.hid hs
    have Hb := Lib.hid hb
    rw [hb] at k2
    clear hs hb
    go_enter Tryz.func148, Tryz.ntmps148
    go_wp2_with fail
    go_ret
    have hs := Hs.out
    have hok := Hsp.out
    rw [hs] at hok ⊢
    refine ⟨rfl, ?_, Fr.refl _ _⟩
    exact H.out.reset (Fr.refl _ _) hok (by rw [H.out.blk, Hb.out])
  · have hb : d.broken = false := by simpa using hb
    rw [hb] at k2
    by_cases h0 : d.fuse = 0
    · have hs : d.spend = ({ d with fuse := d.fuse, broken := true, ops := d.ops }, 3) := by
        unfold Dsk.spend Dsk.burn
        rw [if_pos h0, if_pos rfl]
      have Hs := Lib.hid hs
      have hz : (d.fuse == 0) = true := by simpa using h0
      have Hb := Lib.hid hb
      clear hs hb h0
      go_enter Tryz.func148, Tryz.ntmps148
      go_wp2_with fail
      go_ret
      have hs := Hs.out
      have hok := Hsp.out
      rw [hs] at hok ⊢
      refine ⟨rfl, H.out.reset (fr_set w q 2 _) hok ?_, fr_set w q 2 _⟩
      rw [heap_setCell_same _ q 2 _ _ _ H.out.blk]
      simp
    · have hz : (d.fuse == 0) = false := by simpa using h0
      by_cases hp : 0 < d.fuse
      · have hs : d.spend = ({ d with fuse := d.fuse - 1, broken := false, ops := d.ops + 1 }, 0) := by
          unfold Dsk.spend Dsk.burn
          rw [if_neg h0, hb, if_neg (by simp), if_pos hp]
        have Hs := Lib.hid hs
        have Hb := Lib.hid hb
        clear hs h0 hb
        go_enter Tryz.func148, Tryz.ntmps148
        go_wp2_with fail
        go_ret
        have hs := Hs.out
        have hok := Hsp.out
        rw [hs] at hok ⊢
        have hfr : Fr (fun k => k = q) w ((w.setCell ⟨q, 1, none⟩ (.int .i64 (d.fuse - 1))).setCell ⟨q, 3, none⟩ (.int .i64 ((d.ops : Int) + 1))) := (fr_set w q 1 _).trans (fr_set _ q 3 _) (fun _ _ e => e)
        refine ⟨rfl, H.out.reset hfr hok ?_, hfr⟩
        rw [heap_setCell_same _ q 3 _ _ _ (heap_setCell_same _ q 1 _ _ _ H.out.blk)]
        simp [Hb.out]
      · have hs : d.spend = ({ d with fuse := d.fuse, broken := false, ops := d.ops + 1 }, 0) := by
          unfold Dsk.spend Dsk.burn
          rw [if_neg h0, hb, if_neg (by simp), if_neg hp]
        have Hs := Lib.hid hs
        have hp2 : decide (0 < d.fuse) = false := by simpa using hp
        have Hb := Lib.hid hb
        clear hs h0 hb
        go_enter Tryz.func148, Tryz.ntmps148
        go_wp2_with fail
        go_ret
        have hs := Hs.out
        have hok := Hsp.out
        rw [hs] at hok ⊢
        have hfr : Fr (fun k => k = q) w (w.setCell ⟨q, 3, none⟩ (.int .i64 ((d.ops : Int) + 1))) := fr_set w q 3 _
        refine ⟨rfl, H.out.reset hfr hok ?_, hfr⟩
        rw [heap_setCell_same _ q 3 _ _ _ H.out.blk]
        simp [Hb.out]
theorem r_SetFuse (h : Rk w q r c d) (k : Int) (hk : -9223372036854775808 ≤ k ∧ k ≤ 9223372036854775807) : Calls Tryz.prog 24 #[.pointer (some ⟨q, 0, none⟩), .int .i64 k] w fun e' w' => e' = .returned (.tuple #[]) ∧ Rk w' q r c (d.setFuse k) ∧ Fr (fun k => k = q) w w' := by
  obtain ⟨k0, k1, k2, k3⟩ := h.cells
  have q1 := h.frozen 1
  have H := Lib.hid h
  have hok : (d.setFuse k).Ok := ⟨h.ok.n, h.ok.safe, h.ok.fresh, by simp only [Dsk.setFuse]; omega, h.ok.ops⟩
  have Hok := Lib.hid hok
  clear h hok
  by_cases hk1 : k < 0
  · have hm2 : d.setFuse k = { d with fuse := -1, broken := d.broken, ops := d.ops } := by unfold Dsk.setFuse; rw [show max k (-1) = -1 by omega]
    have Hm2 := Lib.hid hm2
    clear hm2
    go_enter Tryz.func24, Tryz.ntmps24
    go_wp2_with fail
    refine bodyPost_end (results_none rfl _ _ _) rfl ?_
    have hok := Hok.out
    rw [Hm2.out] at hok ⊢
    have hfr : Fr (fun k => k = q) w ((w.setCell ⟨q, 1, none⟩ (.int .i64 k)).setCell ⟨q, 1, none⟩ (.int .i64 (-1))) := (fr_set w q 1 _).trans (fr_set _ q 1 _) (fun _ _ e => e)
    refine ⟨rfl, H.out.reset hfr hok ?_, hfr⟩
    rw [heap_setCell_same _ q 1 _ _ _ (heap_setCell_same _ q 1 _ _ _ H.out.blk)]
    simp
  · have hm2 : d.setFuse k = { d with fuse := k, broken := d.broken, ops := d.ops } := by unfold Dsk.setFuse; rw [show max k (-1) = k by omega]
    have Hm2 := Lib.hid hm2
    clear hm2
    go_enter Tryz.func24, Tryz.ntmps24
    go_wp2_with fail
    refine bodyPost_end (results_none rfl _ _ _) rfl ?_
    have hok := Hok.out
    rw [Hm2.out] at hok ⊢
    refine ⟨rfl, H.out.reset (fr_set w q 1 _) hok ?_, fr_set w q 1 _⟩
    rw [heap_setCell_same _ q 1 _ _ _ H.out.blk]
    simp
end
end Go.Proofs.YtaldlapnhhhclaaGreat.Disk
/- The reference's disk: Write, Read, Durable. Conditions: at most 10^9 operations. -/
namespace Go.Proofs.YtaldlapnhhhclaaGreat.Disk
open Go.RowKit Tw
set_option maxHeartbeats 4000000
set_option maxRecDepth 100000

/-- some cells stored into a row of the call's own -/
theorem wpL_store_part {P : Program} {ops : Array Oper} {rest : List Oper} {w : World} {o : Oper} {a : Act} {Q : Exit → Act → World → Prop} (hgd : o.guard = none) (hds : o.dst = none) (ty : TypeId) (x y : Operand)
    (ho : o.op = .store ty x y) (base : Nat) (e : TypeId) (sz g i n c : Nat) (hx : a.eval x = .pointer (some ⟨g, i, none⟩)) (cs : List Value) (hy : a.eval y = .agg cs.toArray) (hi : (P.info? ty).map (·.size) = some cs.length)
    (xs : List Value) (hown : Own w base e sz (some ⟨g, 0, none⟩) n c xs) (hin : i + cs.length ≤ n * sz) (h1 : ∀ v ∈ cs, v.oneCell' = true) (ys : List Value) (hys : splice xs i cs = ys)
    (h : ∀ w', Own w' base e sz (some ⟨g, 0, none⟩) n c ys → w.grownBy w' (some g) → wpList P ops Q rest a w') : wpList P ops Q (o :: rest) a w := by
  subst hys
  rcases hown.2 with ⟨hv, _⟩ | ⟨g', cap, cur, hv, hb, hh, hnc, hcm, hs, ht⟩
  · injection hv with h1
    cases h1
  · injection hv with h2 _ h3
    injection h2 with h2
    injection h2 with h2
    subst h2 h3
    have hle2 : n * sz ≤ c * sz := Nat.mul_le_mul_right _ hnc
    have hthere : w.there g i cs.toArray.size := fun j hj => ⟨by simp [World.cell?, hh]; simp at hj; omega, by simp [World.frozen?, hh]⟩
    refine wpList_store_mid hgd ty x y ho g i cs.toArray hx hy hthere (by simpa using hi) (Array.all_eq_true_iff_forall_mem.2 fun v hv => h1 v (by simpa using hv)) ?_
    rw [hds]
    obtain ⟨cur', q1, q2, q3, q4⟩ := heap_setCells g e cs w i cur hh (by omega)
    refine h _ ⟨?_, .inr ⟨g, c, cur', rfl, hb, q1, hnc, hcm, q3.trans hs, ?_⟩⟩ q4
    · have := hown.1
      unfold splice
      simp
      omega
    · have hcl : cur.toList.length = c * sz := by simpa using hs
      rw [q2, ← ht]
      unfold splice
      have e1 : ((cur.toList.take (n * sz)).take i) = cur.toList.take i := by rw [List.take_take, Nat.min_eq_left (by omega)]
      rw [e1, ← List.append_assoc, ← List.append_assoc, List.take_append, List.take_of_length_le (by simp; omega), List.drop_take]
      congr 2
      simp
      omega
/-- one cell stored into a row of the call's own -/
theorem wpL_store_one {P : Program} {ops : Array Oper} {rest : List Oper} {w : World} {o : Oper} {a : Act} {Q : Exit → Act → World → Prop} (hgd : o.guard = none) (hds : o.dst = none) (ty : TypeId) (x y : Operand)
    (ho : o.op = .store ty x y) (base : Nat) (e : TypeId) (sz g i n c : Nat) (hx : a.eval x = .pointer (some ⟨g, i, none⟩)) (v : Value) (hy : a.eval y = v) (hv : v.cells = #[v]) (hi : (P.info? ty).map (·.size) = some 1)
    (xs : List Value) (hown : Own w base e sz (some ⟨g, 0, none⟩) n c xs) (hin : i < n * sz) (h1 : v.oneCell' = true) (ys : List Value) (hys : splice xs i [v] = ys)
    (h : ∀ w', Own w' base e sz (some ⟨g, 0, none⟩) n c ys → w.grownBy w' (some g) → wpList P ops Q rest a w') : wpList P ops Q (o :: rest) a w := by
  subst hys
  rcases hown.2 with ⟨hv', _⟩ | ⟨g', cap, cur, hv', hb, hh, hnc, hcm, hs, ht⟩
  · injection hv' with h1
    cases h1
  · injection hv' with h2 _ h3
    injection h2 with h2
    injection h2 with h2
    subst h2 h3
    have hle2 : n * sz ≤ c * sz := Nat.mul_le_mul_right _ hnc
    have hxl := hown.1
    have hset : splice xs i [v] = xs.set i v := by
      unfold splice
      rw [List.set_eq_take_append_cons_drop, if_pos (by omega)]
      rfl
    refine wpList_plain hgd fun _ hK => ?_
    have hc : (w.cell? ⟨g, i, none⟩).isSome = true := by simp [World.cell?, hh]; omega
    have hf : w.frozen? ⟨g, i, none⟩ = false := by simp [World.frozen?, hh]
    cases hq : P.info? ty with
    | none => simp [hq] at hi
    | some inf =>
      have hs2 : inf.size = 1 := by simpa [hq] using hi
      have hrun := run_storeCells_cells (P := P) g i [v] 0 w (fun j hj => by simp at hj; subst hj; simpa using hc) (fun j hj => by simp at hj; subst hj; simpa using hf) (by simp [h1])
      simp only [Nat.add_zero] at hrun
      unfold Oper.wp execOp
      simp [ho, hx, hy, Instr.storeAt, Instr.sureAddr, Sem.run_bind, Sem.run_pure, Result.andThen_ok, storeVar, sizeOf, typeInfo, hq, hv, hs2, hrun]
      refine hK (a.put o.dst undef) _ ?_
      rw [hds]
      refine h _ ⟨by rw [hset]; simpa using hxl, .inr ⟨g, c, _, rfl, hb, heap_setCell_same w g i cur e _ hh, hnc, hcm, by simpa using hs, ?_⟩⟩ (grown_setCell w g i _)
      rw [hset, ← ht, Array.toList_setIfInBounds, List.take_set]
/-- rows one behind the other -/
abbrev cat (l : List (List Value)) : List Value := l.flatMap id
theorem rrow_cat (l : List Cl) : rrow l = cat (l.map rcell) := by
  unfold rrow cat
  rw [List.flatMap_map]
  rfl
theorem cat_set {l : List (List Value)} {i o : Nat} {a : List Value} {cs : List Value} (hl : ∀ a ∈ l, a.length = 33) (h : l[i]? = some a) (ho : o + cs.length ≤ 33) : splice (cat l) (i * 33 + o) cs = cat (l.set i (splice a o cs)) :=
  flat_set (F := id) (b := splice a o cs) hl h ho rfl
theorem splice_len {l : List Value} {o : Nat} {cs : List Value} (h : o + cs.length ≤ l.length) : (splice l o cs).length = l.length := by
  unfold splice
  simp
  omega
theorem rcell_fresh {c : Cl} (h : CellOk c) (s : Sec) (hs : s.length = 16) : splice (splice (rcell c) 16 (bytesV s)) 32 [.bool true] = rcell (c.1, some s) := by
  have h1 : (bytesV c.1).length = 16 := by rw [bytesV_length]; exact h.1
  have h2 : (bytesV (c.2.getD zs)).length = 16 := by
    rw [bytesV_length]
    cases hc : c.2 with
    | none => exact zs_len
    | some s => exact h.2 s hc
  have h3 : (bytesV s).length = 16 := by rw [bytesV_length]; exact hs
  have e1 : splice (rcell c) 16 (bytesV s) = bytesV c.1 ++ (bytesV s ++ [.bool c.2.isSome]) := by
    unfold rcell
    have := splice_right (a := bytesV c.1) (r := bytesV (c.2.getD zs) ++ [Value.bool c.2.isSome]) (o := 0) (cs := bytesV s)
    rw [h1] at this
    rw [this, splice_left (by omega)]
    congr 2
    unfold splice
    rw [List.take_zero, List.nil_append, List.drop_eq_nil_of_le (by omega), List.append_nil]
  rw [e1]
  have := splice_right (a := bytesV c.1 ++ bytesV s) (r := [Value.bool c.2.isSome]) (o := 0) (cs := [Value.bool true])
  rw [List.length_append, h1, h3, List.append_assoc] at this
  rw [this, List.append_assoc]
  rfl
section
variable {w w' : World} {q r c : Nat} {d : Dsk}
theorem Rk.own_cat (h : Rk w q r c d) : Tw.Own w 0 129 33 (some ⟨r, 0, none⟩) d.cells.length c (cat (d.cells.map rcell)) := by rw [← rrow_cat]; exact h.own
theorem Rk.wide (h : Rk w q r c d) : ∀ a ∈ d.cells.map rcell, a.length = 33 := fun a ha => by
  obtain ⟨b, hb, rfl⟩ := List.mem_map.1 ha
  exact rcell_len (h.ok.cell_ok b hb)
theorem Rk.row (h : Rk w q r c d) {n : Nat} (hn : n < d.cells.length) : (d.cells.map rcell)[n]? = some (rcell (d.cell (n : Int))) := by
  have := cell_get ((has_iff d (n : Int)).2 (by omega))
  rw [Int.toNat_natCast] at this
  rw [List.getElem?_map, this]
  rfl
theorem r_Write (h : Rk w q r c d) (ho : d.ops < 1000000000) (x : Int) (s : Sec) (hs : s.length = 16) : Calls Tryz.prog 115 #[.pointer (some ⟨q, 0, none⟩), .int .i64 x, .agg (bytesV s).toArray] w fun e w' => e = .returned (.int .i64 ((d.write x s).2 : Int)) ∧ Rk w' q r c (d.write x s).1 ∧ Fr (fun k => k = q ∨ k = r) w w' := by
  have hlt := h.lts
  have H := Lib.hid (h.bel ((Below.refl _ _).alloc (Nat.le_refl _) (.cells (bytesV s).toArray 127)))
  have HX := Lib.hid (heap_alloc_new w (.cells (bytesV s).toArray 127))
  have HF := Lib.hid (Fr.alloc (S := fun k => k = q ∨ k = r) (w := w) (.cells (bytesV s).toArray 127))
  clear h
  by_cases hh : d.has x
  · have hd := Lib.hid (decide_eq_true hh)
    by_cases he : d.spend.2 = 0
    · obtain ⟨n, rfl⟩ : ∃ n : Nat, x = (n : Int) := ⟨x.toNat, by have := (has_iff d x).1 hh; omega⟩
      have hw : Hid (d.write (n : Int) s = (d.spend.1.put (n : Int) s, 0)) := Lib.hid (by unfold Dsk.write; rw [if_pos hh, if_pos he])
      have He : Hid (decide (d.spend.2 = 3) = false) := Lib.hid (by rw [he]; rfl)
      have hnl : n < d.spend.1.cells.length := by rw [spend_cells]; have := (has_iff d (n : Int)).1 hh; omega
      have hnn : d.spend.1.cells.length ≤ 1024 := by rw [spend_cells]; exact H.out.ok.n.2
      clear hh he
      go_enter Tryz.func115, Tryz.ntmps115
      go_upto_region 5 with (first
        | (go_at_call 161
           (with_reducible refine (r_in H.out _).mono ?_)
           rintro e w' ⟨rfl, rfl⟩
           rw [hd.out])
        | (go_at_call 148
           (with_reducible refine (r_burns H.out ho).mono ?_)
           rintro e w2 ⟨rfl, h2, f2⟩
           rw [He.out]
           have H2 := Lib.hid h2
           have F2 := Lib.hid f2
           clear h2 f2))
      have HX2 := Lib.hid (heap_fr HX.out F2.out (by omega))
      have HF2 := Lib.hid (HF.out.trans F2.out (fun _ _ e => .inl e))
      generalize d.spend.1 = d1 at *
      refine wp_region_phi (by kernel_rfl) 8 none (fun _ => false) (fun i_ v wz => match i_ with
        | 0 => v = .pointer (some ⟨q, 0, none⟩)
        | 1 => v = .pointer (some ⟨q, 0, none⟩)
        | 2 => v = .pointer (some ⟨q, 0, none⟩)
        | 3 => v = .slice (some ⟨r, 0, none⟩) d1.cells.length c
        | 4 => v = .int .i64 (n : Int)
        | 5 => v = .agg (bytesV s).toArray
        | 6 => v = .pointer (some ⟨r, n * 33, none⟩)
        | 7 => v = .pointer (some ⟨r, n * 33 + 16, none⟩)
        | _ => True) (by kernel_rfl) ?_ ?_ ?_
      · (repeat' (first | exact allLt_zero | refine allLt_succ ?_ ?_))
        · exact fun _ _ _ h _ => h
        · exact fun _ _ _ h _ => h
        · exact fun _ _ _ h _ => h
        · exact fun _ _ _ h _ => h
        · exact fun _ _ _ h _ => h
        · exact fun _ _ _ h _ => h
        · exact fun _ _ _ h _ => h
        · exact fun _ _ _ h _ => h
      · (repeat' (first | exact allLt_zero | refine allLt_succ ?_ ?_))
        · intro a w' hf he
          have k0 : a.tmps.getD 0 undef = .pointer (some ⟨q, 0, none⟩) := hf.var (by kernel_rfl) rfl
          refine wpOp_step rfl (fun K hK => ?_)
          go_simp
          exact hK _ _ ⟨_, rfl, rfl, World.grownBy.refl _ _⟩
        · intro a w' hf he
          have f0 : a.tmps.getD 13 undef = .pointer (some ⟨q, 0, none⟩) := he 0 (by kernel_rfl)
          refine wpOp_step rfl (fun K hK => ?_)
          go_simp
          exact hK _ _ ⟨_, rfl, rfl, World.grownBy.refl _ _⟩
        · intro a w' hf he
          have f1 : a.tmps.getD 14 undef = .pointer (some ⟨q, 0, none⟩) := he 1 (by kernel_rfl)
          rw [show kindRow _ _ = none from by kernel_rfl] at hf
          refine wpOp_step rfl (fun K hK => ?_)
          go_simp
          exact hK _ _ ⟨_, rfl, rfl, World.grownBy.refl _ _⟩
        · intro a w' hf he
          have f2 : a.tmps.getD 15 undef = .pointer (some ⟨q, 0, none⟩) := he 2 (by kernel_rfl)
          rw [show kindRow _ _ = none from by kernel_rfl] at hf
          have dd := ((H2.out.bel hf.bel).cells).1
          refine wpOp_step rfl (fun K hK => ?_)
          go_simp
          exact hK _ _ ⟨_, rfl, rfl, World.grownBy.refl _ _⟩
        · intro a w' hf he
          have k1 : a.tmps.getD 1 undef = .int .i64 (n : Int) := hf.var (by kernel_rfl) rfl
          refine wpOp_step rfl (fun K hK => ?_)
          go_simp
          exact hK _ _ ⟨_, rfl, rfl, World.grownBy.refl _ _⟩
        · intro a w' hf he
          have k5 : a.tmps.getD 5 undef = .pointer (some ⟨w.heap.size, 0, none⟩) := hf.var (by kernel_rfl) rfl
          rw [show kindRow _ _ = none from by kernel_rfl] at hf
          refine wpOp_step rfl (fun K hK => ?_)
          refine wp_load_rd 127 (.tmp 5) rfl ⟨w.heap.size, 0, none⟩ k5 (bytesV s) _ ((rd_of_heap (n := 16) ((hf.bel.block _ (heap_lt HX2.out)).trans HX2.out) (by rw [bytesV_length, hs]) (by simp [maxLen])).cell _ rfl) Tryz.underlying127 rfl (by rw [bytesV_length, hs]; kernel_rfl) ?_
          exact hK _ _ ⟨_, rfl, rfl, World.grownBy.refl _ _⟩
        · intro a w' hf he
          have f3 : a.tmps.getD 16 undef = .slice (some ⟨r, 0, none⟩) d1.cells.length c := he 3 (by kernel_rfl)
          have f4 : a.tmps.getD 17 undef = .int .i64 (n : Int) := he 4 (by kernel_rfl)
          rw [show kindRow _ _ = none from by kernel_rfl] at hf
          refine wpOp_step rfl (fun K hK => ?_)
          go_simp
          exact hK _ _ ⟨_, rfl, rfl, World.grownBy.refl _ _⟩
        · intro a w' hf he
          have f6 : a.tmps.getD 19 undef = .pointer (some ⟨r, n * 33, none⟩) := he 6 (by kernel_rfl)
          rw [show kindRow _ _ = none from by kernel_rfl] at hf
          refine wpOp_step rfl (fun K hK => ?_)
          go_simp
          exact hK _ _ ⟨_, rfl, rfl, World.grownBy.refl _ _⟩
      · intro a w' hf he
        obtain ⟨u13, f0⟩ : ∃ u, a.tmps.getD 13 undef = u := ⟨_, rfl⟩
        obtain ⟨u14, f1⟩ : ∃ u, a.tmps.getD 14 undef = u := ⟨_, rfl⟩
        obtain ⟨u15, f2⟩ : ∃ u, a.tmps.getD 15 undef = u := ⟨_, rfl⟩
        obtain ⟨u16, f3⟩ : ∃ u, a.tmps.getD 16 undef = u := ⟨_, rfl⟩
        obtain ⟨u17, f4⟩ : ∃ u, a.tmps.getD 17 undef = u := ⟨_, rfl⟩
        have f5 : a.tmps.getD 18 undef = .agg (bytesV s).toArray := he 5 (by decide)
        obtain ⟨u19, f6⟩ : ∃ u, a.tmps.getD 19 undef = u := ⟨_, rfl⟩
        have f7 : a.tmps.getD 20 undef = .pointer (some ⟨r, n * 33 + 16, none⟩) := he 7 (by decide)
        have hlit := hf.lit ((13, u13) :: (14, u14) :: (15, u15) :: (16, u16) :: (17, u17) :: (18, .agg (bytesV s).toArray) :: (19, u19) :: (20, .pointer (some ⟨r, n * 33 + 16, none⟩)) :: []) (by kernel_rfl) ⟨f0, f1, f2, f3, f4, f5, f6, f7, trivial⟩
        have hB := hf.bel
        clear he hf f0 f1 f2 f3 f4 f5 f6 f7 
        subst hlit
        simp only [putAll_nil, putAll_cons, Act.put, List.setIfInBounds_toArray, List.set_cons_zero, List.set_cons_succ]
        simp only [List.drop_succ_cons, List.drop_zero]
        have H3 := Lib.hid (H2.out.bel hB)
        have F3 := Lib.hid (HF2.out.trans (Fr.of_bel (S := fun k => k = q ∨ k = r) hB) (fun _ _ e => e))
        have hwd := H3.out.wide
        have hrw := H3.out.row hnl
        have hrl := hwd _ (List.mem_of_getElem? hrw)
        have hp1 := cat_set (cs := bytesV s) (o := 16) hwd hrw (by rw [bytesV_length, hs]; omega)
        have hsl : (bytesV s).length = 16 := by rw [bytesV_length, hs]
        have hwd2 : ∀ a ∈ (d1.cells.map rcell).set n (splice (rcell (d1.cell (n : Int))) 16 (bytesV s)), a.length = 33 := fun a ha => by
          rcases List.mem_or_eq_of_mem_set ha with ha | rfl
          · exact hwd a ha
          · rw [splice_len (by omega)]; exact hrl
        have hrw2 : ((d1.cells.map rcell).set n (splice (rcell (d1.cell (n : Int))) 16 (bytesV s)))[n]? = some (splice (rcell (d1.cell (n : Int))) 16 (bytesV s)) := List.getElem?_set_self (by simpa using hnl)
        have hp2 := cat_set (cs := [.bool true]) (o := 32) hwd2 hrw2 (by simp)
        have hcm := cell_mem ((has_iff d1 (n : Int)).2 (by omega))
        rw [List.set_set, rcell_fresh (H3.out.ok.cell_ok _ hcm) s hs] at hp2
        have P1 := Lib.hid hp1
        have P2 := Lib.hid hp2
        have O3 := Lib.hid H3.out.own_cat
        have Hsl := Lib.hid hsl
        have B3 := Lib.hid H3.out.blk
        have hne := H3.out.ne
        have Hns : Hid (n * 33 + 33 ≤ d1.cells.length * 33) := Lib.hid (by omega)
        clear hwd hrw hrl hp1 hsl hwd2 hrw2 hp2 hcm hB H2 HX2 HF2
        go_wp2_with (first
          | (refine wpL_store_part rfl rfl 127 (.tmp 20) (.tmp 18) rfl 0 129 33 r (n * 33 + 16) d1.cells.length c rfl (bytesV s) rfl (by rw [Hsl.out]; kernel_rfl) _ O3.out (by rw [Hsl.out]; have := Hns.out; omega) bytesV_one _ P1.out ?_
             intro w4 o4 g4
             have O4 := Lib.hid o4
             have B4 := Lib.hid (heap_grown B3.out g4 (by simpa using hne))
             have F4 := Lib.hid (F3.out.trans (Fr.grown (S := fun k => k = r) g4 (by simp)) (fun _ _ e => .inr e))
             have b4 := B4.out
             have dd : w4.cell? ⟨q, 0, none⟩ = some (.slice (some ⟨r, 0, none⟩) d1.cells.length c) := by simp [World.cell?, b4]
             clear o4 g4 b4 O3 B3)
          | (refine wpL_store_one rfl rfl 4 (.tmp 27) (.const (.bool true)) rfl 0 129 33 r (n * 33 + 32) d1.cells.length c rfl _ rfl rfl (by kernel_rfl) _ O4.out (by have := Hns.out; omega) rfl _ P2.out ?_
             intro w5 o5 g5
             have O5 := Lib.hid o5
             have B5 := Lib.hid (heap_grown B4.out g5 (by simpa using hne))
             have F5 := Lib.hid (F4.out.trans (Fr.grown (S := fun k => k = r) g5 (by simp)) (fun _ _ e => .inr e))
             clear o5 g5 dd))
        go_ret
        rw [hw.out]
        have hok := put_ok H3.out.ok ((has_iff d1 (n : Int)).2 (by omega)) hs
        have hset : ((d1.cells.map rcell).set n (rcell ((d1.cell (n : Int)).1, some s))) = (d1.put (n : Int) s).cells.map rcell := by
          simp [Dsk.put, List.map_set]
        have ho5 := O5.out
        rw [hset, ← rrow_cat] at ho5
        exact ⟨rfl, H3.out.recell (B5.out.trans H3.out.blk.symm) (by simp) hok ho5, F5.out⟩
    · have hw : Hid (d.write x s = d.spend) := Lib.hid (by unfold Dsk.write; rw [if_pos hh, if_neg he])
      have He3 : d.spend.2 = 3 := (spend_err d).resolve_left he
      have He : Hid (decide (d.spend.2 = 3) = true) := Lib.hid (by rw [He3]; rfl)
      have HE3 := Lib.hid He3
      clear hh he He3
      go_enter Tryz.func115, Tryz.ntmps115
      go_wp2_with (first
        | (go_at_call 161
           (with_reducible refine (r_in H.out _).mono ?_)
           rintro e w' ⟨rfl, rfl⟩
           rw [hd.out])
        | (go_at_call 148
           (with_reducible refine (r_burns H.out ho).mono ?_)
           rintro e w2 ⟨rfl, h2, f2⟩
           rw [He.out]
           have H2 := Lib.hid h2
           have F2 := Lib.hid f2
           clear h2 f2))
      go_ret
      rw [hw.out]
      exact ⟨by rw [HE3.out]; rfl, H2.out, HF.out.trans F2.out (fun _ _ e => .inl e)⟩
  · have hd := Lib.hid (decide_eq_false hh)
    have hw : Hid (d.write x s = (d, 13)) := Lib.hid (by unfold Dsk.write; rw [if_neg hh])
    clear hh
    go_enter Tryz.func115, Tryz.ntmps115
    go_wp2_with (first
      | (go_at_call 161
         (with_reducible refine (r_in H.out _).mono ?_)
         rintro e w' ⟨rfl, rfl⟩
         rw [hd.out]))
    go_ret
    rw [hw.out]
    exact ⟨rfl, H.out, HF.out⟩
end
end Go.Proofs.YtaldlapnhhhclaaGreat.Disk
/- The reference's disk: Read, Durable. Conditions: none. -/
namespace Go.Proofs.YtaldlapnhhhclaaGreat.Disk
open Go.RowKit Tw
set_option maxHeartbeats 4000000
set_option maxRecDepth 100000
section
variable {w w' : World} {q r c : Nat} {d : Dsk}
theorem r_Read (h : Rk w q r c d) (x : Int) : Calls Tryz.prog 123 #[.pointer (some ⟨q, 0, none⟩), .int .i64 x] w fun e w' => e = .returned (.tuple #[secV (d.read x).1, .int .i64 ((d.read x).2 : Int)]) ∧ Below w.heap.size w w' := by
  have HB := Lib.hid ((Below.refl w.heap.size w).alloc (Nat.le_refl _) (.cells Z16 127))
  have H := Lib.hid (h.bel HB.out)
  have HX := Lib.hid (heap_alloc_new w (.cells Z16 127))
  obtain ⟨k0, k1, k2, k3⟩ := H.out.cells
  unfold Z16 at *
  clear h
  by_cases hh : d.has x
  · obtain ⟨n, rfl⟩ : ∃ n : Nat, x = (n : Int) := ⟨x.toNat, by have := (has_iff d x).1 hh; omega⟩
    have hd := Lib.hid (decide_eq_true hh)
    have hnl : n < d.cells.length := by have := (has_iff d (n : Int)).1 hh; omega
    have hnn := H.out.ok.n
    cases hb : d.broken with
    | true =>
      have hw : Hid (d.read (n : Int) = (zs, 3)) := Lib.hid (by unfold Dsk.read; rw [if_pos hh, if_pos hb])
      rw [hb] at k2
      clear hh hb
      go_enter Tryz.func123, Tryz.ntmps123
      go_upto_region 1 with (fail)
      generalize (w.alloc (.cells #[.int .u8 0, .int .u8 0, .int .u8 0, .int .u8 0, .int .u8 0, .int .u8 0, .int .u8 0, .int .u8 0, .int .u8 0, .int .u8 0, .int .u8 0, .int .u8 0, .int .u8 0, .int .u8 0, .int .u8 0, .int .u8 0] 127)) = W1 at *
      go_wp2_with (first
        | (go_at_call 161
           (with_reducible refine (r_in H.out _).mono ?_)
           rintro e w' ⟨rfl, rfl⟩
           rw [hd.out])
        | (refine wpL_store_all rfl rfl 127 (.tmp 4) (.tmp 15) rfl _ rfl _ rfl _ _ HX.out (by kernel_rfl) rfl (by simp [Value.oneCell']) ?_
           intro w2 x2 g2
           have HR := Lib.hid x2
           have HBR := Lib.hid (HB.out.grown g2 HB.out.size (by rintro k ⟨⟩; exact Nat.le_refl _))
           clear x2 g2))
      refine bodyPost_ret (results_cell2 rfl _ _ w.heap.size _ _ (0, 0) _ rfl HR.out Tryz.underlying127 rfl (by kernel_rfl) _ rfl) rfl ?_
      rw [hw.out]
      exact ⟨by first | rfl | (unfold secV; rw [zcells]; rfl), HBR.out⟩
    | false =>
      obtain ⟨p1, p2, p3⟩ := H.out.part hnl
      have hm := H.out.ok.cell_ok _ (cell_mem hh)
      rw [hb] at k2
      cases hc : (d.cell (n : Int)).2 with
      | some s =>
        have hw : Hid (d.read (n : Int) = (s, 0)) := Lib.hid (by unfold Dsk.read view; rw [if_pos hh, hb, hc]; rfl)
        have Hs := Lib.hid (hm.2 s hc)
        rw [hc] at p2 p3
        have P2 := Lib.hid p2
        clear p1 p2 hm hh hb hc
        simp only [Option.isSome_some] at p3
        simp only [Option.getD_some] at P2
        go_enter Tryz.func123, Tryz.ntmps123
        go_upto_region 1 with (fail)
        generalize (w.alloc (.cells #[.int .u8 0, .int .u8 0, .int .u8 0, .int .u8 0, .int .u8 0, .int .u8 0, .int .u8 0, .int .u8 0, .int .u8 0, .int .u8 0, .int .u8 0, .int .u8 0, .int .u8 0, .int .u8 0, .int .u8 0, .int .u8 0] 127)) = W1 at *
        go_wp2_with (first
          | (go_at_call 161
             (with_reducible refine (r_in H.out _).mono ?_)
             rintro e w' ⟨rfl, rfl⟩
             rw [hd.out])
          | (refine wpL_load_rd rfl 127 (.tmp 30) rfl ⟨r, n * 33 + 16, none⟩ rfl (bytesV s) _ P2.out Tryz.underlying127 rfl (by rw [bytesV_length, Hs.out]; kernel_rfl) ?_)
          | (refine wpL_store_all rfl rfl 127 (.tmp 4) (.tmp 31) rfl _ rfl _ rfl _ _ HX.out (by rw [List.size_toArray, bytesV_length, Hs.out]; kernel_rfl) (by rw [List.size_toArray, bytesV_length, Hs.out]; rfl) (fun v hv => bytesV_one v (by simpa using hv)) ?_
             intro w2 x2 g2
             have HR := Lib.hid x2
             have HBR := Lib.hid (HB.out.grown g2 HB.out.size (by rintro k ⟨⟩; exact Nat.le_refl _))
             clear x2 g2))
        refine bodyPost_ret (results_cell2 rfl _ _ w.heap.size _ _ (0, 0) _ rfl HR.out Tryz.underlying127 rfl (by rw [List.size_toArray, bytesV_length, Hs.out]; kernel_rfl) _ rfl) rfl ?_
        rw [hw.out]
        exact ⟨rfl, HBR.out⟩
      | none =>
        have hw : Hid (d.read (n : Int) = ((d.cell (n : Int)).1, 0)) := Lib.hid (by unfold Dsk.read view; rw [if_pos hh, hb, hc]; rfl)
        have Hs := Lib.hid hm.1
        rw [hc] at p3
        have P1 := Lib.hid p1
        clear p1 p2 hm hh hb hc
        simp only [Option.isSome_none] at p3
        generalize (d.cell (n : Int)).1 = s at *
        go_enter Tryz.func123, Tryz.ntmps123
        go_upto_region 1 with (fail)
        generalize (w.alloc (.cells #[.int .u8 0, .int .u8 0, .int .u8 0, .int .u8 0, .int .u8 0, .int .u8 0, .int .u8 0, .int .u8 0, .int .u8 0, .int .u8 0, .int .u8 0, .int .u8 0, .int .u8 0, .int .u8 0, .int .u8 0, .int .u8 0] 127)) = W1 at *
        go_wp2_with (first
          | (go_at_call 161
             (with_reducible refine (r_in H.out _).mono ?_)
             rintro e w' ⟨rfl, rfl⟩
             rw [hd.out])
          | (refine wpL_load_rd rfl 127 (.tmp 38) rfl ⟨r, n * 33, none⟩ rfl (bytesV s) _ P1.out Tryz.underlying127 rfl (by rw [bytesV_length, Hs.out]; kernel_rfl) ?_)
          | (refine wpL_store_all rfl rfl 127 (.tmp 4) (.tmp 39) rfl _ rfl _ rfl _ _ HX.out (by rw [List.size_toArray, bytesV_length, Hs.out]; kernel_rfl) (by rw [List.size_toArray, bytesV_length, Hs.out]; rfl) (fun v hv => bytesV_one v (by simpa using hv)) ?_
             intro w2 x2 g2
             have HR := Lib.hid x2
             have HBR := Lib.hid (HB.out.grown g2 HB.out.size (by rintro k ⟨⟩; exact Nat.le_refl _))
             clear x2 g2))
        refine bodyPost_ret (results_cell2 rfl _ _ w.heap.size _ _ (0, 0) _ rfl HR.out Tryz.underlying127 rfl (by rw [List.size_toArray, bytesV_length, Hs.out]; kernel_rfl) _ rfl) rfl ?_
        rw [hw.out]
        exact ⟨rfl, HBR.out⟩
  · have hd := Lib.hid (decide_eq_false hh)
    have hw : Hid (d.read x = (zs, 13)) := Lib.hid (by unfold Dsk.read; rw [if_neg hh])
    clear hh
    go_enter Tryz.func123, Tryz.ntmps123
    go_upto_region 1 with (fail)
    generalize (w.alloc (.cells #[.int .u8 0, .int .u8 0, .int .u8 0, .int .u8 0, .int .u8 0, .int .u8 0, .int .u8 0, .int .u8 0, .int .u8 0, .int .u8 0, .int .u8 0, .int .u8 0, .int .u8 0, .int .u8 0, .int .u8 0, .int .u8 0] 127)) = W1 at *
    go_wp2_with (first
      | (go_at_call 161
         (with_reducible refine (r_in H.out _).mono ?_)
         rintro e w' ⟨rfl, rfl⟩
         rw [hd.out])
      | (refine wpL_store_all rfl rfl 127 (.tmp 4) (.tmp 10) rfl _ rfl _ rfl _ _ HX.out (by kernel_rfl) rfl (by simp [Value.oneCell']) ?_
         intro w2 x2 g2
         have HR := Lib.hid x2
         have HBR := Lib.hid (HB.out.grown g2 HB.out.size (by rintro k ⟨⟩; exact Nat.le_refl _))
         clear x2 g2))
    refine bodyPost_ret (results_cell2 rfl _ _ w.heap.size _ _ (0, 0) _ rfl HR.out Tryz.underlying127 rfl (by kernel_rfl) _ rfl) rfl ?_
    rw [hw.out]
    exact ⟨by first | rfl | (unfold secV; rw [zcells]; rfl), HBR.out⟩
end
end Go.Proofs.YtaldlapnhhhclaaGreat.Disk
/- A disk's crash, plainly: how many cached sectors lie ahead of one; a mask that spares all. Conditions: none. -/
namespace Go.Proofs.YtaldlapnhhhclaaGreat.Disk
open Tw Dsk
/-- how many are cached -/
def cnt : List Cl → Nat
  | [] => 0
  | (_, none) :: r => cnt r
  | (_, some _) :: r => cnt r + 1
theorem cnt_append : ∀ (a b : List Cl), cnt (a ++ b) = cnt a + cnt b
  | [], b => by simp [cnt]
  | (s, none) :: r, b => by rw [List.cons_append, cnt, cnt, cnt_append r b]
  | (s, some f) :: r, b => by rw [List.cons_append, cnt, cnt, cnt_append r b]; omega
theorem cnt_len : ∀ (l : List Cl) (o : Nat), (cachedFrom o l).length = cnt l
  | [], o => rfl
  | (s, none) :: r, o => by rw [cachedFrom, cnt, cnt_len r]
  | (s, some f) :: r, o => by rw [cachedFrom, cnt, List.length_cons, cnt_len r]
theorem cnt_le : ∀ (l : List Cl), cnt l ≤ l.length
  | [] => Nat.le_refl _
  | (s, none) :: r => by rw [cnt, List.length_cons]; exact Nat.le_succ_of_le (cnt_le r)
  | (s, some f) :: r => by rw [cnt, List.length_cons]; exact Nat.succ_le_succ (cnt_le r)
theorem cnt_take {l : List Cl} {i : Nat} {c : Cl} (h : l[i]? = some c) : cnt (l.take (i + 1)) = cnt (l.take i) + cnt [c] := by
  have hlt := (List.getElem?_eq_some_iff.1 h).1
  have he := (List.getElem?_eq_some_iff.1 h).2
  rw [List.take_succ_eq_append_getElem hlt, cnt_append, he]
theorem cached_at : ∀ (l : List Cl) (o i : Nat) (s f : Sec), l[i]? = some (s, some f) → (cachedFrom o l)[cnt (l.take i)]? = some (o + i)
  | [], o, i, s, f, h => by simp at h
  | (s', none) :: r, o, 0, s, f, h => by simp at h
  | (s', none) :: r, o, i + 1, s, f, h => by
    rw [cachedFrom, List.take_succ_cons, cnt]
    rw [cached_at r (o + 1) i s f (by simpa using h)]
    congr 1
    omega
  | (s', some f') :: r, o, 0, s, f, h => by simp [cachedFrom, cnt]
  | (s', some f') :: r, o, i + 1, s, f, h => by
    rw [cachedFrom, List.take_succ_cons, cnt, List.getElem?_cons_succ]
    rw [cached_at r (o + 1) i s f (by simpa using h)]
    congr 1
    omega
theorem keepTo_none (mask : Nat) : ∀ (l : List Cl) (j n i : Nat) (s : Sec), l[i]? = some (s, none) → (keepTo mask j n l)[i]? = some (s, none)
  | [], j, n, i, s, h => by simp at h
  | (s', none) :: r, j, 0, i, s, h => h
  | (s', some f') :: r, j, 0, i, s, h => h
  | (s', none) :: r, j, n + 1, 0, s, h => by simpa [keepTo] using h
  | (s', none) :: r, j, n + 1, i + 1, s, h => by
    rw [keepTo, List.getElem?_cons_succ]
    exact keepTo_none mask r j (n + 1) i s (by simpa using h)
  | (s', some f') :: r, j, n + 1, 0, s, h => by simp at h
  | (s', some f') :: r, j, n + 1, i + 1, s, h => by
    rw [keepTo, List.getElem?_cons_succ]
    exact keepTo_none mask r (j + 1) n i s (by simpa using h)
/-- the mask that spares all -/
def full : Nat := 18446744073709551615
theorem spared_full (i : Nat) : spared full i = true := by
  unfold spared full
  have hi : i % 64 < 64 := Nat.mod_lt _ (by omega)
  generalize i % 64 = k at *
  have : ∀ k, k < 64 → decide (18446744073709551615 / 2 ^ k % 2 = 1) = true := by decide
  exact this k hi
theorem keep_full : ∀ (l : List Cl) (i : Nat), keep full i l = l.map fun c => (view c, none)
  | [], i => rfl
  | (s, none) :: r, i => by rw [keep, keep_full r, List.map_cons]; rfl
  | (s, some f) :: r, i => by rw [keep, keep_full r, List.map_cons, spared_full, if_pos rfl]; rfl
/-- what a keep does -/
def emask (all : Bool) (mask : Nat) : Nat := if all = true then full else mask
theorem spared_em (all : Bool) (mask i : Nat) : spared (emask all mask) i = (all || decide (mask / 2 ^ (i % 64) % 2 = 1)) := by
  unfold emask
  cases all with
  | true => rw [if_pos rfl, spared_full]; rfl
  | false => rw [if_neg (by simp)]; rfl
namespace Dsk
def keepD (d : Dsk) (all : Bool) (mask : Nat) : Dsk := { d with cells := keep (emask all mask) 0 d.cells }
end Dsk
theorem keepD_all (d : Dsk) (mask : Nat) : d.keepD true mask = d.allSafe := by
  unfold keepD emask allSafe
  rw [if_pos rfl, keep_full]
theorem crashTo_keepD (d : Dsk) (all : Bool) (mask : Nat) : d.crashTo (emask all mask) (cnt d.cells) = d.keepD all mask := by
  unfold crashTo keepD
  rw [keepTo_all (emask all mask) d.cells 0 0 _ (by rw [cnt_len]; exact Nat.le_refl _)]
/-- a round at a cached sector -/
theorem keep_round {d : Dsk} (h : d.Ok) (mask i : Nat) {s f : Sec} (hc : d.cells[i]? = some (s, some f)) : i < d.cells.length ∧ s.length = 16 ∧ f.length = 16 ∧ (d.crashTo mask (cnt (d.cells.take i))).cell (i : Int) = (s, some f) ∧ cnt (d.cells.take (i + 1)) = cnt (d.cells.take i) + 1 ∧
    d.crashTo mask (cnt (d.cells.take i) + 1) = { d.crashTo mask (cnt (d.cells.take i)) with cells := (d.crashTo mask (cnt (d.cells.take i))).cells.set i (if spared mask (cnt (d.cells.take i)) = true then f else s, none) } := by
  have hi := (List.getElem?_eq_some_iff.1 hc).1
  have h1 := cached_at d.cells 0 i s f hc
  rw [Nat.zero_add] at h1
  have hx : d.cachedZ[cnt (d.cells.take i)]? = some (i : Int) := by
    unfold cachedZ cached
    rw [List.getElem?_map, h1]
    rfl
  obtain ⟨i', s', f', e1, h2, h3, h4, h5, h6, h7⟩ := crash_round h mask _ hx
  obtain rfl : i' = i := by omega
  obtain ⟨_, _, s2, f2, g1, g2, g3⟩ := keepTo_step mask d.cells 0 0 _ _ h1
  rw [Nat.sub_zero] at g1 g2
  rw [hc] at g1
  injection g1 with g1
  injection g1 with g1 g1'
  injection g1' with g1'
  subst g1 g1'
  have hcell : (d.crashTo mask (cnt (d.cells.take i'))).cell (i' : Int) = (s, some f) := by
    unfold cell crashTo
    rw [Int.toNat_natCast, List.getD_eq_getElem?_getD]
    simp only
    rw [g2]
    rfl
  rw [hcell] at h5
  injection h5 with h5 h5'
  injection h5' with h5'
  subst h5 h5'
  exact ⟨hi, h3, h4, hcell, by rw [cnt_take hc]; rfl, h7⟩
theorem keep_pass {d : Dsk} (mask i : Nat) {s : Sec} (hc : d.cells[i]? = some (s, none)) : (d.crashTo mask (cnt (d.cells.take i))).cell (i : Int) = (s, none) ∧ cnt (d.cells.take (i + 1)) = cnt (d.cells.take i) := by
  refine ⟨?_, by rw [cnt_take hc]; rfl⟩
  unfold cell crashTo
  rw [Int.toNat_natCast, List.getD_eq_getElem?_getD]
  simp only
  rw [keepTo_none mask d.cells 0 _ i s hc]
  rfl
end Go.Proofs.YtaldlapnhhhclaaGreat.Disk
/- The reference's disk: keep. Conditions: none. -/
namespace Go.Proofs.YtaldlapnhhhclaaGreat.Disk
open Go.RowKit Tw
set_option maxHeartbeats 4000000
set_option maxRecDepth 100000
/-- 16 noughts, as cells -/
def zl : List Value := [.int .u8 0, .int .u8 0, .int .u8 0, .int .u8 0, .int .u8 0, .int .u8 0, .int .u8 0, .int .u8 0, .int .u8 0, .int .u8 0, .int .u8 0, .int .u8 0, .int .u8 0, .int .u8 0, .int .u8 0, .int .u8 0]
theorem zl_eq : bytesV zs = zl := by simp [zl, bytesV, zs, List.replicate]
theorem rcell_keep {s f : Sec} (hs : s.length = 16) (hf : f.length = 16) : splice (rcell (s, some f)) 0 (bytesV f) = rcell (f, some f) := by
  have h1 : (bytesV s).length = 16 := by rw [bytesV_length, hs]
  have h2 : (bytesV f).length = 16 := by rw [bytesV_length, hf]
  show splice (bytesV s ++ (bytesV f ++ [Value.bool true])) 0 (bytesV f) = bytesV f ++ (bytesV f ++ [Value.bool true])
  rw [splice_left (by omega)]
  congr 1
  unfold splice
  rw [List.take_zero, List.nil_append, List.drop_eq_nil_of_le (by omega), List.append_nil]
theorem rcell_lose {s f : Sec} (hs : s.length = 16) (hf : f.length = 16) : splice (splice (rcell (s, some f)) 16 zl) 32 [.bool false] = rcell (s, none) := by
  have h1 : (bytesV s).length = 16 := by rw [bytesV_length, hs]
  have h2 : (bytesV f).length = 16 := by rw [bytesV_length, hf]
  have h3 : zl.length = 16 := rfl
  have e1 : splice (rcell (s, some f)) 16 zl = bytesV s ++ (zl ++ [.bool true]) := by
    unfold rcell
    have := splice_right (a := bytesV s) (r := bytesV ((some f).getD zs) ++ [Value.bool (some f).isSome]) (o := 0) (cs := zl)
    rw [h1] at this
    rw [this]
    simp only [Option.getD_some, Option.isSome_some]
    rw [splice_left (by omega)]
    congr 2
    unfold splice
    rw [List.take_zero, List.nil_append, List.drop_eq_nil_of_le (by omega), List.append_nil]
  rw [e1]
  have := splice_right (a := bytesV s ++ zl) (r := [Value.bool true]) (o := 0) (cs := [Value.bool false])
  rw [List.length_append, h1, h3, List.append_assoc] at this
  rw [this, List.append_assoc]
  unfold rcell
  rw [← zl_eq]
  rfl
theorem zl_one : ∀ v ∈ zl, v.oneCell' = true := by rw [← zl_eq]; exact bytesV_one
/-- the round's test, as the program reckons it -/
theorem quo_vals (mask k : Nat) (hm : mask < 18446744073709551616) : ((mask / 2 ^ k : Nat) : Int) < 18446744073709551616 ∧ ((mask / 2 ^ k : Nat) : Int) / 2 = ((mask / 2 ^ (k + 1) : Nat) : Int) := by
  have hlt : mask / 2 ^ k < 18446744073709551616 := Nat.lt_of_le_of_lt (Nat.div_le_self _ _) hm
  refine ⟨by omega, ?_⟩
  rw [Nat.pow_succ, ← Nat.div_div_eq_div_mul]
  omega
theorem lose_steps {l : List (List Value)} {i : Nat} {s f : Sec} (hl : ∀ a ∈ l, a.length = 33) (h : l[i]? = some (rcell (s, some f))) (hs : s.length = 16) (hf : f.length = 16) : ∃ mid, splice (cat l) (i * 33 + 16) zl = mid ∧ splice mid (i * 33 + 32) [.bool false] = cat (l.set i (rcell (s, none))) := by
  have hrl := hl _ (List.mem_of_getElem? h)
  have hlt := (List.getElem?_eq_some_iff.1 h).1
  refine ⟨_, cat_set (cs := zl) (o := 16) hl h (by decide), ?_⟩
  have hl2 : ∀ a ∈ l.set i (splice (rcell (s, some f)) 16 zl), a.length = 33 := fun a ha => by
    rcases List.mem_or_eq_of_mem_set ha with ha | rfl
    · exact hl a ha
    · rw [splice_len (by rw [hrl]; decide)]; exact hrl
  have h2 := cat_set (cs := [.bool false]) (o := 32) hl2 (List.getElem?_set_self hlt) (by simp)
  rw [List.set_set, rcell_lose hs hf] at h2
  exact h2
theorem keep_step {l : List (List Value)} {i : Nat} {s f : Sec} (hl : ∀ a ∈ l, a.length = 33) (h : l[i]? = some (rcell (s, some f))) (hs : s.length = 16) (hf : f.length = 16) : splice (cat l) (i * 33) (bytesV f) = cat (l.set i (rcell (f, some f))) ∧ (∀ a ∈ l.set i (rcell (f, some f)), a.length = 33) ∧ (l.set i (rcell (f, some f)))[i]? = some (rcell (f, some f)) := by
  have hlt := (List.getElem?_eq_some_iff.1 h).1
  have h2 := cat_set (cs := bytesV f) (o := 0) hl h (by rw [bytesV_length, hf]; omega)
  rw [rcell_keep hs hf] at h2
  refine ⟨h2, fun a ha => ?_, List.getElem?_set_self hlt⟩
  rcases List.mem_or_eq_of_mem_set ha with ha | rfl
  · exact hl a ha
  · exact rcell_len ⟨hf, fun s' e => by injection e with e; rw [← e]; exact hf⟩
theorem keep_end {w w' : World} {q r c i : Nat} {d d' : Dsk} (h : Rk w q r c d) (hi : i < d.cells.length) {y : Sec} (hy : y.length = 16) (he : d' = { d with cells := d.cells.set i (y, none) }) (hb : w'.heap[q]? = w.heap[q]?)
    (ho : Tw.Own w' 0 129 33 (some ⟨r, 0, none⟩) d.cells.length c (cat ((d.cells.map rcell).set i (rcell (y, none))))) : Rk w' q r c d' := by
  subst he
  refine h.recell hb (by simp) ⟨by simpa using h.ok.n, fun c hc => ?_, fun c hc s' hs' => ?_, h.ok.fuse, h.ok.ops⟩ ?_
  · rcases List.mem_or_eq_of_mem_set hc with hc | rfl
    · exact h.ok.safe c hc
    · exact hy
  · rcases List.mem_or_eq_of_mem_set hc with hc | rfl
    · exact h.ok.fresh c hc s' hs'
    · cases hs'
  · rw [rrow_cat, List.map_set]
    exact ho
section
variable {w w' : World} {q r c : Nat} {d : Dsk}
theorem r_keep (h : Rk w q r c d) (all : Bool) (mask : Nat) (hm : mask < 18446744073709551616) : Calls Tryz.prog 64 #[.pointer (some ⟨q, 0, none⟩), .bool all, .int .u64 (mask : Int)] w fun e w' => e = .returned (.tuple #[]) ∧ Rk w' q r c (d.keepD all mask) ∧ Fr (fun k => k = q ∨ k = r) w w' := by
  have hne := h.ne
  have hn := h.ok.n
  have Hok := Lib.hid h.ok
  have Hend := Lib.hid (crashTo_keepD d all mask)
  have Hem := Lib.hid (spared_em all mask)
  have H := Lib.hid h
  have Hc0 : Hid (d.crashTo (emask all mask) (cnt (d.cells.take 0)) = d) := Lib.hid (crashTo_zero d _)
  clear h
  obtain ⟨N, hN⟩ : ∃ N, d.cells.length = N := ⟨_, rfl⟩
  have HN := Lib.hid hN
  have Hlen : Hid (∀ n, (d.crashTo (emask all mask) n).cells.length = N) := Lib.hid (fun n => by rw [crashTo_len, hN])
  obtain ⟨k0, k1, k2, k3⟩ := H.out.cells
  rw [hN] at k0 hn
  clear hN
  generalize emask all mask = em at *
  go_enter Tryz.func64, Tryz.ntmps64
  go_wp2_with fail
  go_loopw [6, 15] (fun v6 v wr => ∃ i : Nat, i ≤ N ∧ v = .int .i64 (i : Int) ∧ v6 = .int .i64 (cnt (d.cells.take i) : Int) ∧ Hid (Rk wr q r c (d.crashTo em (cnt (d.cells.take i)))) ∧ Hid (Fr (fun k => k = q ∨ k = r) w wr)) (fun _ v _ => N - (intOf v).toNat)
  case atStart => exact ⟨0, Nat.zero_le _, rfl, rfl, by rw [Hc0.out]; exact H, Lib.hid (Fr.refl _ _)⟩
  case round =>
    clear H k0 k1 k2 k3 Hc0
    obtain ⟨i, hi, rfl, rfl, HK, HF⟩ := hrel
    by_cases hin : i < N
    · obtain ⟨c0, hc0⟩ : ∃ c0, d.cells[i]? = some c0 := ⟨_, List.getElem?_eq_getElem (by rw [HN.out]; exact hin)⟩
      have hcn : cnt (d.cells.take i) ≤ i := Nat.le_trans (cnt_le _) (by simp; omega)
      obtain ⟨s, of⟩ := c0
      cases of with
      | none =>
        obtain ⟨h1, h2⟩ := keep_pass em i hc0
        obtain ⟨k0, k1, k2, k3⟩ := HK.out.cells
        rw [Hlen.out] at k0
        obtain ⟨_, _, p3⟩ := HK.out.part (n := i) (by rw [Hlen.out]; exact hin)
        rw [h1] at p3
        simp only [Option.isSome_none] at p3
        have H2 := Lib.hid h2
        clear h1 h2 hc0
        go_wp2_with fail
        go_roundw
        case rel => exact ⟨i + 1, by omega, by go_num, by rw [H2.out], by rw [H2.out]; exact HK, HF⟩
        case measure => simp [intOf] <;> omega
      | some f =>
        obtain ⟨_, hs, hf, h1, h2, h3⟩ := keep_round Hok.out em i hc0
        obtain ⟨k0, k1, k2, k3⟩ := HK.out.cells
        rw [Hlen.out] at k0
        have hlen := Hlen.out (cnt (d.cells.take i))
        have hlen2 := Hlen.out (cnt (d.cells.take i) + 1)
        generalize cnt (d.cells.take i) = n at *
        obtain ⟨_, p2, p3⟩ := HK.out.part (n := i) (by rw [hlen]; exact hin)
        rw [h1] at p2 p3
        simp only [Option.isSome_some, Option.getD_some] at p2 p3
        have H1 := Lib.hid h1
        have H2 := Lib.hid h2
        have H3 := Lib.hid h3
        have Hs := Lib.hid hs
        have Hf := Lib.hid hf
        have P2 := Lib.hid p2
        have HL := Lib.hid hlen
        have HL2 := Lib.hid hlen2
        have Hsp := Lib.hid (Hem.out n)
        clear h1 h2 h3 hs hf p2 hlen hlen2 hc0
        generalize d.crashTo em n = dk at *
        obtain ⟨n6, hn6⟩ : ∃ n6, n % 64 = n6 := ⟨_, rfl⟩
        have hn64 : n6 < 64 := by omega
        have hz : (n : Int) % 64 = (n6 : Int) := by omega
        have Hn6 := Lib.hid hn6
        rw [hn6] at Hsp
        clear hn6
        go_wp2_with fail
        go_loopw [8, 9] (fun v8 v9 wr2 => ∃ j : Nat, j ≤ n6 ∧ v8 = .int .u64 ((mask / 2 ^ j : Nat) : Int) ∧ v9 = .int .i64 (j : Int) ∧ wr2 = wr) (fun _ v _ => n6 - (intOf v).toNat)
        case atStart => exact ⟨0, Nat.zero_le _, by simp, rfl, rfl⟩
        case round =>
          obtain ⟨j, hj, rfl, rfl, rfl⟩ := hrel
          obtain ⟨q1, q2⟩ := quo_vals mask j hm
          by_cases hjn : j < n6
          · have Q2 := Lib.hid q2
            have Wq : Hid (IntKind.u64.wrap (((mask / 2 ^ j : Nat) : Int) / 2) = ((mask / 2 ^ (j + 1) : Nat) : Int)) := Lib.hid (by rw [IntKind.wrap_u64, q2]; exact Int.emod_eq_of_lt (Int.natCast_nonneg _) (quo_vals mask (j + 1) hm).1)
            clear q2 q1
            generalize (mask / 2 ^ j : Nat) = mj at *
            go_wp2_with fail
            go_roundw
            case rel => exact ⟨j + 1, by omega, by rw [Wq.out], by go_num, trivial⟩
            case measure => simp [intOf] <;> omega
          · obtain rfl : j = n6 := by omega
            clear q1 q2
            have hwd := HK.out.wide
            have hrw := HK.out.row (n := i) (by rw [HL.out]; exact hin)
            rw [H1.out] at hrw
            have Hwd := Lib.hid hwd
            have Hrw := Lib.hid hrw
            have Hzl : Hid (zl.length = 16) := Lib.hid rfl
            have Hfl : Hid ((bytesV f).length = 16) := Lib.hid (by rw [bytesV_length, Hf.out])
            have O0 : Hid (Tw.Own wr 0 129 33 (some ⟨r, 0, none⟩) N c (cat (dk.cells.map rcell))) := Lib.hid (by have := HK.out.own_cat; rwa [HL.out] at this)
            have B0 : Hid (wr.heap[q]? = some (.cells #[.slice (some ⟨r, 0, none⟩) N c, .int .i64 dk.fuse, .bool dk.broken, .int .i64 (dk.ops : Int)] 62 (0, 0))) := Lib.hid (by have := HK.out.blk; rwa [HL.out] at this)
            have Hp := Lib.hid HK.out.blk
            have HDok := Lib.hid HK.out.ok
            have Hib : Hid (i * 33 + 33 ≤ N * 33) := Lib.hid (by omega)
            obtain ⟨kp, hkp⟩ : ∃ kp, spared em n = kp := ⟨_, rfl⟩
            rw [hkp] at H3 Hsp
            have F0 : Hid (Fr (fun k => k = r) wr wr) := Lib.hid (Fr.refl _ _)
            clear hkp hwd hrw
            cases all with
            | true =>
              obtain rfl : kp = true := Hsp.out
              go_upto_region 11 with (fail)
              refine wp_region_phi (by kernel_rfl) 15 none (fun _ => false) (fun i_ v wz => match i_ with
                | 0 => v = .pointer (some ⟨q, 0, none⟩)
                | 1 => v = .pointer (some ⟨q, 0, none⟩)
                | 2 => v = .pointer (some ⟨q, 0, none⟩)
                | 3 => v = .slice (some ⟨r, 0, none⟩) N c
                | 4 => v = .int .i64 (i : Int)
                | 5 => v = .pointer (some ⟨q, 0, none⟩)
                | 6 => v = .pointer (some ⟨q, 0, none⟩)
                | 7 => v = .pointer (some ⟨q, 0, none⟩)
                | 8 => v = .slice (some ⟨r, 0, none⟩) N c
                | 9 => v = .int .i64 (i : Int)
                | 10 => v = .pointer (some ⟨r, i * 33, none⟩)
                | 11 => v = .pointer (some ⟨r, i * 33 + 16, none⟩)
                | 12 => v = .agg (bytesV f).toArray
                | 13 => v = .pointer (some ⟨r, i * 33, none⟩)
                | 14 => v = .pointer (some ⟨r, i * 33, none⟩)
                | _ => True) (by kernel_rfl) ?_ ?_ ?_
              · (repeat' (first | exact allLt_zero | refine allLt_succ ?_ ?_))
                · exact fun _ _ _ h _ => h
                · exact fun _ _ _ h _ => h
                · exact fun _ _ _ h _ => h
                · exact fun _ _ _ h _ => h
                · exact fun _ _ _ h _ => h
                · exact fun _ _ _ h _ => h
                · exact fun _ _ _ h _ => h
                · exact fun _ _ _ h _ => h
                · exact fun _ _ _ h _ => h
                · exact fun _ _ _ h _ => h
                · exact fun _ _ _ h _ => h
                · exact fun _ _ _ h _ => h
                · exact fun _ _ _ h _ => h
                · exact fun _ _ _ h _ => h
                · exact fun _ _ _ h _ => h
              · (repeat' (first | exact allLt_zero | refine allLt_succ ?_ ?_))
                · intro a w' hf he
                  have k0 : a.tmps.getD 0 undef = .pointer (some ⟨q, 0, none⟩) := hf.var (by kernel_rfl) rfl
                  refine wpOp_step rfl (fun K hK => ?_)
                  go_simp
                  exact hK _ _ ⟨_, rfl, rfl, World.grownBy.refl _ _⟩
                · intro a w' hf he
                  have f0 : a.tmps.getD 42 undef = .pointer (some ⟨q, 0, none⟩) := he 0 (by kernel_rfl)
                  refine wpOp_step rfl (fun K hK => ?_)
                  go_simp
                  exact hK _ _ ⟨_, rfl, rfl, World.grownBy.refl _ _⟩
                · intro a w' hf he
                  have f1 : a.tmps.getD 43 undef = .pointer (some ⟨q, 0, none⟩) := he 1 (by kernel_rfl)
                  rw [show kindRow _ _ = none from by kernel_rfl] at hf
                  refine wpOp_step rfl (fun K hK => ?_)
                  go_simp
                  exact hK _ _ ⟨_, rfl, rfl, World.grownBy.refl _ _⟩
                · intro a w' hf he
                  have f2 : a.tmps.getD 44 undef = .pointer (some ⟨q, 0, none⟩) := he 2 (by kernel_rfl)
                  rw [show kindRow _ _ = none from by kernel_rfl] at hf
                  have d0 := (hf.bel.block _ (heap_lt B0.out)).trans B0.out
                  have dd : w'.cell? ⟨q, 0, none⟩ = some (.slice (some ⟨r, 0, none⟩) N c) := by simp [World.cell?, d0]
                  clear d0
                  refine wpOp_step rfl (fun K hK => ?_)
                  go_simp
                  exact hK _ _ ⟨_, rfl, rfl, World.grownBy.refl _ _⟩
                · intro a w' hf he
                  have k7 : a.tmps.getD 7 undef = .int .i64 (i : Int) := hf.var (by kernel_rfl) rfl
                  refine wpOp_step rfl (fun K hK => ?_)
                  go_simp
                  exact hK _ _ ⟨_, rfl, rfl, World.grownBy.refl _ _⟩
                · intro a w' hf he
                  have k0 : a.tmps.getD 0 undef = .pointer (some ⟨q, 0, none⟩) := hf.var (by kernel_rfl) rfl
                  refine wpOp_step rfl (fun K hK => ?_)
                  go_simp
                  exact hK _ _ ⟨_, rfl, rfl, World.grownBy.refl _ _⟩
                · intro a w' hf he
                  have f5 : a.tmps.getD 47 undef = .pointer (some ⟨q, 0, none⟩) := he 5 (by kernel_rfl)
                  refine wpOp_step rfl (fun K hK => ?_)
                  go_simp
                  exact hK _ _ ⟨_, rfl, rfl, World.grownBy.refl _ _⟩
                · intro a w' hf he
                  have f6 : a.tmps.getD 48 undef = .pointer (some ⟨q, 0, none⟩) := he 6 (by kernel_rfl)
                  rw [show kindRow _ _ = none from by kernel_rfl] at hf
                  refine wpOp_step rfl (fun K hK => ?_)
                  go_simp
                  exact hK _ _ ⟨_, rfl, rfl, World.grownBy.refl _ _⟩
                · intro a w' hf he
                  have f7 : a.tmps.getD 49 undef = .pointer (some ⟨q, 0, none⟩) := he 7 (by kernel_rfl)
                  rw [show kindRow _ _ = none from by kernel_rfl] at hf
                  have d0 := (hf.bel.block _ (heap_lt B0.out)).trans B0.out
                  have dd : w'.cell? ⟨q, 0, none⟩ = some (.slice (some ⟨r, 0, none⟩) N c) := by simp [World.cell?, d0]
                  clear d0
                  refine wpOp_step rfl (fun K hK => ?_)
                  go_simp
                  exact hK _ _ ⟨_, rfl, rfl, World.grownBy.refl _ _⟩
                · intro a w' hf he
                  have k7 : a.tmps.getD 7 undef = .int .i64 (i : Int) := hf.var (by kernel_rfl) rfl
                  refine wpOp_step rfl (fun K hK => ?_)
                  go_simp
                  exact hK _ _ ⟨_, rfl, rfl, World.grownBy.refl _ _⟩
                · intro a w' hf he
                  have f8 : a.tmps.getD 50 undef = .slice (some ⟨r, 0, none⟩) N c := he 8 (by kernel_rfl)
                  have f9 : a.tmps.getD 51 undef = .int .i64 (i : Int) := he 9 (by kernel_rfl)
                  rw [show kindRow _ _ = none from by kernel_rfl] at hf
                  refine wpOp_step rfl (fun K hK => ?_)
                  go_simp
                  exact hK _ _ ⟨_, rfl, rfl, World.grownBy.refl _ _⟩
                · intro a w' hf he
                  have f10 : a.tmps.getD 52 undef = .pointer (some ⟨r, i * 33, none⟩) := he 10 (by kernel_rfl)
                  rw [show kindRow _ _ = none from by kernel_rfl] at hf
                  refine wpOp_step rfl (fun K hK => ?_)
                  go_simp
                  exact hK _ _ ⟨_, rfl, rfl, World.grownBy.refl _ _⟩
                · intro a w' hf he
                  have f11 : a.tmps.getD 53 undef = .pointer (some ⟨r, i * 33 + 16, none⟩) := he 11 (by kernel_rfl)
                  rw [show kindRow _ _ = none from by kernel_rfl] at hf
                  refine wpOp_step rfl (fun K hK => ?_)
                  refine wp_load_rd 127 (.tmp 53) rfl ⟨r, i * 33 + 16, none⟩ f11 (bytesV f) _ (fun j v hv => (hf.bel.cell (block_lt_of_cell (P2.out j v hv))).trans (P2.out j v hv)) Tryz.underlying127 rfl (by rw [Hfl.out]; kernel_rfl) ?_
                  exact hK _ _ ⟨_, rfl, rfl, World.grownBy.refl _ _⟩
                · intro a w' hf he
                  have f3 : a.tmps.getD 45 undef = .slice (some ⟨r, 0, none⟩) N c := he 3 (by kernel_rfl)
                  have f4 : a.tmps.getD 46 undef = .int .i64 (i : Int) := he 4 (by kernel_rfl)
                  rw [show kindRow _ _ = none from by kernel_rfl] at hf
                  refine wpOp_step rfl (fun K hK => ?_)
                  go_simp
                  exact hK _ _ ⟨_, rfl, rfl, World.grownBy.refl _ _⟩
                · intro a w' hf he
                  have f13 : a.tmps.getD 55 undef = .pointer (some ⟨r, i * 33, none⟩) := he 13 (by kernel_rfl)
                  rw [show kindRow _ _ = none from by kernel_rfl] at hf
                  refine wpOp_step rfl (fun K hK => ?_)
                  go_simp
                  exact hK _ _ ⟨_, rfl, rfl, World.grownBy.refl _ _⟩
              · intro a w' hf he
                obtain ⟨u42, f0⟩ : ∃ u, a.tmps.getD 42 undef = u := ⟨_, rfl⟩
                obtain ⟨u43, f1⟩ : ∃ u, a.tmps.getD 43 undef = u := ⟨_, rfl⟩
                obtain ⟨u44, f2⟩ : ∃ u, a.tmps.getD 44 undef = u := ⟨_, rfl⟩
                obtain ⟨u45, f3⟩ : ∃ u, a.tmps.getD 45 undef = u := ⟨_, rfl⟩
                obtain ⟨u46, f4⟩ : ∃ u, a.tmps.getD 46 undef = u := ⟨_, rfl⟩
                obtain ⟨u47, f5⟩ : ∃ u, a.tmps.getD 47 undef = u := ⟨_, rfl⟩
                obtain ⟨u48, f6⟩ : ∃ u, a.tmps.getD 48 undef = u := ⟨_, rfl⟩
                obtain ⟨u49, f7⟩ : ∃ u, a.tmps.getD 49 undef = u := ⟨_, rfl⟩
                obtain ⟨u50, f8⟩ : ∃ u, a.tmps.getD 50 undef = u := ⟨_, rfl⟩
                obtain ⟨u51, f9⟩ : ∃ u, a.tmps.getD 51 undef = u := ⟨_, rfl⟩
                obtain ⟨u52, f10⟩ : ∃ u, a.tmps.getD 52 undef = u := ⟨_, rfl⟩
                obtain ⟨u53, f11⟩ : ∃ u, a.tmps.getD 53 undef = u := ⟨_, rfl⟩
                have f12 : a.tmps.getD 54 undef = .agg (bytesV f).toArray := he 12 (by decide)
                obtain ⟨u55, f13⟩ : ∃ u, a.tmps.getD 55 undef = u := ⟨_, rfl⟩
                have f14 : a.tmps.getD 56 undef = .pointer (some ⟨r, i * 33, none⟩) := he 14 (by decide)
                have hlit := hf.lit ((42, u42) :: (43, u43) :: (44, u44) :: (45, u45) :: (46, u46) :: (47, u47) :: (48, u48) :: (49, u49) :: (50, u50) :: (51, u51) :: (52, u52) :: (53, u53) :: (54, .agg (bytesV f).toArray) :: (55, u55) :: (56, .pointer (some ⟨r, i * 33, none⟩)) :: []) (by kernel_rfl) ⟨f0, f1, f2, f3, f4, f5, f6, f7, f8, f9, f10, f11, f12, f13, f14, trivial⟩
                have hB := hf.bel
                clear he hf f0 f1 f2 f3 f4 f5 f6 f7 f8 f9 f10 f11 f12 f13 f14 
                subst hlit
                simp only [putAll_nil, putAll_cons, Act.put, List.setIfInBounds_toArray, List.set_cons_zero, List.set_cons_succ]
                simp only [List.drop_succ_cons, List.drop_zero]
                have F0 := Lib.hid (F0.out.trans (Fr.of_bel (S := fun k => k = r) hB) (fun _ _ e => e))
                have B0 := Lib.hid ((hB.block _ (heap_lt B0.out)).trans B0.out)
                have O0 := Lib.hid (Tw.Own.bel O0.out hB)
                clear hB
                obtain ⟨y1, y2, y3⟩ := keep_step Hwd.out Hrw.out Hs.out Hf.out
                have Y1 := Lib.hid y1
                have Y2 := Lib.hid y2
                have Y3 := Lib.hid y3
                clear y1 y2 y3
                go_upto_region 12 with (first
                  | (refine wpL_store_part rfl rfl 127 (.tmp 56) (.tmp 54) rfl 0 129 33 r (i * 33) N c rfl (bytesV f) rfl (by rw [Hfl.out]; kernel_rfl) _ O0.out (by have := Hib.out; have := Hfl.out; omega) bytesV_one _ Y1.out ?_
                     intro w3 o3 g3
                     have O0 := Lib.hid o3
                     have B0 := Lib.hid (heap_grown B0.out g3 (by simpa using hne))
                     have F0 := Lib.hid (F0.out.trans (Fr.grown (S := fun k => k = r) g3 (by simp)) (fun _ _ e => e))
                     clear o3 g3))
                have b0 := B0.out
                have dd0 : w3.cell? ⟨q, 0, none⟩ = some (.slice (some ⟨r, 0, none⟩) N c) := by simp [World.cell?, b0]
                clear b0
                obtain ⟨mid, m1, m2⟩ := lose_steps (i := i) (s := f) (f := f) Y2.out Y3.out Hf.out Hf.out
                have M1 := Lib.hid m1
                have M2 := Lib.hid m2
                clear m1 m2
                go_wp2_with (first
                  | (refine wpL_store_part rfl rfl 127 (.tmp 64) (.tmp 62) rfl 0 129 33 r (i * 33 + 16) N c rfl zl rfl (by kernel_rfl) _ O0.out (by have := Hib.out; have := Hzl.out; omega) zl_one _ M1.out ?_
                     intro w4 o4 g4
                     have O4 := Lib.hid o4
                     have B4 := Lib.hid (heap_grown B0.out g4 (by simpa using hne))
                     have F4 := Lib.hid (F0.out.trans (Fr.grown (S := fun k => k = r) g4 (by simp)) (fun _ _ e => e))
                     have b4 := B4.out
                     have dd : w4.cell? ⟨q, 0, none⟩ = some (.slice (some ⟨r, 0, none⟩) N c) := by simp [World.cell?, b4]
                     clear o4 g4 b4)
                  | (refine wpL_store_one rfl rfl 4 (.tmp 71) (.const (.bool false)) rfl 0 129 33 r (i * 33 + 32) N c rfl _ rfl rfl (by kernel_rfl) _ O4.out (by have := Hib.out; omega) rfl _ M2.out ?_
                     intro w5 o5 g5
                     have O5 := Lib.hid o5
                     have B5 := Lib.hid (heap_grown B4.out g5 (by simpa using hne))
                     have F5 := Lib.hid (F4.out.trans (Fr.grown (S := fun k => k = r) g5 (by simp)) (fun _ _ e => e))
                     clear o5 g5 dd))
                go_roundw
                case rel =>
                  refine ⟨i + 1, by omega, by go_num, by rw [H2.out]; go_num, ?_, Lib.hid (HF.out.trans F5.out (fun _ _ e => .inr e))⟩
                  rw [H2.out]
                  have ho5 := O5.out
                  have hb5 : w5.heap[q]? = wr.heap[q]? := by rw [B5.out, Hp.out, HL.out]
                  rw [List.set_set] at ho5
                  exact Lib.hid (keep_end HK.out (by rw [HL.out]; exact hin) Hf.out (by rw [H3.out]; simp) hb5 (by rw [HL.out]; exact ho5))
                case measure => simp [intOf] <;> omega
            | false =>
              generalize mask / 2 ^ j = mj at *
              by_cases hb : mj % 2 = 1
              · obtain rfl : kp = true := by rw [Hsp.out, decide_eq_true hb]; rfl
                have hbi : ((mj : Int) % 2 == 1) = true := by rw [beq_iff_eq]; omega
                clear hb
                go_upto_region 11 with (fail)
                refine wp_region_phi (by kernel_rfl) 15 none (fun _ => false) (fun i_ v wz => match i_ with
                  | 0 => v = .pointer (some ⟨q, 0, none⟩)
                  | 1 => v = .pointer (some ⟨q, 0, none⟩)
                  | 2 => v = .pointer (some ⟨q, 0, none⟩)
                  | 3 => v = .slice (some ⟨r, 0, none⟩) N c
                  | 4 => v = .int .i64 (i : Int)
                  | 5 => v = .pointer (some ⟨q, 0, none⟩)
                  | 6 => v = .pointer (some ⟨q, 0, none⟩)
                  | 7 => v = .pointer (some ⟨q, 0, none⟩)
                  | 8 => v = .slice (some ⟨r, 0, none⟩) N c
                  | 9 => v = .int .i64 (i : Int)
                  | 10 => v = .pointer (some ⟨r, i * 33, none⟩)
                  | 11 => v = .pointer (some ⟨r, i * 33 + 16, none⟩)
                  | 12 => v = .agg (bytesV f).toArray
                  | 13 => v = .pointer (some ⟨r, i * 33, none⟩)
                  | 14 => v = .pointer (some ⟨r, i * 33, none⟩)
                  | _ => True) (by kernel_rfl) ?_ ?_ ?_
                · (repeat' (first | exact allLt_zero | refine allLt_succ ?_ ?_))
                  · exact fun _ _ _ h _ => h
                  · exact fun _ _ _ h _ => h
                  · exact fun _ _ _ h _ => h
                  · exact fun _ _ _ h _ => h
                  · exact fun _ _ _ h _ => h
                  · exact fun _ _ _ h _ => h
                  · exact fun _ _ _ h _ => h
                  · exact fun _ _ _ h _ => h
                  · exact fun _ _ _ h _ => h
                  · exact fun _ _ _ h _ => h
                  · exact fun _ _ _ h _ => h
                  · exact fun _ _ _ h _ => h
                  · exact fun _ _ _ h _ => h
                  · exact fun _ _ _ h _ => h
                  · exact fun _ _ _ h _ => h
                · (repeat' (first | exact allLt_zero | refine allLt_succ ?_ ?_))
                  · intro a w' hf he
                    have k0 : a.tmps.getD 0 undef = .pointer (some ⟨q, 0, none⟩) := hf.var (by kernel_rfl) rfl
                    refine wpOp_step rfl (fun K hK => ?_)
                    go_simp
                    exact hK _ _ ⟨_, rfl, rfl, World.grownBy.refl _ _⟩
                  · intro a w' hf he
                    have f0 : a.tmps.getD 42 undef = .pointer (some ⟨q, 0, none⟩) := he 0 (by kernel_rfl)
                    refine wpOp_step rfl (fun K hK => ?_)
                    go_simp
                    exact hK _ _ ⟨_, rfl, rfl, World.grownBy.refl _ _⟩
                  · intro a w' hf he
                    have f1 : a.tmps.getD 43 undef = .pointer (some ⟨q, 0, none⟩) := he 1 (by kernel_rfl)
                    rw [show kindRow _ _ = none from by kernel_rfl] at hf
                    refine wpOp_step rfl (fun K hK => ?_)
                    go_simp
                    exact hK _ _ ⟨_, rfl, rfl, World.grownBy.refl _ _⟩
                  · intro a w' hf he
                    have f2 : a.tmps.getD 44 undef = .pointer (some ⟨q, 0, none⟩) := he 2 (by kernel_rfl)
                    rw [show kindRow _ _ = none from by kernel_rfl] at hf
                    have d0 := (hf.bel.block _ (heap_lt B0.out)).trans B0.out
                    have dd : w'.cell? ⟨q, 0, none⟩ = some (.slice (some ⟨r, 0, none⟩) N c) := by simp [World.cell?, d0]
                    clear d0
                    refine wpOp_step rfl (fun K hK => ?_)
                    go_simp
                    exact hK _ _ ⟨_, rfl, rfl, World.grownBy.refl _ _⟩
                  · intro a w' hf he
                    have k7 : a.tmps.getD 7 undef = .int .i64 (i : Int) := hf.var (by kernel_rfl) rfl
                    refine wpOp_step rfl (fun K hK => ?_)
                    go_simp
                    exact hK _ _ ⟨_, rfl, rfl, World.grownBy.refl _ _⟩
                  · intro a w' hf he
                    have k0 : a.tmps.getD 0 undef = .pointer (some ⟨q, 0, none⟩) := hf.var (by kernel_rfl) rfl
                    refine wpOp_step rfl (fun K hK => ?_)
                    go_simp
                    exact hK _ _ ⟨_, rfl, rfl, World.grownBy.refl _ _⟩
                  · intro a w' hf he
                    have f5 : a.tmps.getD 47 undef = .pointer (some ⟨q, 0, none⟩) := he 5 (by kernel_rfl)
                    refine wpOp_step rfl (fun K hK => ?_)
                    go_simp
                    exact hK _ _ ⟨_, rfl, rfl, World.grownBy.refl _ _⟩
                  · intro a w' hf he
                    have f6 : a.tmps.getD 48 undef = .pointer (some ⟨q, 0, none⟩) := he 6 (by kernel_rfl)
                    rw [show kindRow _ _ = none from by kernel_rfl] at hf
                    refine wpOp_step rfl (fun K hK => ?_)
                    go_simp
                    exact hK _ _ ⟨_, rfl, rfl, World.grownBy.refl _ _⟩
                  · intro a w' hf he
                    have f7 : a.tmps.getD 49 undef = .pointer (some ⟨q, 0, none⟩) := he 7 (by kernel_rfl)
                    rw [show kindRow _ _ = none from by kernel_rfl] at hf
                    have d0 := (hf.bel.block _ (heap_lt B0.out)).trans B0.out
                    have dd : w'.cell? ⟨q, 0, none⟩ = some (.slice (some ⟨r, 0, none⟩) N c) := by simp [World.cell?, d0]
                    clear d0
                    refine wpOp_step rfl (fun K hK => ?_)
                    go_simp
                    exact hK _ _ ⟨_, rfl, rfl, World.grownBy.refl _ _⟩
                  · intro a w' hf he
                    have k7 : a.tmps.getD 7 undef = .int .i64 (i : Int) := hf.var (by kernel_rfl) rfl
                    refine wpOp_step rfl (fun K hK => ?_)
                    go_simp
                    exact hK _ _ ⟨_, rfl, rfl, World.grownBy.refl _ _⟩
                  · intro a w' hf he
                    have f8 : a.tmps.getD 50 undef = .slice (some ⟨r, 0, none⟩) N c := he 8 (by kernel_rfl)
                    have f9 : a.tmps.getD 51 undef = .int .i64 (i : Int) := he 9 (by kernel_rfl)
                    rw [show kindRow _ _ = none from by kernel_rfl] at hf
                    refine wpOp_step rfl (fun K hK => ?_)
                    go_simp
                    exact hK _ _ ⟨_, rfl, rfl, World.grownBy.refl _ _⟩
                  · intro a w' hf he
                    have f10 : a.tmps.getD 52 undef = .pointer (some ⟨r, i * 33, none⟩) := he 10 (by kernel_rfl)
                    rw [show kindRow _ _ = none from by kernel_rfl] at hf
                    refine wpOp_step rfl (fun K hK => ?_)
                    go_simp
                    exact hK _ _ ⟨_, rfl, rfl, World.grownBy.refl _ _⟩
                  · intro a w' hf he
                    have f11 : a.tmps.getD 53 undef = .pointer (some ⟨r, i * 33 + 16, none⟩) := he 11 (by kernel_rfl)
                    rw [show kindRow _ _ = none from by kernel_rfl] at hf
                    refine wpOp_step rfl (fun K hK => ?_)
                    refine wp_load_rd 127 (.tmp 53) rfl ⟨r, i * 33 + 16, none⟩ f11 (bytesV f) _ (fun j v hv => (hf.bel.cell (block_lt_of_cell (P2.out j v hv))).trans (P2.out j v hv)) Tryz.underlying127 rfl (by rw [Hfl.out]; kernel_rfl) ?_
                    exact hK _ _ ⟨_, rfl, rfl, World.grownBy.refl _ _⟩
                  · intro a w' hf he
                    have f3 : a.tmps.getD 45 undef = .slice (some ⟨r, 0, none⟩) N c := he 3 (by kernel_rfl)
                    have f4 : a.tmps.getD 46 undef = .int .i64 (i : Int) := he 4 (by kernel_rfl)
                    rw [show kindRow _ _ = none from by kernel_rfl] at hf
                    refine wpOp_step rfl (fun K hK => ?_)
                    go_simp
                    exact hK _ _ ⟨_, rfl, rfl, World.grownBy.refl _ _⟩
                  · intro a w' hf he
                    have f13 : a.tmps.getD 55 undef = .pointer (some ⟨r, i * 33, none⟩) := he 13 (by kernel_rfl)
                    rw [show kindRow _ _ = none from by kernel_rfl] at hf
                    refine wpOp_step rfl (fun K hK => ?_)
                    go_simp
                    exact hK _ _ ⟨_, rfl, rfl, World.grownBy.refl _ _⟩
                · intro a w' hf he
                  obtain ⟨u42, f0⟩ : ∃ u, a.tmps.getD 42 undef = u := ⟨_, rfl⟩
                  obtain ⟨u43, f1⟩ : ∃ u, a.tmps.getD 43 undef = u := ⟨_, rfl⟩
                  obtain ⟨u44, f2⟩ : ∃ u, a.tmps.getD 44 undef = u := ⟨_, rfl⟩
                  obtain ⟨u45, f3⟩ : ∃ u, a.tmps.getD 45 undef = u := ⟨_, rfl⟩
                  obtain ⟨u46, f4⟩ : ∃ u, a.tmps.getD 46 undef = u := ⟨_, rfl⟩
                  obtain ⟨u47, f5⟩ : ∃ u, a.tmps.getD 47 undef = u := ⟨_, rfl⟩
                  obtain ⟨u48, f6⟩ : ∃ u, a.tmps.getD 48 undef = u := ⟨_, rfl⟩
                  obtain ⟨u49, f7⟩ : ∃ u, a.tmps.getD 49 undef = u := ⟨_, rfl⟩
                  obtain ⟨u50, f8⟩ : ∃ u, a.tmps.getD 50 undef = u := ⟨_, rfl⟩
                  obtain ⟨u51, f9⟩ : ∃ u, a.tmps.getD 51 undef = u := ⟨_, rfl⟩
                  obtain ⟨u52, f10⟩ : ∃ u, a.tmps.getD 52 undef = u := ⟨_, rfl⟩
                  obtain ⟨u53, f11⟩ : ∃ u, a.tmps.getD 53 undef = u := ⟨_, rfl⟩
                  have f12 : a.tmps.getD 54 undef = .agg (bytesV f).toArray := he 12 (by decide)
                  obtain ⟨u55, f13⟩ : ∃ u, a.tmps.getD 55 undef = u := ⟨_, rfl⟩
                  have f14 : a.tmps.getD 56 undef = .pointer (some ⟨r, i * 33, none⟩) := he 14 (by decide)
                  have hlit := hf.lit ((42, u42) :: (43, u43) :: (44, u44) :: (45, u45) :: (46, u46) :: (47, u47) :: (48, u48) :: (49, u49) :: (50, u50) :: (51, u51) :: (52, u52) :: (53, u53) :: (54, .agg (bytesV f).toArray) :: (55, u55) :: (56, .pointer (some ⟨r, i * 33, none⟩)) :: []) (by kernel_rfl) ⟨f0, f1, f2, f3, f4, f5, f6, f7, f8, f9, f10, f11, f12, f13, f14, trivial⟩
                  have hB := hf.bel
                  clear he hf f0 f1 f2 f3 f4 f5 f6 f7 f8 f9 f10 f11 f12 f13 f14 
                  subst hlit
                  simp only [putAll_nil, putAll_cons, Act.put, List.setIfInBounds_toArray, List.set_cons_zero, List.set_cons_succ]
                  simp only [List.drop_succ_cons, List.drop_zero]
                  have F0 := Lib.hid (F0.out.trans (Fr.of_bel (S := fun k => k = r) hB) (fun _ _ e => e))
                  have B0 := Lib.hid ((hB.block _ (heap_lt B0.out)).trans B0.out)
                  have O0 := Lib.hid (Tw.Own.bel O0.out hB)
                  clear hB
                  obtain ⟨y1, y2, y3⟩ := keep_step Hwd.out Hrw.out Hs.out Hf.out
                  have Y1 := Lib.hid y1
                  have Y2 := Lib.hid y2
                  have Y3 := Lib.hid y3
                  clear y1 y2 y3
                  go_upto_region 12 with (first
                    | (refine wpL_store_part rfl rfl 127 (.tmp 56) (.tmp 54) rfl 0 129 33 r (i * 33) N c rfl (bytesV f) rfl (by rw [Hfl.out]; kernel_rfl) _ O0.out (by have := Hib.out; have := Hfl.out; omega) bytesV_one _ Y1.out ?_
                       intro w3 o3 g3
                       have O0 := Lib.hid o3
                       have B0 := Lib.hid (heap_grown B0.out g3 (by simpa using hne))
                       have F0 := Lib.hid (F0.out.trans (Fr.grown (S := fun k => k = r) g3 (by simp)) (fun _ _ e => e))
                       clear o3 g3))
                  have b0 := B0.out
                  have dd0 : w3.cell? ⟨q, 0, none⟩ = some (.slice (some ⟨r, 0, none⟩) N c) := by simp [World.cell?, b0]
                  clear b0
                  obtain ⟨mid, m1, m2⟩ := lose_steps (i := i) (s := f) (f := f) Y2.out Y3.out Hf.out Hf.out
                  have M1 := Lib.hid m1
                  have M2 := Lib.hid m2
                  clear m1 m2
                  go_wp2_with (first
                    | (refine wpL_store_part rfl rfl 127 (.tmp 64) (.tmp 62) rfl 0 129 33 r (i * 33 + 16) N c rfl zl rfl (by kernel_rfl) _ O0.out (by have := Hib.out; have := Hzl.out; omega) zl_one _ M1.out ?_
                       intro w4 o4 g4
                       have O4 := Lib.hid o4
                       have B4 := Lib.hid (heap_grown B0.out g4 (by simpa using hne))
                       have F4 := Lib.hid (F0.out.trans (Fr.grown (S := fun k => k = r) g4 (by simp)) (fun _ _ e => e))
                       have b4 := B4.out
                       have dd : w4.cell? ⟨q, 0, none⟩ = some (.slice (some ⟨r, 0, none⟩) N c) := by simp [World.cell?, b4]
                       clear o4 g4 b4)
                    | (refine wpL_store_one rfl rfl 4 (.tmp 71) (.const (.bool false)) rfl 0 129 33 r (i * 33 + 32) N c rfl _ rfl rfl (by kernel_rfl) _ O4.out (by have := Hib.out; omega) rfl _ M2.out ?_
                       intro w5 o5 g5
                       have O5 := Lib.hid o5
                       have B5 := Lib.hid (heap_grown B4.out g5 (by simpa using hne))
                       have F5 := Lib.hid (F4.out.trans (Fr.grown (S := fun k => k = r) g5 (by simp)) (fun _ _ e => e))
                       clear o5 g5 dd))
                  go_roundw
                  case rel =>
                    refine ⟨i + 1, by omega, by go_num, by rw [H2.out]; go_num, ?_, Lib.hid (HF.out.trans F5.out (fun _ _ e => .inr e))⟩
                    rw [H2.out]
                    have ho5 := O5.out
                    have hb5 : w5.heap[q]? = wr.heap[q]? := by rw [B5.out, Hp.out, HL.out]
                    rw [List.set_set] at ho5
                    exact Lib.hid (keep_end HK.out (by rw [HL.out]; exact hin) Hf.out (by rw [H3.out]; simp) hb5 (by rw [HL.out]; exact ho5))
                  case measure => simp [intOf] <;> omega
              · obtain rfl : kp = false := by rw [Hsp.out, decide_eq_false hb]; rfl
                have hbi : ((mj : Int) % 2 == 1) = false := by rw [beq_eq_false_iff_ne]; omega
                clear hb
                go_upto_region 12 with (fail)
                obtain ⟨mid, m1, m2⟩ := lose_steps (i := i) (s := s) (f := f) Hwd.out Hrw.out Hs.out Hf.out
                have M1 := Lib.hid m1
                have M2 := Lib.hid m2
                clear m1 m2
                go_wp2_with (first
                  | (refine wpL_store_part rfl rfl 127 (.tmp 64) (.tmp 62) rfl 0 129 33 r (i * 33 + 16) N c rfl zl rfl (by kernel_rfl) _ O0.out (by have := Hib.out; have := Hzl.out; omega) zl_one _ M1.out ?_
                     intro w4 o4 g4
                     have O4 := Lib.hid o4
                     have B4 := Lib.hid (heap_grown B0.out g4 (by simpa using hne))
                     have F4 := Lib.hid (F0.out.trans (Fr.grown (S := fun k => k = r) g4 (by simp)) (fun _ _ e => e))
                     have b4 := B4.out
                     have dd : w4.cell? ⟨q, 0, none⟩ = some (.slice (some ⟨r, 0, none⟩) N c) := by simp [World.cell?, b4]
                     clear o4 g4 b4)
                  | (refine wpL_store_one rfl rfl 4 (.tmp 71) (.const (.bool false)) rfl 0 129 33 r (i * 33 + 32) N c rfl _ rfl rfl (by kernel_rfl) _ O4.out (by have := Hib.out; omega) rfl _ M2.out ?_
                     intro w5 o5 g5
                     have O5 := Lib.hid o5
                     have B5 := Lib.hid (heap_grown B4.out g5 (by simpa using hne))
                     have F5 := Lib.hid (F4.out.trans (Fr.grown (S := fun k => k = r) g5 (by simp)) (fun _ _ e => e))
                     clear o5 g5 dd))
                go_roundw
                case rel =>
                  refine ⟨i + 1, by omega, by go_num, by rw [H2.out]; go_num, ?_, Lib.hid (HF.out.trans F5.out (fun _ _ e => .inr e))⟩
                  rw [H2.out]
                  have ho5 := O5.out
                  have hb5 : w5.heap[q]? = wr.heap[q]? := by rw [B5.out, Hp.out, HL.out]
                  skip
                  exact Lib.hid (keep_end HK.out (by rw [HL.out]; exact hin) Hs.out (by rw [H3.out]; simp) hb5 (by rw [HL.out]; exact ho5))
                case measure => simp [intOf] <;> omega
    · obtain rfl : i = N := by omega
      go_wp2_with fail
      refine bodyPost_end (results_none rfl _ _ _) rfl ?_
      have hk := HK.out
      rw [← HN.out, List.take_length, Hend.out] at hk
      exact ⟨rfl, hk, HF.out⟩
end
end Go.Proofs.YtaldlapnhhhclaaGreat.Disk
