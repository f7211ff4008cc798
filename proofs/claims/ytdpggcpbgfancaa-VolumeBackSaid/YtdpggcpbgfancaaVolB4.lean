/- Pieces of a disk's area read, written and gathered, plainly. Conditions: none. -/
import Derived.Test.YtdpggcpbgfancaaVolB3
set_option linter.unusedVariables false
set_option linter.unusedSimpArgs false
namespace Go.Proofs.Ytdpggcpbgfancaa.Vol
open Go.RowKit Tw Disk
open Go.Proofs.Ytdpggcpbgfancaa.Data (area Fine dRead dWrite cat cat_take cat_drop cat_secs secAt viewAt_len area_len fine_dRead fine_dWrite fine_wseq secs_nat keeps_plain)
theorem area_read {d : Dsk} (h : Fine d) {x y : Nat} (hy : 1 ≤ y) (hx : x + y ≤ d.cells.length - 8) (hc : 8 < d.cells.length) : dRead d (x : Int) (y : Int) = (((area d).drop (16 * x)).take (16 * y), 0) := by
  have hn := h.ok.n
  rw [fine_dRead h (by unfold Span.Good; rw [secs_nat]; omega)]
  congr 1
  have k : ∀ i, i < d.cells.length - 8 → (Data.viewAt d (8 + i)).length = 16 := fun i _ => viewAt_len h.ok _
  unfold area
  rw [Nat.mul_comm 16 x, Nat.mul_comm 16 y, cat_drop k (by omega), cat_take (fun i hi => k (x + i) (by omega)) (by omega)]
  simp only [Nat.add_assoc]
theorem area_write {d : Dsk} (h : Fine d) (ho : d.ops + 1024 < 1000000000) {x y : Nat} {b : List UInt8} (hy : 1 ≤ y) (hx : x + y ≤ d.cells.length - 8) (hc : 8 < d.cells.length) (hb : b.length = 16 * y) :
    (dWrite d (x : Int) (y : Int) b).2 = 0 ∧ Fine (dWrite d (x : Int) (y : Int) b).1 ∧ (dWrite d (x : Int) (y : Int) b).1.cells.length = d.cells.length ∧ (dWrite d (x : Int) (y : Int) b).1.ops ≤ d.ops + 1024 ∧
      area (dWrite d (x : Int) (y : Int) b).1 = (area d).take (16 * x) ++ (b ++ (area d).drop (16 * x + 16 * y)) := by
  have hn := h.ok.n
  have hg : Span.Good (x : Int) (y : Int) (Data.secs d) := by unfold Span.Good; rw [secs_nat]; omega
  rcases fine_dWrite h ho (x : Int) (y : Int) b with ⟨h1, -⟩ | ⟨h1, o, L, e1, e2, h2, h3, h4, h5, h6, h7⟩
  · exfalso
    apply h1
    unfold dWrite
    rw [if_pos hg, if_pos (by omega), Int.toNat_natCast, Int.toNat_natCast]
    exact (fine_wseq (o := x) (L := y) (b := b) (by omega) h (by omega) (by omega) y (Nat.le_refl _)).1
  · obtain rfl : x = o := by omega
    obtain rfl : y = L := by omega
    refine ⟨h1, h4, h5, h6, ?_⟩
    obtain ⟨q1, q2, q3⟩ := keeps_plain h h4 h5 h2 h3 h7
    have hl := area_len h4.ok
    generalize area (dWrite d (x : Int) (y : Int) b).1 = B at *
    rw [← q2, ← Nat.mul_add, ← q3, ← q1]
    conv => lhs; rw [← List.take_append_drop (16 * (x + y)) B]
    rw [← List.append_assoc]
    congr 1
    conv => lhs; rw [← List.take_append_drop (16 * x) (B.take (16 * (x + y)))]
    rw [List.take_take, Nat.min_eq_left (by omega)]
section
variable {A b : List UInt8} {o e : Nat}
theorem pn_at (hA : A.length = 512) (hb : o + b.length = e) (he : e ≤ 512) {i : Nat} (hi : i < num o e) :
    Pn A b o e (place o i) ((min (place o i + 128) e - place o i + 15) / 16) (o - place o i) (min (place o i + 128) e - place o i) := by
  have h1 := lt_num.1 hi
  exact ⟨hA, hb, he, by unfold place; omega, h1, rfl, rfl, rfl, fun h => by unfold place at *; omega⟩
theorem pcs_get' {i : Nat} (hi : i < num o e) : (pcs o e)[i]? = some (pc o e (place o i)) := by simp [pcs, hi]
theorem pis_get {i : Nat} (hi : i < num o e) : ((pcs o e).map toPi)[i]? = some (toPi (pc o e (place o i))) := by rw [List.getElem?_map, pcs_get' hi]; rfl
theorem place_zero : place o 0 ≤ o := by unfold place; omega
theorem place_next (k : Nat) : place o (k + 1) = place o k + 128 := by unfold place; omega
theorem place_all (ho : o < e) : e ≤ place o (num o e) := by
  rcases Nat.lt_or_ge (place o (num o e)) e with h | h
  · exact absurd (lt_num.2 h) (Nat.lt_irrefl _)
  · exact h
theorem ato_pcs (ho : o < e) : ∀ k, k ≤ num o e → ato ((pcs o e).map toPi) k = min (place o k) e - o := by
  intro k
  induction k with
  | zero => intro _; rw [ato_zero]; have := place_zero (o := o); omega
  | succ k ih =>
    intro hk
    have h1 := lt_num.1 (show k < num o e by omega)
    rw [ato_next (pis_get (by omega)), ih (by omega), place_next]
    have hpl : pl (toPi (pc o e (place o k))) = (min (place o k + 128) e - place o k) - (o - place o k) := by simp [pl, toPi, pc]
    rw [hpl]
    omega
theorem told_get {d : Dsk} (h : Fine d) (hc : d.cells.length = 40) (hA : (area d).length = 512) (he : e ≤ 512) {i : Nat} (hi : i < num o e) :
    (told d (pcs o e))[i]? = some (((area d).drop (place o i)).take (16 * ((min (place o i + 128) e - place o i + 15) / 16))) := by
  have h1 := lt_num.1 hi
  have h2 : 16 * (place o i / 16) = place o i := by unfold place; omega
  unfold told
  rw [List.getElem?_map, pcs_get' hi, Option.map_some, pc]
  simp only
  rw [area_read h (by omega) (by omega) (by omega), h2]
theorem told_len (d : Dsk) : (told d (pcs o e)).length = num o e := by simp [told, pcs]
theorem read_ok {d : Dsk} (h : Fine d) (hc : d.cells.length = 40) (he : e ≤ 512) : ∀ q ∈ pcs o e, (dRead d (q.1 : Int) (q.2.1 : Int)).2 = 0 ∧ (dRead d (q.1 : Int) (q.2.1 : Int)).1.length ≤ 128 := by
  intro q hq
  simp only [pcs, List.mem_map, List.mem_range] at hq
  obtain ⟨i, hi, rfl⟩ := hq
  have h1 := lt_num.1 hi
  have h2 : 16 * (place o i / 16) = place o i := by unfold place; omega
  simp only [pc]
  rw [area_read h (by omega) (by omega) (by omega)]
  refine ⟨rfl, ?_⟩
  simp only [List.length_take]
  omega
theorem fits_pcs {d : Dsk} (h : Fine d) (hc : d.cells.length = 40) (hA : (area d).length = 512) (he : e ≤ 512) (ho : o ≤ e) : Fits ((pcs o e).map toPi) (told d (pcs o e)) := by
  refine ⟨by rw [List.length_map, told_len, pcs_length], fun i p t hp ht => ?_⟩
  have hi : i < num o e := by
    have := (List.getElem?_eq_some_iff.1 ht).1
    rw [told_len] at this
    exact this
  have h1 := lt_num.1 hi
  rw [pis_get hi] at hp
  rw [told_get h hc hA he hi] at ht
  injection hp with hp
  injection ht with ht
  subst hp ht
  have h2 : 16 * (place o i / 16) = place o i := by unfold place; omega
  have h3 : o < place o i + 128 := by unfold place; omega
  unfold Good
  simp only [toPi, pc, List.length_take, List.length_drop]
  omega
/-- what is gathered at the end -/
theorem gat_pcs {d : Dsk} (h : Fine d) (hc : d.cells.length = 40) (hA : A.length = 512) (hb : o + b.length = e) (he : e ≤ 512) (ho : o < e) (hp : area d = pat A b o (e - o)) : ∀ k, k ≤ num o e → gat (((pcs o e).map toPi).take k) ((told d (pcs o e)).take k) = b.take (min (place o k) e - o) := by
  have hA2 : (area d).length = 512 := by rw [hp, pat_len (by omega) (by omega), hA]
  intro k
  induction k with
  | zero => intro _; have := place_zero (o := o); rw [show min (place o 0) e - o = 0 by omega]; simp [gat]
  | succ k ih =>
    intro hk
    have hi : k < num o e := by omega
    have h1 := lt_num.1 hi
    have hpn := pn_at (A := A) hA hb he hi
    have hg := hpn.gather ho
    rw [gat_next (pis_get hi) (told_get h hc hA2 he hi), ih (by omega), hp, place_next]
    have e1 : gatAt (toPi (pc o e (place o k))) (((pat A b o (e - o)).drop (place o k)).take (16 * ((min (place o k + 128) e - place o k + 15) / 16))) = (b.take (min (place o k + 128) e - o)).drop (place o k - o) := hg
    rw [e1]
    have e2 : min (place o k) e - o = place o k - o := by omega
    rw [e2]
    conv => rhs; rw [← List.take_append_drop (place o k - o) (b.take (min (place o k + 128) e - o))]
    have e3 : min (place o k - o) (min (place o k + 128) e - o) = place o k - o := by omega
    rw [List.take_take, e3]
theorem gat_end {d : Dsk} (h : Fine d) (hc : d.cells.length = 40) (hA : A.length = 512) (hb : o + b.length = e) (he : e ≤ 512) (ho : o < e) (hp : area d = pat A b o (e - o)) : gat ((pcs o e).map toPi) (told d (pcs o e)) = b := by
  have h1 := gat_pcs h hc hA hb he ho hp (num o e) (Nat.le_refl _)
  rw [List.take_of_length_le (by rw [List.length_map, pcs_length]; exact Nat.le_refl _), List.take_of_length_le (by rw [told_len]; exact Nat.le_refl _)] at h1
  rw [h1, List.take_of_length_le]
  have := place_all ho
  omega
/-- one write of the row of writes -/
theorem write_next {d0 d : Dsk} (h0 : Fine d0) (hc0 : d0.cells.length = 40) (h : Fine d) (hc : d.cells.length = 40) (hops : d.ops + 1024 < 1000000000) (hb : o + b.length = e) (he : e ≤ 512) (ho : o < e) {k : Nat} (hk : k < num o e)
    (hp : area d = pat (area d0) b o (min (place o k) e - o)) :
    ∃ x y data, wrq ((pcs o e).map toPi) (told d0 (pcs o e)) b k = (1, x, y, data) ∧ 1 ≤ y ∧ y ≤ 8 ∧ x + y ≤ 32 ∧ data.length = 16 * y ∧ (dWrite d (x : Int) (y : Int) data).2 = 0 ∧ Fine (dWrite d (x : Int) (y : Int) data).1 ∧ (dWrite d (x : Int) (y : Int) data).1.cells.length = 40 ∧
      (dWrite d (x : Int) (y : Int) data).1.ops ≤ d.ops + 1024 ∧ area (dWrite d (x : Int) (y : Int) data).1 = pat (area d0) b o (min (place o (k + 1)) e - o) := by
  have hA : (area d0).length = 512 := by rw [area_len h0.ok, hc0]
  have h1 := lt_num.1 hk
  have hpn := pn_at (A := area d0) hA hb he hk
  obtain ⟨n1, n2, n3, n4, n5, n6⟩ := hpn.nums
  have hst := hpn.step ho
  have h2 : 16 * (place o k / 16) = place o k := by unfold place; omega
  have hw : wrq ((pcs o e).map toPi) (told d0 (pcs o e)) b k = (1, place o k / 16, (min (place o k + 128) e - place o k + 15) / 16, putAt (toPi (pc o e (place o k))) (((area d0).drop (place o k)).take (16 * ((min (place o k + 128) e - place o k + 15) / 16))) (b.drop (min (place o k) e - o))) := by
    unfold wrq
    rw [pis_get hk, told_get h0 hc0 hA he hk]
    simp only
    rw [ato_pcs ho k (by omega)]
    simp only [toPi, pc, Int.toNat_natCast]
  have e2 : min (place o k) e - o = place o k - o := by omega
  have hput : (putAt (toPi (pc o e (place o k))) (((area d0).drop (place o k)).take (16 * ((min (place o k + 128) e - place o k + 15) / 16))) (b.drop (min (place o k) e - o))).length = 16 * ((min (place o k + 128) e - place o k + 15) / 16) := by
    have hpl : pl (toPi (pc o e (place o k))) = (min (place o k + 128) e - place o k) - (o - place o k) := by simp [pl, toPi, pc]
    unfold putAt
    rw [hpl]
    simp only [toPi, pc, Int.toNat_natCast, List.length_append, List.length_take, List.length_drop]
    omega
  refine ⟨_, _, _, hw, n3, n4, by omega, hput, ?_⟩
  obtain ⟨w1, w2, w3, w4, w5⟩ := area_write h hops (x := place o k / 16) (y := (min (place o k + 128) e - place o k + 15) / 16) (b := putAt (toPi (pc o e (place o k))) (((area d0).drop (place o k)).take (16 * ((min (place o k + 128) e - place o k + 15) / 16))) (b.drop (min (place o k) e - o))) (by omega) (by omega) (by omega) hput
  refine ⟨w1, w2, by omega, w4, ?_⟩
  rw [w5, hp, e2, h2, place_next]
  exact hst
end
end Go.Proofs.Ytdpggcpbgfancaa.Vol
