/- What was written piece by piece is gathered, plainly. Conditions: none. -/
import Derived.Test.YtdpggcpbgfancaaVolB2
set_option linter.unusedVariables false
set_option linter.unusedSimpArgs false
namespace Go.Proofs.Ytdpggcpbgfancaa.Vol
open Go.RowKit Tw Disk
open Go.Proofs.Ytdpggcpbgfancaa.Data (area Fine viewAt dRead dWrite)
def toPi (p : Pc) : Pi := ((p.1 : Int), (p.2.1 : Int), (p.2.2.1 : Int), (p.2.2.2 : Int))
theorem pis_pcs (l : List Pc) : pisV (l.map toPi) = pcsV l := by
  induction l with
  | nil => rfl
  | cons p l ih => simp only [pisV, pcsV, List.map_cons, List.flatMap_cons] at *; rw [ih]; rfl
/-- bytes with some of b laid from o on -/
def pat (A b : List UInt8) (o m : Nat) : List UInt8 := A.take o ++ (b.take m ++ A.drop (o + m))
theorem pat_len {A b : List UInt8} {o m : Nat} (hm : m ≤ b.length) (h : o + m ≤ A.length) : (pat A b o m).length = A.length := by simp [pat]; omega
theorem pat_zero (A b : List UInt8) (o : Nat) : pat A b o 0 = A := by simp [pat]
/-- a place of the patched bytes -/
theorem pat_get {A b : List UInt8} {o m : Nat} (hm : m ≤ b.length) (h : o + m ≤ A.length) (j : Nat) : (pat A b o m)[j]? = if j < o then A[j]? else if j < o + m then b[j - o]? else A[j]? := by
  unfold pat
  by_cases h1 : j < o
  · rw [if_pos h1, List.getElem?_append_left (by simp; omega), List.getElem?_take, if_pos h1]
  · rw [if_neg h1, List.getElem?_append_right (by simp; omega)]
    have ho : (A.take o).length = o := by simp; omega
    rw [ho]
    by_cases h2 : j < o + m
    · rw [if_pos h2, List.getElem?_append_left (by simp; omega), List.getElem?_take, if_pos (by omega)]
    · rw [if_neg h2, List.getElem?_append_right (by simp; omega)]
      have hb : (b.take m).length = m := by simp; omega
      rw [hb, List.getElem?_drop]
      congr 1
      omega
/-- a piece's numbers -/
structure Pn (A b : List UInt8) (o e a L F T : Nat) : Prop where
  lenA : A.length = 512
  lenb : o + b.length = e
  le : e ≤ 512
  a16 : a % 16 = 0
  ae : a < e
  hT : T = min (a + 128) e - a
  hF : F = o - a
  hL : L = (T + 15) / 16
  lo : a ≤ o → o < a + 16
section
variable {A b : List UInt8} {o e a L F T : Nat}
theorem Pn.nums (h : Pn A b o e a L F T) : F ≤ T ∧ T ≤ 16 * L ∧ 1 ≤ L ∧ L ≤ 8 ∧ a + 16 * L ≤ 512 ∧ a + T = min (a + 128) e := by
  obtain ⟨h1, h2, h3, h4, h5, h6, h7, h8, h9⟩ := h
  omega
theorem Pn.get_told (h : Pn A b o e a L F T) {B : List UInt8} (j : Nat) (hj : j < 16 * L) : ((B.drop a).take (16 * L))[j]? = B[a + j]? := by
  rw [List.getElem?_take, if_pos hj, List.getElem?_drop]
/-- the piece written onto the bytes patched so far -/
theorem Pn.step (h : Pn A b o e a L F T) (ho : o < e) :
    (pat A b o (a - o)).take a ++ (putAt ((a / 16 : Nat), (L : Nat), (F : Nat), (T : Nat)) ((A.drop a).take (16 * L)) (b.drop (a - o)) ++ (pat A b o (a - o)).drop (a + 16 * L)) = pat A b o (min (a + 128) e - o) := by
  have hn := h.nums
  obtain ⟨h1, h2, h3, h4, h5, h6, h7, h8, h9⟩ := h
  obtain ⟨n1, n2, n3, n4, n5, n6⟩ := hn
  have hp1 : (pat A b o (a - o)).length = 512 := by rw [pat_len (by omega) (by omega)]; exact h1
  have hpl : pl ((a / 16 : Nat), (L : Nat), (F : Nat), (T : Nat)) = T - F := by simp [pl]
  have ht : ((A.drop a).take (16 * L)).length = 16 * L := by simp; omega
  have hput : (putAt ((a / 16 : Nat), (L : Nat), (F : Nat), (T : Nat)) ((A.drop a).take (16 * L)) (b.drop (a - o))).length = 16 * L := by
    unfold putAt
    rw [hpl]
    simp only [Int.toNat_natCast, List.length_append, List.length_take, List.length_drop]
    omega
  refine List.ext_getElem? fun j => ?_
  rw [pat_get (by omega) (by omega)]
  by_cases c1 : j < a
  · rw [List.getElem?_append_left (by rw [List.length_take]; omega), List.getElem?_take, if_pos c1, pat_get (by omega) (by omega)]
    by_cases c2 : j < o
    · rw [if_pos c2, if_pos c2]
    · rw [if_neg c2, if_neg c2, if_pos (by omega), if_pos (by omega)]
  · have hta : ((pat A b o (a - o)).take a).length = a := by rw [List.length_take]; omega
    rw [List.getElem?_append_right (by omega), hta]
    by_cases c2 : j < a + 16 * L
    · rw [List.getElem?_append_left (by omega)]
      unfold putAt
      rw [hpl]
      simp only [Int.toNat_natCast]
      by_cases c3 : j - a < F
      · rw [List.getElem?_append_left (by rw [List.length_take]; omega), List.getElem?_take, if_pos c3, List.getElem?_take, if_pos (by omega), List.getElem?_drop, if_pos (by omega)]
        congr 1
        omega
      · have hf : (((A.drop a).take (16 * L)).take F).length = F := by rw [List.length_take]; omega
        rw [List.getElem?_append_right (by omega), hf, if_neg (by omega)]
        by_cases c4 : j - a < T
        · rw [List.getElem?_append_left (by simp only [List.length_take, List.length_drop]; omega), List.getElem?_take, if_pos (by omega), List.getElem?_drop, if_pos (by omega)]
          congr 1
          omega
        · have hb : ((b.drop (a - o)).take (T - F)).length = T - F := by simp only [List.length_take, List.length_drop]; omega
          rw [List.getElem?_append_right (by omega), hb, List.getElem?_drop, List.getElem?_take, if_pos (by omega), List.getElem?_drop, if_neg (by omega)]
          congr 1
          omega
    · rw [List.getElem?_append_right (by omega), hput, List.getElem?_drop, pat_get (by omega) (by omega), if_neg (by omega), if_neg (by omega), if_neg (by omega), if_neg (by omega)]
      congr 1
      omega
/-- the piece gathered of the bytes patched to the end -/
theorem Pn.gather (h : Pn A b o e a L F T) (ho : o < e) : gatAt ((a / 16 : Nat), (L : Nat), (F : Nat), (T : Nat)) (((pat A b o (e - o)).drop a).take (16 * L)) = (b.take (min (a + 128) e - o)).drop (a - o) := by
  have hn := h.nums
  obtain ⟨h1, h2, h3, h4, h5, h6, h7, h8, h9⟩ := h
  obtain ⟨n1, n2, n3, n4, n5, n6⟩ := hn
  have hp1 : (pat A b o (e - o)).length = 512 := by rw [pat_len (by omega) (by omega)]; exact h1
  unfold gatAt
  simp only [Int.toNat_natCast]
  refine List.ext_getElem? fun j => ?_
  rw [List.getElem?_drop, List.getElem?_take, List.getElem?_take, List.getElem?_drop, List.getElem?_drop, List.getElem?_take]
  by_cases c1 : F + j < T
  · rw [if_pos c1, if_pos (by omega), pat_get (by omega) (by omega), if_neg (by omega), if_pos (by omega), if_pos (by omega)]
    congr 1
    omega
  · rw [if_neg c1, if_neg (by omega)]
end
end Go.Proofs.Ytdpggcpbgfancaa.Vol
