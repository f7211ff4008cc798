/- An argument that is a slice of calls (a flag, a number, bytes), opened. Conditions: none. -/
import Derived.Test.YtlfphoablloodaaOpen
import Derived.Deep.Slices
import Derived.Deep.Fields
import Derived.ChangeSame
import Derived.SizedLaws
namespace Go.Proofs.Ytlfphoablloodaa.Tw
open Go.RowKit Go.ChangeShapes Go.WideShapes Go.Deep

/-- the slice reads these calls -/
structure ActsIn (w : World) (A : Option Addr) (n c : Nat) (l : List (Bool × Int × List UInt8)) : Prop where
  len : l.length = n
  le : n ≤ c
  cap : c ≤ maxLen
  at_ : ∀ i a, l[i]? = some a → ∃ ad A' n' c', A = some ad ∧ w.cell? (ad.add (i * 3)) = some (.bool a.1) ∧ w.cell? (ad.add (i * 3 + 1)) = some (.int .i64 a.2.1) ∧ w.cell? (ad.add (i * 3 + 2)) = some (.slice A' n' c') ∧
    Byt w A' n' c' a.2.2 ∧ n' ≤ 140737488351232 ∧ -9223372036854775808 ≤ a.2.1 ∧ a.2.1 ≤ 9223372036854775807

section
variable {H : Type} {enc : TypeId × Value → H} {P : Program} {W : World} {base : Nat} {spare : Nat → Bool} {held : Bool}
theorem weights_all {e : TypeId} {n : Nat} {d : DataW H} : ∀ {ds : List (DataW H)}, d ∈ ds → n ∈ d.weights P e → n ∈ DataW.weightsAll P e ds
  | x :: xs, hm, hn => by
    simp only [DataW.weightsAll, List.mem_append]
    rcases List.mem_cons.1 hm with rfl | hm
    · exact .inl hn
    · exact .inr (weights_all hm hn)
  | [], hm, _ => by cases hm

theorem one_cell {fs : Array Field} {cs : List Value} {j : Nat} {f : Field} {z : DataW H × List MemPlace} {n : Nat} (hone : oneCellFields P fs = true) (hf : fs[j]? = some f) (hj : j < cs.length) (h : DataW.trod enc P W base spare held n f.type ((cs.drop f.offset).take (P.cellsOf f.type)) = some z) :
    DataW.trod enc P W base spare held n f.type [cs[j]'hj] = some z := by
  obtain ⟨ho, hk⟩ := hone_of hone j f hf
  rw [ho, hk] at h
  have h1 : (cs.drop j).take 1 = [cs[j]'hj] := by
    rw [List.drop_eq_getElem_cons hj]
    rfl
  rw [h1] at h
  exact h

theorem open_acts {t e t8 : TypeId} {f0 f1 f2 : Field} {A : Option Addr} {n c : Nat} {d : DataW H} {ps : List MemPlace} {Ts : List TypeId} {Ds : List (DataW H)} {J : Nat}
    (ht : P.underlying t = some (.slice e)) (he : P.underlying e = some (.struct #[f0, f1, f2])) (hone : oneCellFields P #[f0, f1, f2] = true) (hC : P.cellsOf e = 3)
    (h0 : P.underlying f0.type = some .bool) (h1 : P.underlying f1.type = some (.int .i64)) (h2 : P.underlying f2.type = some (.slice t8)) (h8 : P.underlying t8 = some (.int .u8)) (hc8 : P.cellsOf t8 = 1) (hb8 : P.bytesOf t8 = 1)
    (hsz : (DataW.weightsEach P Ts Ds).all (· ≤ reachBytes) = true) (hJ : Ts[J]? = some t) (hD : Ds[J]? = some d)
    (h : DataW.Trod enc P W base spare held t (.slice A n c) d ps) : ∃ l, ActsIn W A n c l := by
  obtain ⟨fuel, hf⟩ := h
  rcases open_slice ht hf with ⟨hcs, _⟩ | ⟨a, len, cap, m, q, D, Pl, hcs, hb, hl, hm, hmm, hx, hi⟩
  · simp [Value.cells] at hcs
    obtain ⟨rfl, rfl, rfl⟩ := hcs
    exact ⟨[], rfl, Nat.le_refl _, Nat.zero_le _, fun i a h => by simp at h⟩
  · simp [Value.cells] at hcs
    obtain ⟨rfl, rfl, rfl⟩ := hcs
    have hlm : n ≤ m := by rw [hmm]; split <;> omega
    have hd : d = .slice ((List.range n).map D) ((List.range (m - n)).map fun j => D (n + j)) := (Prod.mk.inj hx).1
    have key : ∀ i, i < n → ∃ x : Bool × Int × List UInt8, ∃ A' n' c', W.cell? (a.add (i * 3)) = some (.bool x.1) ∧ W.cell? (a.add (i * 3 + 1)) = some (.int .i64 x.2.1) ∧ W.cell? (a.add (i * 3 + 2)) = some (.slice A' n' c') ∧
        Byt W A' n' c' x.2.2 ∧ n' ≤ 140737488351232 ∧ -9223372036854775808 ≤ x.2.1 ∧ x.2.1 ≤ 9223372036854775807 := by
      intro i hin
      obtain ⟨cs', hc, ht'⟩ := hi i (by omega)
      rw [hC] at hc
      obtain ⟨_, hcl, hat⟩ := World.cells?_some hc
      obtain ⟨ys, n2, _, hy, _, hyl, hg⟩ := DataW.trod_struct he ht'
      have hyl3 : ys.length = 3 := hyl
      have g0 := hg 0 f0 rfl
      have g1 := hg 1 f1 rfl
      have g2 := hg 2 f2 rfl
      rw [List.getElem?_eq_getElem (by omega)] at g0 g1 g2
      have k0 := one_cell hone (j := 0) rfl (by omega) g0
      have k1 := one_cell hone (j := 1) rfl (by omega) g1
      have k2 := one_cell hone (j := 2) rfl (by omega) g2
      obtain ⟨b, e0, _⟩ := DataW.trod_bool h0 k0
      obtain ⟨z, e1, _, hz⟩ := DataW.trod_int h1 k1
      have c0 := hat 0 (by omega)
      have c1 := hat 1 (by omega)
      have c2 := hat 2 (by omega)
      rw [List.getElem?_eq_getElem (by omega)] at c0 c1 c2
      rw [add_add] at c0 c1 c2
      simp at e0 e1
      have hDi : D i = .agg (ys.map (·.1)) := (Prod.mk.inj hy).1
      have hmem : ∀ x, x ∈ (ys[2]).1.weights P f2.type → x ≤ reachBytes := by
        intro x hxm
        have hz2 : x ∈ DataW.weightsEach P Ts Ds := by
          refine DataW.weights_mem_each hJ hD x ?_
          rw [hd]
          simp only [DataW.weights, ht, List.mem_cons, List.mem_append]
          refine .inr (.inl (weights_all (d := D i) (List.mem_map.2 ⟨i, List.mem_range.2 hin, rfl⟩) ?_))
          rw [hDi]
          simp only [DataW.weights, he]
          exact DataW.weights_mem_each (j := 2) (t := f2.type) (d := (ys[2]).1) rfl (by simp [hyl3]) x hxm
        simpa using List.all_eq_true.1 hsz _ hz2
      rcases open_ints h2 h8 hc8 k2 with ⟨e2, _⟩ | ⟨x, l, c', zs, e2, _, hl2, hm2, hz2, hx2, hcell, hwf⟩
      · simp at e2
        rw [e0] at c0
        rw [e1] at c1
        rw [e2] at c2
        have hw := wf_i64 hz
        exact ⟨(b, z, []), none, 0, 0, c0, c1, c2, Rd.nil_, by omega, hw.1, hw.2⟩
      · simp at e2
        rw [e0] at c0
        rw [e1] at c1
        rw [e2] at c2
        have hw := wf_i64 hz
        have hnz : l ≤ zs.length := by rw [hz2]; split <;> omega
        refine ⟨(b, z, (zs.take l).map fun z => UInt8.ofNat z.toNat), _, _, _, c0, c1, c2, ⟨by simp [bytesV]; omega, hl2, hm2, (fun e => by cases e), fun ad ha j u hu => ?_⟩, ?_, hw.1, hw.2⟩
        · injection ha with ha
          subst ha
          obtain ⟨hj, hv⟩ := List.getElem?_eq_some_iff.1 hu
          simp [bytesV] at hj hv
          have hj2 : j < zs.length := by omega
          obtain ⟨q2, hq, hq2⟩ := wf_u8 (hwf zs[j] (List.getElem_mem _))
          rw [hcell j hj2, ← hv]
          rw [show zs.getD j 0 = zs[j] by simp [List.getD, List.getElem?_eq_getElem hj2], hq]
          simp
          omega
        · have h5 : (ys[2]).1 = .slice (lits .u8 (zs.take l)) (lits .u8 (zs.drop l)) := by rw [hx2]
          have h6 := hmem (zs.length * 1) (by
            rw [h5]
            simp only [DataW.weights, h2, hb8, List.mem_cons]
            left
            simp [lits]
            omega)
          have h7 : reachBytes = 140737488351232 := rfl
          omega
    have hA : ∃ f : Nat → Bool × Int × List UInt8, ∀ i, i < n → ∃ A' n' c', W.cell? (a.add (i * 3)) = some (.bool (f i).1) ∧ W.cell? (a.add (i * 3 + 1)) = some (.int .i64 (f i).2.1) ∧ W.cell? (a.add (i * 3 + 2)) = some (.slice A' n' c') ∧
        Byt W A' n' c' (f i).2.2 ∧ n' ≤ 140737488351232 ∧ -9223372036854775808 ≤ (f i).2.1 ∧ (f i).2.1 ≤ 9223372036854775807 := choose_lt key
    obtain ⟨f, hf2⟩ := hA
    refine ⟨(List.range n).map f, by simp, hl, hm, fun i x hix => ?_⟩
    have hin : i < n := by
      have := (List.getElem?_eq_some_iff.1 hix).1
      simpa using this
    rw [List.getElem?_map, List.getElem?_range hin] at hix
    simp at hix
    subst hix
    obtain ⟨A', n', c', q0, q1, q2, q3, q4, q5, q6⟩ := hf2 i hin
    exact ⟨a, A', n', c', rfl, q0, q1, q2, q3, q4, q5, q6⟩
end
end Go.Proofs.Ytlfphoablloodaa.Tw
