/- Arguments of a law opened by the shape of their type: numbers, bools, slices of bytes; arrays and structs of such. Conditions: none. -/
import Derived.Test.YtpbcmghfhflkbaaOpen
import Derived.OpenShut
import Derived.Deep.Slices
import Derived.Deep.Fields
import Derived.ChangeSame
set_option linter.unusedVariables false
set_option linter.unusedSimpArgs false
namespace Go.Proofs.Ytpbcmghfhflkbaa.Tw
open Go.RowKit Go.ChangeShapes Go.WideShapes Go.Deep

/-- what a cell holds -/
inductive Leaf | int (k : IntKind) | bool | bytes
/-- the cells of a type, one by one -/
def flat (P : Program) : Nat → TypeId → Option (List Leaf)
  | 0, _ => none
  | n + 1, t => match P.underlying t with
    | some (.int k) => some [.int k]
    | some .bool => some [.bool]
    | some (.slice e) => match P.underlying e with
      | some (.int .u8) => if P.cellsOf e = 1 then some [.bytes] else none
      | _ => none
    | some (.array m e) => match flat P n e with
      | some L => if P.cellsOf e = L.length then some ((List.range m).flatMap fun _ => L) else none
      | none => none
    | some (.struct fs) => fs.toList.foldl (fun acc f => match acc, flat P n f.type with
      | some acc, some L => if f.offset = acc.length ∧ P.cellsOf f.type = L.length then some (acc ++ L) else none
      | _, _ => none) (some [])
    | _ => none
/-- the cell holds it -/
def LeafOk (W : World) : Leaf → Value → Prop
  | .int k, v => ∃ z, v = .int k z ∧ (Lit.int k z).wf = true
  | .bool, v => ∃ b, v = .bool b
  | .bytes, v => ∃ A n c l, v = .slice A n c ∧ Byt W A n c l
def RowOk (W : World) : List Leaf → List Value → Prop
  | [], [] => True
  | l :: L, v :: r => LeafOk W l v ∧ RowOk W L r
  | _, _ => False
theorem rowOk_nil {W : World} {r : List Value} (h : RowOk W [] r) : r = [] := by
  cases r with
  | nil => rfl
  | cons v r => exact h.elim
theorem rowOk_cons {W : World} {l : Leaf} {L : List Leaf} {r : List Value} (h : RowOk W (l :: L) r) : ∃ v r', r = v :: r' ∧ LeafOk W l v ∧ RowOk W L r' := by
  cases r with
  | nil => exact h.elim
  | cons v r => exact ⟨v, r, rfl, h.1, h.2⟩
theorem rowOk_len {W : World} : ∀ {L : List Leaf} {r : List Value}, RowOk W L r → r.length = L.length
  | [], r, h => by rw [rowOk_nil h]; rfl
  | l :: L, r, h => by
    obtain ⟨v, r', rfl, _, h2⟩ := rowOk_cons h
    simp [rowOk_len h2]
theorem rowOk_append {W : World} {M : List Leaf} {s : List Value} : ∀ {L : List Leaf} {r : List Value}, RowOk W L r → RowOk W M s → RowOk W (L ++ M) (r ++ s)
  | [], r, h, h2 => by rw [rowOk_nil h]; exact h2
  | l :: L, r, h, h2 => by
    obtain ⟨v, r', rfl, h3, h4⟩ := rowOk_cons h
    exact ⟨h3, rowOk_append h4 h2⟩
theorem rowOk_split {W : World} {M : List Leaf} : ∀ {L : List Leaf} {r : List Value}, RowOk W (L ++ M) r → ∃ a b, r = a ++ b ∧ RowOk W L a ∧ RowOk W M b
  | [], r, h => ⟨[], r, rfl, trivial, h⟩
  | l :: L, r, h => by
    obtain ⟨v, r', rfl, h3, h4⟩ := rowOk_cons h
    obtain ⟨a, b, rfl, h5, h6⟩ := rowOk_split h4
    exact ⟨v :: a, b, rfl, ⟨h3, h5⟩, h6⟩
/-- cells of bytes -/
theorem rowOk_u8s {W : World} : ∀ {m : Nat} {L : List Leaf} {r : List Value}, RowOk W (List.replicate m (.int .u8) ++ L) r → ∃ (b : List UInt8) (s : List Value), b.length = m ∧ r = bytesV b ++ s ∧ RowOk W L s
  | 0, L, r, h => ⟨[], r, rfl, rfl, by simpa using h⟩
  | m + 1, L, r, h => by
    rw [List.replicate_succ, List.cons_append] at h
    obtain ⟨v, r', rfl, ⟨z, rfl, hz⟩, h2⟩ := rowOk_cons h
    obtain ⟨b, s, hb, rfl, h3⟩ := rowOk_u8s h2
    obtain ⟨x, rfl, hx⟩ := wf_u8 hz
    refine ⟨UInt8.ofNat x :: b, s, by simp [hb], ?_, h3⟩
    rw [bytesV_cons, List.cons_append]
    congr 2
    simp
    omega
theorem leaf_i64 {W : World} {v : Value} (h : LeafOk W (.int .i64) v) : ∃ z : Int, v = .int .i64 z ∧ (-9223372036854775808 ≤ z ∧ z ≤ 9223372036854775807) := by
  obtain ⟨z, rfl, hz⟩ := h
  exact ⟨z, rfl, wf_i64 hz⟩
theorem leaf_u64 {W : World} {v : Value} (h : LeafOk W (.int .u64) v) : ∃ x : Nat, v = .int .u64 (x : Int) ∧ x < 18446744073709551616 := by
  obtain ⟨z, rfl, hz⟩ := h
  obtain ⟨x, rfl, hx⟩ := wf_u64 hz
  exact ⟨x, rfl, hx⟩
theorem leaf_u32 {W : World} {v : Value} (h : LeafOk W (.int .u32) v) : ∃ x : Nat, v = .int .u32 (x : Int) ∧ x < 4294967296 := by
  obtain ⟨z, rfl, hz⟩ := h
  obtain ⟨x, rfl, hx⟩ := wf_u32 hz
  exact ⟨x, rfl, hx⟩

section
variable {H : Type} {enc : TypeId × Value → H} {P : Program} {W : World} {base : Nat} {spare : Nat → Bool} {held : Bool}
theorem rowOk_flatMap {W : World} {L : List Leaf} (m : Nat) : ∀ (cs : List Value), cs.length = m * L.length → (∀ i, i < m → RowOk W L ((cs.drop (i * L.length)).take L.length)) → RowOk W ((List.range m).flatMap fun _ => L) cs := by
  induction m with
  | zero =>
    intro cs hl _
    obtain rfl : cs = [] := List.eq_nil_of_length_eq_zero (by simpa using hl)
    exact trivial
  | succ m ih =>
    intro cs hl h
    rw [List.range_succ, List.flatMap_append]
    have h1 := ih (cs.take (m * L.length)) (by rw [List.length_take, hl, Nat.succ_mul]; omega) (fun i hi => by
      have := h i (by omega)
      rw [List.drop_take, List.take_take]
      have h2 : (i + 1) * L.length ≤ m * L.length := Nat.mul_le_mul_right _ hi
      rw [Nat.succ_mul] at h2
      rw [show min L.length (m * L.length - i * L.length) = L.length from by omega]
      exact this)
    have h2 := h m (by omega)
    have h3 : cs = cs.take (m * L.length) ++ (cs.drop (m * L.length)).take L.length := by
      rw [List.take_of_length_le (l := cs.drop (m * L.length)) (by rw [List.length_drop, hl, Nat.succ_mul]; omega), List.take_append_drop]
    rw [h3]
    exact rowOk_append h1 (by simpa using h2)
theorem len_flat (L : List Leaf) (m : Nat) : ((List.range m).flatMap fun _ => L).length = m * L.length := by
  induction m with
  | zero => simp
  | succ m ih => rw [List.range_succ, List.flatMap_append, List.length_append, ih, Nat.succ_mul]; simp
theorem flat_ok : ∀ (n : Nat) {fuel : Nat} {t : TypeId} {cs : List Value} {x : DataW H × List MemPlace} {L : List Leaf}, flat P n t = some L → cs.length = P.cellsOf t ∨ True → DataW.trod enc P W base spare held fuel t cs = some x → P.cellsOf t = L.length → RowOk W L cs
  | 0, _, _, _, _, _, h, _, _, _ => by simp [flat] at h
  | n + 1, fuel, t, cs, x, L, h, _, hx, hc => by
    unfold flat at h
    split at h
    · rename_i k hu
      injection h with h
      subst h
      obtain ⟨z, rfl, _, hz⟩ := DataW.trod_int hu hx
      exact ⟨⟨z, rfl, hz⟩, trivial⟩
    · rename_i hu
      injection h with h
      subst h
      obtain ⟨z, rfl, _⟩ := DataW.trod_bool hu hx
      exact ⟨⟨z, rfl⟩, trivial⟩
    · rename_i e hu
      split at h
      · rename_i he
        split at h
        · rename_i hce
          injection h with h
          subst h
          rcases open_ints hu he hce hx with ⟨rfl, _⟩ | ⟨a, l, c', zs, rfl, _, hl, hm, hz, _, hcell, hwf⟩
          · exact ⟨⟨none, 0, 0, [], rfl, Rd.nil_⟩, trivial⟩
          · have hnz : l ≤ zs.length := by rw [hz]; split <;> omega
            refine ⟨⟨some a, l, c', (zs.take l).map fun z => UInt8.ofNat z.toNat, rfl, ⟨by simp [bytesV]; omega, hl, hm, (fun e => by cases e), fun ad ha j u hu => ?_⟩⟩, trivial⟩
            injection ha with ha
            subst ha
            obtain ⟨hj, hv⟩ := List.getElem?_eq_some_iff.1 hu
            simp [bytesV] at hj hv
            have hj2 : j < zs.length := by omega
            obtain ⟨q, hq, hq2⟩ := wf_u8 (hwf zs[j] (List.getElem_mem _))
            rw [hcell j hj2, ← hv]
            rw [show zs.getD j 0 = zs[j] by simp [List.getD, List.getElem?_eq_getElem hj2], hq]
            simp
            omega
        · cases h
      · cases h
    · rename_i m e hu
      split at h
      · rename_i L1 hL
        split at h
        · rename_i hce
          injection h with h
          subst h
          obtain ⟨xs, m2, _, _, hcl, hxl, hg⟩ := DataW.trod_array hu hx
          refine rowOk_flatMap m cs (by rw [hcl, hc, len_flat]) (fun i hi => ?_)
          have h1 := hg i hi
          rw [List.getElem?_eq_getElem (by omega), hce] at h1
          exact flat_ok n hL (.inr trivial) h1 hce
        · cases h
      · cases h
    · rename_i fs hu
      obtain ⟨xs, m2, _, _, hcl, hxl, hg⟩ := DataW.trod_struct hu hx
      have key : ∀ (l : List Field) (acc : List Leaf) (j : Nat), (∀ i f, l[i]? = some f → fs[j + i]? = some f) → j + l.length = fs.size → RowOk W acc (cs.take acc.length) → acc.length ≤ cs.length →
          l.foldl (fun acc f => match acc, flat P n f.type with | some acc, some L => if f.offset = acc.length ∧ P.cellsOf f.type = L.length then some (acc ++ L) else none | _, _ => none) (some acc) = some L → RowOk W L (cs.take L.length) := by
        intro l
        induction l with
        | nil =>
          intro acc j _ _ hr _ hf
          injection hf with hf
          subst hf
          exact hr
        | cons f l ih =>
          intro acc j hj hjl hr hal hf
          rw [List.foldl_cons] at hf
          have hfn : ∀ (l : List Field), l.foldl (fun (acc : Option (List Leaf)) f => match acc, flat P n f.type with | some acc, some L => if f.offset = acc.length ∧ P.cellsOf f.type = L.length then some (acc ++ L) else none | _, _ => none) none = none := by
            intro l
            induction l with
            | nil => rfl
            | cons g l ih2 => exact ih2
          cases hL : flat P n f.type with
          | none => rw [hL] at hf; simp only [hfn] at hf; cases hf
          | some L1 =>
            rw [hL] at hf
            simp only at hf
            by_cases hc2 : f.offset = acc.length ∧ P.cellsOf f.type = L1.length
            · rw [if_pos hc2] at hf
              have h1 := hg j f (hj 0 f rfl)
              have hjs : j < xs.length := by rw [hxl]; simp at hjl; omega
              rw [List.getElem?_eq_getElem hjs, hc2.1, hc2.2] at h1
              have h2 := flat_ok n hL (.inr trivial) h1 hc2.2
              have h3 := rowOk_len h2
              have h4 : acc.length + L1.length ≤ cs.length := by
                rw [List.length_take, List.length_drop] at h3
                omega
              refine ih (acc ++ L1) (j + 1) (fun i g hi => by rw [Nat.add_assoc, Nat.add_comm 1]; exact hj (i + 1) g hi) (by simp at hjl; omega) ?_ (by simpa using h4) hf
              rw [List.length_append, List.take_add]
              exact rowOk_append hr h2
            · rw [if_neg hc2, hfn] at hf
              cases hf
      have := key fs.toList [] 0 (fun i f hi => by simpa using hi) (by simp) trivial (Nat.zero_le _) h
      rwa [List.take_of_length_le (by omega)] at this
    · cases h

theorem all_choose {α : Type} {n : Nat} {p : Nat → α → Prop} (h : ∀ i, i < n → ∃ x, p i x) : ∃ l : List α, l.length = n ∧ ∀ i x, l[i]? = some x → p i x := by
  induction n with
  | zero => exact ⟨[], rfl, fun i x h => by simp at h⟩
  | succ n ih =>
    obtain ⟨l, hl, h1⟩ := ih fun i hi => h i (by omega)
    obtain ⟨x, hx⟩ := h n (by omega)
    refine ⟨l ++ [x], by simp [hl], fun i y hy => ?_⟩
    rcases Nat.lt_or_ge i n with hlt | hge
    · rw [List.getElem?_append_left (by omega)] at hy
      exact h1 i y hy
    · have hi : i = n := by
        have := (List.getElem?_eq_some_iff.1 hy).1
        simp at this
        omega
      subst hi
      rw [List.getElem?_append_right (by omega)] at hy
      simp [hl] at hy
      subst hy
      exact hx
/-- a slice: its elements' rows -/
theorem open_rows {t e : TypeId} {A : Option Addr} {n c : Nat} {d : DataW H} {ps : List MemPlace} (k : Nat) {L : List Leaf} (ht : P.underlying t = some (.slice e)) (hL : flat P k e = some L) (hc : P.cellsOf e = L.length)
    (h : DataW.Trod enc P W base spare held t (.slice A n c) d ps) : ∃ rows : List (List Value), rows.length = n ∧ n ≤ c ∧ c ≤ maxLen ∧ (∀ (i : Nat) (r : List Value), rows[i]? = some r → RowOk W L r) ∧ (A = none → c = 0) ∧ ∀ ad, A = some ad → ∀ (i : Nat) (r : List Value), rows[i]? = some r → ∀ (j : Nat) (v : Value), r[j]? = some v → W.cell? (ad.add (i * L.length + j)) = some v := by
  obtain ⟨fuel, hf⟩ := h
  rcases open_slice ht hf with ⟨hcs, _⟩ | ⟨a, len, cap, m, q, D, Pl, hcs, hb, hl, hm, hmm, hx, hi⟩
  · simp [Value.cells] at hcs
    obtain ⟨rfl, rfl, rfl⟩ := hcs
    exact ⟨[], rfl, Nat.le_refl _, Nat.zero_le _, fun i r h => by simp at h, fun _ => rfl, fun ad e => by cases e⟩
  · simp [Value.cells] at hcs
    obtain ⟨rfl, rfl, rfl⟩ := hcs
    have hlm : n ≤ m := by rw [hmm]; split <;> omega
    obtain ⟨rows, hrl, hr⟩ := all_choose (n := n) (p := fun (i : Nat) (r : List Value) => RowOk W L r ∧ ∀ (j : Nat) (v : Value), r[j]? = some v → W.cell? (a.add (i * L.length + j)) = some v) (fun i hin => by
      obtain ⟨cs', hc', ht'⟩ := hi i (by omega)
      have h1 := flat_ok k hL (.inr trivial) ht' hc
      rw [hc] at hc'
      obtain ⟨_, hcl, hat⟩ := World.cells?_some hc'
      refine ⟨cs', h1, fun j v hj => ?_⟩
      have hjl := (List.getElem?_eq_some_iff.1 hj).1
      have h2 := hat j (by omega)
      rw [add_add, hj] at h2
      exact h2)
    exact ⟨rows, hrl, hl, hm, fun i r h => (hr i r h).1, (fun e => by cases e), fun ad e i r h j v hj => (by injection e with e; subst e; exact (hr i r h).2 j v hj)⟩
/-- a struct or an array by value: its row -/
theorem open_agg {r : Reach} {base2 : Nat} {t : TypeId} {v : Value} {d : DataW H} {ps : List MemPlace} (k : Nat) {L : List Leaf} (hL : flat P k t = some L) (hc : P.cellsOf t = L.length) (ht : (P.underlying t).map (·.isRow) = some true)
    (hv : Value.okWide P W r base2 t v) (h : DataW.Trod enc P W base spare held t v d ps) : ∃ cs : List Value, v = .agg cs.toArray ∧ RowOk W L cs := by
  have hagg : ∃ cs, v = .agg cs := by
    cases hu : P.underlying t with
    | none => simp [hu] at ht
    | some u =>
      cases u <;> simp [hu, TypeDesc.isRow] at ht
      all_goals
        simp only [Value.okWide, hu] at hv
        obtain ⟨cs, h1, _⟩ := hv
        exact ⟨cs, h1⟩
  obtain ⟨cs, rfl⟩ := hagg
  obtain ⟨fuel, hf⟩ := h
  have hf2 : DataW.trod enc P W base spare held fuel t cs.toList = some (d, ps) := hf
  exact ⟨cs.toList, by simp, flat_ok k hL (.inr trivial) hf2 hc⟩
end
end Go.Proofs.Ytpbcmghfhflkbaa.Tw
