/- Slices of byte slices, read; contracts of few and raw. Conditions: none. -/
import Derived.Test.YtlfphoablloodaaVolJ
namespace Go.Proofs.Ytlfphoablloodaa.Vol
open Go.RowKit Tw
set_option maxHeartbeats 2000000
set_option maxRecDepth 100000

/-- the slice reads these rows of bytes -/
structure SlIn (w : World) (A : Option Addr) (n c : Nat) (l : List (List UInt8)) : Prop where
  len : l.length = n
  le : n ≤ c
  cap : c ≤ maxLen
  at_ : ∀ i t, l[i]? = some t → ∃ ad A' n' c', A = some ad ∧ w.cell? (ad.add i) = some (.slice A' n' c') ∧ Byt w A' n' c' t
theorem SlIn.below {w w' : World} {A : Option Addr} {n c : Nat} {l : List (List UInt8)} (h : SlIn w A n c l) {B : Nat} (hb : Below B w w') (hB : w.heap.size ≤ B) : SlIn w' A n c l :=
  ⟨h.len, h.le, h.cap, fun i t hi => by
    obtain ⟨ad, A', n', c', h1, h2, h3⟩ := h.at_ i t hi
    refine ⟨ad, A', n', c', h1, ?_, h3.below hb hB⟩
    have := block_lt_of_cell h2
    rw [hb.cell (by omega)]
    exact h2⟩
theorem SlIn.bel {w w' : World} {A : Option Addr} {n c : Nat} {l : List (List UInt8)} (h : SlIn w A n c l) (hb : Below w.heap.size w w') : SlIn w' A n c l := h.below hb (Nat.le_refl _)
theorem pisV_length (l : List Pi) : (pisV l).length = l.length * 4 := by
  induction l with
  | nil => rfl
  | cons p l ih => rw [pisV, List.flatMap_cons, List.length_append]; have : (l.flatMap piV).length = l.length * 4 := ih; rw [this, List.length_cons]; simp [piV]; omega
theorem pisV_snoc (l : List Pi) (p : Pi) : pisV l ++ piV p = pisV (l ++ [p]) := by simp [pisV]
theorem pisV_get {l : List Pi} {k j : Nat} {p : Pi} {v : Value} (hp : l[k]? = some p) (hv : (piV p)[j]? = some v) : (pisV l)[k * 4 + j]? = some v := by
  induction l generalizing k with
  | nil => simp at hp
  | cons q l ih =>
    have hj : j < 4 := by have := (List.getElem?_eq_some_iff.1 hv).1; simpa [piV] using this
    cases k with
    | zero =>
      simp at hp
      subst hp
      rw [pisV, List.flatMap_cons, List.getElem?_append_left (by simp [piV]; omega)]
      simpa using hv
    | succ k =>
      simp at hp
      rw [pisV, List.flatMap_cons, List.getElem?_append_right (by simp [piV]; omega)]
      have := ih hp
      rw [pisV] at this
      rw [show (k + 1) * 4 + j - (piV q).length = k * 4 + j from by simp [piV]; omega]
      exact this
/-- the pieces' slice at its k-th piece -/
theorem pi_at {w : World} {A : Option Addr} {n c : Nat} {l : List Pi} {k : Nat} {p : Pi} (h : Rd w 4 A n c (pisV l)) (hp : l[k]? = some p) : ∃ ad, A = some ad ∧ ∀ j v, (piV p)[j]? = some v → w.cell? ((ad.add (k * 4)).add j) = some v := by
  cases A with
  | none =>
    have h0 := h.nil rfl
    have hl := h.le
    have hlen := h.len
    rw [pisV_length] at hlen
    have := (List.getElem?_eq_some_iff.1 hp).1
    omega
  | some ad =>
    refine ⟨ad, rfl, fun j v hv => ?_⟩
    rw [add_add]
    exact h.cell ad rfl _ _ (pisV_get hp hv)

def Few (n m : Nat) (tl : List (List UInt8)) : Prop := n ≤ 40 ∧ m ≤ 40 ∧ ∀ (i : Nat) (t : List UInt8), tl[i]? = some t → t.length ≤ 200
/-- what few answers -/
def FewR (n m : Nat) (tl : List (List UInt8)) (e : Ending) : Prop := e = .returned (.bool false) ∨ e = .returned (.bool true) ∧ Few n m tl
theorem c_few (A A' : Option Addr) (n c m c' : Nat) (tl : List (List UInt8)) (w : World) (h : SlIn w A' m c' tl) :
    Calls Try.prog 65 #[.slice A n c, .slice A' m c'] w fun e w' => FewR n m tl e ∧ Below w.heap.size w w' := by
  have Hh := Lib.hid h
  clear h
  by_cases h1 : n ≤ 40
  · by_cases h2 : m ≤ 40
    · go_enter Try.func65, Try.ntmps65
      go_wp2_with fail
      go_loopw [17] (fun i wr => ∃ k : Nat, k ≤ m ∧ i = .int .i64 (k : Int) ∧ Hid (∀ (j : Nat) (t : List UInt8), j < k → tl[j]? = some t → t.length ≤ 200) ∧ Below w.heap.size w wr) (fun i _ => m - (intOf i).toNat)
      case atStart => exact ⟨0, Nat.zero_le _, rfl, Lib.hid (fun j t hj => by omega), Below.refl _ _⟩
      case round =>
        obtain ⟨k, hk, rfl, hall, hB⟩ := hrel
        by_cases hkn : k < m
        · have hlen := Hh.out.len
          obtain ⟨t, hp⟩ : ∃ p, tl[k]? = some p := ⟨_, List.getElem?_eq_getElem (by omega)⟩
          obtain ⟨ad, B', n', d', rfl, d1, hby⟩ := (Hh.out.below hB (Nat.le_refl _)).at_ k _ hp
          have hbl := hby.blen
          have Hp := Lib.hid hp
          clear hp hby
          go_wp2_with fail
          · go_ret
            exact ⟨.inl rfl, hB⟩
          · go_roundw
            case rel => exact ⟨k + 1, by omega, by go_num, Lib.hid (fun j t' hj ht => by
              rcases Nat.lt_or_ge j k with h3 | h3
              · exact hall.out j t' h3 ht
              · obtain rfl : j = k := by omega
                rw [Hp.out] at ht
                injection ht with ht
                subst ht
                omega), hB⟩
            case measure => simp [intOf] <;> omega
        · go_wp2_with fail
          go_ret
          exact ⟨.inr ⟨rfl, h1, h2, fun i t ht => hall.out i t (by have := (List.getElem?_eq_some_iff.1 ht).1; have := Hh.out.len; omega) ht⟩, hB⟩
    · go_enter Try.func65, Try.ntmps65
      go_wp2_with fail
      go_ret
      exact ⟨.inl rfl, Below.refl _ _⟩
  · go_enter Try.func65, Try.ntmps65
    go_wp2_with fail
    go_ret
    exact ⟨.inl rfl, Below.refl _ _⟩

theorem c_raw (A : Option Addr) (n c : Nat) (l : List Pi) (w : World) (h : Rd w 4 A n c (pisV l)) (hn : n ≤ 64) :
    Calls Try.prog 67 #[.slice A n c] w fun e w' => ∃ A2 c2, e = .returned (.slice A2 n c2) ∧ Tw.Own w' w.heap.size 58 4 A2 n c2 (pisV l) ∧ Below w.heap.size w w' := by
  have hl : l.length = n := by have := h.len; rw [pisV_length] at this; omega
  have Hh := Lib.hid h
  clear h
  go_enter Try.func67, Try.ntmps67
  go_wp2_with fail
  go_loopw [3, 8] (fun v i wr => ∃ (k : Nat) (A2 : Option Addr) (c2 : Nat), k ≤ n ∧ i = .int .i64 (k : Int) ∧ v = .slice A2 k c2 ∧ Hid (Tw.Own wr w.heap.size 58 4 A2 k c2 (pisV (l.take k))) ∧ Below w.heap.size w wr) (fun _ i _ => n - (intOf i).toNat)
  case atStart => exact ⟨0, none, 0, Nat.zero_le _, rfl, rfl, Lib.hid (World.ownsRow_nil _ _ _ _), Below.refl _ _⟩
  case round =>
    obtain ⟨k, A2, c2, hk, rfl, rfl, hown, hB⟩ := hrel
    by_cases hkn : k < n
    · obtain ⟨⟨x1, x2, x3, x4⟩, hp⟩ : ∃ p, l[k]? = some p := ⟨_, List.getElem?_eq_getElem (by omega)⟩
      have hle := Hh.out.le
      obtain ⟨ad, rfl, hcs⟩ := pi_at (Hh.out.below hB (Nat.le_refl _)) hp
      have Hcs := Lib.hid hcs
      have Htk := Lib.hid (take_next hp)
      clear hcs hp
      go_wp2_with (first
        | (refine wpL_load_rd rfl 57 (.tmp 10) rfl (ad.add (k * 4)) rfl (piV (x1, x2, x3, x4)) _ Hcs.out Try.underlying57 rfl (by kernel_rfl) ?_
           simp only [piV])
        | (at_builtin
           go_loud (refine wpL_append _ rfl (.tmp 12) (.tmp 14) _ rfl w w.heap.size (bel_alloc (bel_alloc hB hB.size _) (size_alloc_le hB.size _) _) (size_alloc_le (size_alloc_le hB.size _) _) 58 _ 4 32 Try.underlying43 info_pc rfl (by omega) _ _ _ _ rfl (Tw.Own.bel (Tw.Own.bel hown.out ((Below.refl _ _).alloc (Nat.le_refl _) _)) ((Below.refl _ _).alloc (Nat.le_refl _) _)) _ _ _ _ rfl (rd_lit2 _ _ 58 4 #[.int .i64 x1, .int .i64 x2, .int .i64 x3, .int .i64 x4] 1 (by simp [maxLen]) (by simp)) (by simp [Value.oneCell']) (k + 1) (pisV (l.take (k + 1))) rfl (by rw [Htk.out, ← pisV_snoc]; rfl) (by unfold maxLen; omega) (by omega) ?_)
           intro A3 c3 w5 hown5 hb5 hg5 ho5
           clear hg5 ho5))
      go_roundw
      case rel => exact ⟨k + 1, A3, c3, by omega, by go_num, rfl, Lib.hid hown5, hb5⟩
      case measure => simp [intOf] <;> omega
    · obtain rfl : k = n := by omega
      have htk : l.take k = l := List.take_of_length_le (by omega)
      rw [htk] at hown
      go_wp2_with fail
      go_ret
      exact ⟨A2, c2, rfl, hown.out, hB⟩
end Go.Proofs.Ytlfphoablloodaa.Vol
