/- A disk's crash, plainly: how many cached sectors lie ahead of one; a mask that spares all. Conditions: none. -/
import Derived.Test.YtpbcmghfhflkbaaDskCrash2
set_option linter.unusedVariables false
set_option linter.unusedSimpArgs false
namespace Go.Proofs.Ytpbcmghfhflkbaa.Disk
open Tw Dsk
/-- how many are cached -/
def cnt : List Cl → Nat
  | [] => 0
  | (_, none) :: r => cnt r
  | (_, some _) :: r => cnt r + 1
theorem cnt_append : ∀ (a b : List Cl), cnt (a ++ b) = cnt a + cnt b
  | [], b => by simp [cnt]
  | (s, none) :: r, b => by rw [List.cons_append, cnt, cnt, cnt_append r b]
  | (s, some f) :: r, b => by rw [List.cons_append, cnt, cnt, cnt_append r b]; omega
theorem cnt_len : ∀ (l : List Cl) (o : Nat), (cachedFrom o l).length = cnt l
  | [], o => rfl
  | (s, none) :: r, o => by rw [cachedFrom, cnt, cnt_len r]
  | (s, some f) :: r, o => by rw [cachedFrom, cnt, List.length_cons, cnt_len r]
theorem cnt_le : ∀ (l : List Cl), cnt l ≤ l.length
  | [] => Nat.le_refl _
  | (s, none) :: r => by rw [cnt, List.length_cons]; exact Nat.le_succ_of_le (cnt_le r)
  | (s, some f) :: r => by rw [cnt, List.length_cons]; exact Nat.succ_le_succ (cnt_le r)
theorem cnt_take {l : List Cl} {i : Nat} {c : Cl} (h : l[i]? = some c) : cnt (l.take (i + 1)) = cnt (l.take i) + cnt [c] := by
  have hlt := (List.getElem?_eq_some_iff.1 h).1
  have he := (List.getElem?_eq_some_iff.1 h).2
  rw [List.take_succ_eq_append_getElem hlt, cnt_append, he]
theorem cached_at : ∀ (l : List Cl) (o i : Nat) (s f : Sec), l[i]? = some (s, some f) → (cachedFrom o l)[cnt (l.take i)]? = some (o + i)
  | [], o, i, s, f, h => by simp at h
  | (s', none) :: r, o, 0, s, f, h => by simp at h
  | (s', none) :: r, o, i + 1, s, f, h => by
    rw [cachedFrom, List.take_succ_cons, cnt]
    rw [cached_at r (o + 1) i s f (by simpa using h)]
    congr 1
    omega
  | (s', some f') :: r, o, 0, s, f, h => by simp [cachedFrom, cnt]
  | (s', some f') :: r, o, i + 1, s, f, h => by
    rw [cachedFrom, List.take_succ_cons, cnt, List.getElem?_cons_succ]
    rw [cached_at r (o + 1) i s f (by simpa using h)]
    congr 1
    omega
theorem keepTo_none (mask : Nat) : ∀ (l : List Cl) (j n i : Nat) (s : Sec), l[i]? = some (s, none) → (keepTo mask j n l)[i]? = some (s, none)
  | [], j, n, i, s, h => by simp at h
  | (s', none) :: r, j, 0, i, s, h => h
  | (s', some f') :: r, j, 0, i, s, h => h
  | (s', none) :: r, j, n + 1, 0, s, h => by simpa [keepTo] using h
  | (s', none) :: r, j, n + 1, i + 1, s, h => by
    rw [keepTo, List.getElem?_cons_succ]
    exact keepTo_none mask r j (n + 1) i s (by simpa using h)
  | (s', some f') :: r, j, n + 1, 0, s, h => by simp at h
  | (s', some f') :: r, j, n + 1, i + 1, s, h => by
    rw [keepTo, List.getElem?_cons_succ]
    exact keepTo_none mask r (j + 1) n i s (by simpa using h)
/-- the mask that spares all -/
def full : Nat := 18446744073709551615
theorem spared_full (i : Nat) : spared full i = true := by
  unfold spared full
  have hi : i % 64 < 64 := Nat.mod_lt _ (by omega)
  generalize i % 64 = k at *
  have : ∀ k, k < 64 → decide (18446744073709551615 / 2 ^ k % 2 = 1) = true := by decide
  exact this k hi
theorem keep_full : ∀ (l : List Cl) (i : Nat), keep full i l = l.map fun c => (view c, none)
  | [], i => rfl
  | (s, none) :: r, i => by rw [keep, keep_full r, List.map_cons]; rfl
  | (s, some f) :: r, i => by rw [keep, keep_full r, List.map_cons, spared_full, if_pos rfl]; rfl
/-- what a keep does -/
def emask (all : Bool) (mask : Nat) : Nat := if all = true then full else mask
theorem spared_em (all : Bool) (mask i : Nat) : spared (emask all mask) i = (all || decide (mask / 2 ^ (i % 64) % 2 = 1)) := by
  unfold emask
  cases all with
  | true => rw [if_pos rfl, spared_full]; rfl
  | false => rw [if_neg (by simp)]; rfl
namespace Dsk
def keepD (d : Dsk) (all : Bool) (mask : Nat) : Dsk := { d with cells := keep (emask all mask) 0 d.cells }
end Dsk
theorem keepD_all (d : Dsk) (mask : Nat) : d.keepD true mask = d.allSafe := by
  unfold keepD emask allSafe
  rw [if_pos rfl, keep_full]
theorem crashTo_keepD (d : Dsk) (all : Bool) (mask : Nat) : d.crashTo (emask all mask) (cnt d.cells) = d.keepD all mask := by
  unfold crashTo keepD
  rw [keepTo_all (emask all mask) d.cells 0 0 _ (by rw [cnt_len]; exact Nat.le_refl _)]
/-- a round at a cached sector -/
theorem keep_round {d : Dsk} (h : d.Ok) (mask i : Nat) {s f : Sec} (hc : d.cells[i]? = some (s, some f)) : i < d.cells.length ∧ s.length = 16 ∧ f.length = 16 ∧ (d.crashTo mask (cnt (d.cells.take i))).cell (i : Int) = (s, some f) ∧ cnt (d.cells.take (i + 1)) = cnt (d.cells.take i) + 1 ∧
    d.crashTo mask (cnt (d.cells.take i) + 1) = { d.crashTo mask (cnt (d.cells.take i)) with cells := (d.crashTo mask (cnt (d.cells.take i))).cells.set i (if spared mask (cnt (d.cells.take i)) = true then f else s, none) } := by
  have hi := (List.getElem?_eq_some_iff.1 hc).1
  have h1 := cached_at d.cells 0 i s f hc
  rw [Nat.zero_add] at h1
  have hx : d.cachedZ[cnt (d.cells.take i)]? = some (i : Int) := by
    unfold cachedZ cached
    rw [List.getElem?_map, h1]
    rfl
  obtain ⟨i', s', f', e1, h2, h3, h4, h5, h6, h7⟩ := crash_round h mask _ hx
  obtain rfl : i' = i := by omega
  obtain ⟨_, _, s2, f2, g1, g2, g3⟩ := keepTo_step mask d.cells 0 0 _ _ h1
  rw [Nat.sub_zero] at g1 g2
  rw [hc] at g1
  injection g1 with g1
  injection g1 with g1 g1'
  injection g1' with g1'
  subst g1 g1'
  have hcell : (d.crashTo mask (cnt (d.cells.take i'))).cell (i' : Int) = (s, some f) := by
    unfold cell crashTo
    rw [Int.toNat_natCast, List.getD_eq_getElem?_getD]
    simp only
    rw [g2]
    rfl
  rw [hcell] at h5
  injection h5 with h5 h5'
  injection h5' with h5'
  subst h5 h5'
  exact ⟨hi, h3, h4, hcell, by rw [cnt_take hc]; rfl, h7⟩
theorem keep_pass {d : Dsk} (mask i : Nat) {s : Sec} (hc : d.cells[i]? = some (s, none)) : (d.crashTo mask (cnt (d.cells.take i))).cell (i : Int) = (s, none) ∧ cnt (d.cells.take (i + 1)) = cnt (d.cells.take i) := by
  refine ⟨?_, by rw [cnt_take hc]; rfl⟩
  unfold cell crashTo
  rw [Int.toNat_natCast, List.getD_eq_getElem?_getD]
  simp only
  rw [keepTo_none mask d.cells 0 _ i s hc]
  rfl
end Go.Proofs.Ytpbcmghfhflkbaa.Disk
