/- A disk's crash, plainly, sector by sector: the first n cached ones; which are cached, in order. Conditions: none. -/
import Derived.Test.YtpbcmghfhflkbaaDskCrash
set_option linter.unusedVariables false
set_option linter.unusedSimpArgs false
namespace Go.Proofs.Ytpbcmghfhflkbaa.Disk
open Tw Dsk
/-- of the cached ones the first n are kept, or lost -/
def keepTo (mask : Nat) : Nat → Nat → List Cl → List Cl
  | _, 0, l => l
  | _, _ + 1, [] => []
  | i, n + 1, (s, none) :: r => (s, none) :: keepTo mask i (n + 1) r
  | i, n + 1, (s, some f) :: r => (if spared mask i = true then f else s, none) :: keepTo mask (i + 1) n r
theorem keepTo_all (mask : Nat) : ∀ (l : List Cl) (o i n : Nat), (cachedFrom o l).length ≤ n → keepTo mask i n l = keep mask i l
  | [], o, i, n, _ => by cases n <;> rfl
  | (s, none) :: r, o, i, n, h => by
    rw [cachedFrom] at h
    rw [keep]
    cases n with
    | zero =>
      have h1 := keepTo_all mask r (o + 1) i 0 h
      rw [show keepTo mask i 0 r = r by cases r <;> rfl] at h1
      rw [← h1]
      rfl
    | succ n => rw [keepTo, keepTo_all mask r (o + 1) i (n + 1) h]
  | (s, some f) :: r, o, i, n, h => by
    rw [cachedFrom, List.length_cons] at h
    rw [keep]
    cases n with
    | zero => omega
    | succ n => rw [keepTo, keepTo_all mask r (o + 1) (i + 1) n (by omega)]
theorem keepTo_len (mask : Nat) : ∀ (l : List Cl) (i n : Nat), (keepTo mask i n l).length = l.length
  | [], i, n => by cases n <;> rfl
  | (s, none) :: r, i, 0 => rfl
  | (s, none) :: r, i, n + 1 => by rw [keepTo, List.length_cons, List.length_cons, keepTo_len mask r]
  | (s, some f) :: r, i, 0 => rfl
  | (s, some f) :: r, i, n + 1 => by rw [keepTo, List.length_cons, List.length_cons, keepTo_len mask r]
/-- one more -/
theorem keepTo_step (mask : Nat) : ∀ (l : List Cl) (o i n x : Nat), (cachedFrom o l)[n]? = some x →
    o ≤ x ∧ x < o + l.length ∧ ∃ s f, l[x - o]? = some (s, some f) ∧ (keepTo mask i n l)[x - o]? = some (s, some f) ∧ keepTo mask i (n + 1) l = (keepTo mask i n l).set (x - o) (if spared mask (i + n) = true then f else s, none)
  | [], o, i, n, x, h => by simp [cachedFrom] at h
  | (s, none) :: r, o, i, n, x, h => by
    rw [cachedFrom] at h
    obtain ⟨h1, h2, s', f', h3, h4, h5⟩ := keepTo_step mask r (o + 1) i n x h
    obtain ⟨k, rfl⟩ : ∃ k, x = o + 1 + k := ⟨x - (o + 1), by omega⟩
    rw [show o + 1 + k - (o + 1) = k by omega] at h3 h4 h5
    rw [show o + 1 + k - o = k + 1 by omega]
    have e : keepTo mask i n ((s, none) :: r) = (s, none) :: keepTo mask i n r := by cases n <;> simp [keepTo]
    refine ⟨by omega, by simp only [List.length_cons]; omega, s', f', by simpa using h3, ?_, ?_⟩
    · rw [e]
      simpa using h4
    · rw [e, keepTo, h5]
      rfl
  | (s, some f) :: r, o, i, 0, x, h => by
    rw [cachedFrom] at h
    simp at h
    subst h
    refine ⟨Nat.le_refl _, by simp, s, f, by simp, by simp [keepTo], ?_⟩
    simp [keepTo]
  | (s, some f) :: r, o, i, n + 1, x, h => by
    rw [cachedFrom, List.getElem?_cons_succ] at h
    obtain ⟨h1, h2, s', f', h3, h4, h5⟩ := keepTo_step mask r (o + 1) (i + 1) n x h
    obtain ⟨k, rfl⟩ : ∃ k, x = o + 1 + k := ⟨x - (o + 1), by omega⟩
    rw [show o + 1 + k - (o + 1) = k by omega] at h3 h4 h5
    rw [show o + 1 + k - o = k + 1 by omega]
    refine ⟨by omega, by simp only [List.length_cons]; omega, s', f', by simpa using h3, ?_, ?_⟩
    · rw [keepTo]
      simpa using h4
    · rw [keepTo, keepTo, h5, show i + 1 + n = i + (n + 1) by omega]
      rfl
theorem cachedFrom_mem : ∀ (l : List Cl) (o x : Nat), x ∈ cachedFrom o l ↔ o ≤ x ∧ ∃ s f, l[x - o]? = some (s, some f)
  | [], o, x => by simp [cachedFrom]
  | (s, none) :: r, o, x => by
    rw [cachedFrom, cachedFrom_mem r (o + 1) x]
    by_cases hx : x = o
    · subst hx
      simp
      omega
    · by_cases hlt : o + 1 ≤ x
      · obtain ⟨k, rfl⟩ : ∃ k, x = o + 1 + k := ⟨x - (o + 1), by omega⟩
        rw [show o + 1 + k - (o + 1) = k by omega, show o + 1 + k - o = k + 1 by omega, List.getElem?_cons_succ]
        simp
        omega
      · simp [hlt]
        intro h
        omega
  | (s, some f) :: r, o, x => by
    rw [cachedFrom, List.mem_cons, cachedFrom_mem r (o + 1) x]
    by_cases hx : x = o
    · subst hx
      simp
    · by_cases hlt : o + 1 ≤ x
      · obtain ⟨k, rfl⟩ : ∃ k, x = o + 1 + k := ⟨x - (o + 1), by omega⟩
        rw [show o + 1 + k - (o + 1) = k by omega, show o + 1 + k - o = k + 1 by omega, List.getElem?_cons_succ]
        simp [hx]
        omega
      · simp [hlt, hx]
        intro h
        omega
theorem cachedFrom_sorted : ∀ (l : List Cl) (o : Nat), (cachedFrom o l).Pairwise (· < ·)
  | [], o => by simp [cachedFrom]
  | (s, none) :: r, o => by
    rw [cachedFrom]
    exact cachedFrom_sorted r (o + 1)
  | (s, some f) :: r, o => by
    rw [cachedFrom]
    refine List.pairwise_cons.2 ⟨fun x hx => ?_, cachedFrom_sorted r (o + 1)⟩
    have := ((cachedFrom_mem r (o + 1) x).1 hx).1
    omega
theorem cachedFrom_len : ∀ (l : List Cl) (o : Nat), (cachedFrom o l).length ≤ l.length
  | [], o => by simp [cachedFrom]
  | (s, none) :: r, o => by
    rw [cachedFrom, List.length_cons]
    exact Nat.le_succ_of_le (cachedFrom_len r (o + 1))
  | (s, some f) :: r, o => by
    rw [cachedFrom, List.length_cons, List.length_cons]
    exact Nat.succ_le_succ (cachedFrom_len r (o + 1))
namespace Dsk
def crashTo (d : Dsk) (mask n : Nat) : Dsk := { d with cells := keepTo mask 0 n d.cells }
/-- the numbers that Cached tells -/
def cachedZ (d : Dsk) : List Int := d.cached.map Int.ofNat
end Dsk
theorem crashTo_zero (d : Dsk) (mask : Nat) : d.crashTo mask 0 = d := by
  unfold crashTo
  rw [show keepTo mask 0 0 d.cells = d.cells by cases d.cells <;> rfl]
theorem crashTo_all (d : Dsk) (mask : Nat) : { d.crashTo mask d.cached.length with fuse := -1, broken := false } = d.crash mask := by
  have h := keepTo_all mask d.cells 0 0 d.cached.length (Nat.le_refl _)
  unfold crashTo crash
  simp only
  rw [h]
theorem cachedZ_mem (d : Dsk) (x : Int) : x ∈ d.cachedZ ↔ (d.fresh x).isSome = true := by
  unfold cachedZ cached
  rw [List.mem_map]
  constructor
  · rintro ⟨i, hi, rfl⟩
    obtain ⟨_, s, f, h⟩ := (cachedFrom_mem d.cells 0 i).1 hi
    rw [Nat.sub_zero] at h
    have hlt := (List.getElem?_eq_some_iff.1 h).1
    show (d.fresh (i : Int)).isSome = true
    unfold fresh
    rw [if_pos ((has_iff d _).2 (by omega))]
    unfold cell
    rw [Int.toNat_natCast, List.getD_eq_getElem?_getD, h]
    rfl
  · intro h
    unfold fresh at h
    split at h
    · rename_i hx
      have h1 := cell_get hx
      have h2 := (has_iff d x).1 hx
      obtain ⟨i, rfl⟩ : ∃ i : Nat, x = (i : Int) := ⟨x.toNat, by omega⟩
      refine ⟨i, (cachedFrom_mem d.cells 0 i).2 ⟨Nat.zero_le _, ?_⟩, rfl⟩
      rw [Nat.sub_zero]
      rw [Int.toNat_natCast] at h1
      obtain ⟨f, hf⟩ := Option.isSome_iff_exists.1 h
      exact ⟨(d.cell (i : Int)).1, f, by rw [h1, ← hf]⟩
    · cases h
theorem cachedZ_sorted (d : Dsk) : d.cachedZ.Pairwise (· < ·) := by
  unfold cachedZ cached
  rw [List.pairwise_map]
  exact (cachedFrom_sorted d.cells 0).imp (fun {a b} h => by show (a : Int) < (b : Int); omega)
theorem cachedZ_nodup (d : Dsk) : d.cachedZ.Nodup := (cachedZ_sorted d).imp (fun {a b} h e => by omega)
theorem cachedZ_len (d : Dsk) : d.cachedZ.length = d.cached.length := by simp [cachedZ]
theorem cached_len (d : Dsk) : d.cached.length ≤ d.cells.length := cachedFrom_len d.cells 0
/-- a round of a crash -/
theorem crash_round {d : Dsk} (h : d.Ok) (mask n : Nat) {x : Int} (hx : d.cachedZ[n]? = some x) : ∃ (i : Nat) (s f : Sec), x = (i : Int) ∧ i < d.cells.length ∧ s.length = 16 ∧ f.length = 16 ∧ (d.crashTo mask n).cell (i : Int) = (s, some f) ∧ (d.crashTo mask n).fresh (i : Int) = some f ∧
    d.crashTo mask (n + 1) = { d.crashTo mask n with cells := (d.crashTo mask n).cells.set i (if spared mask n = true then f else s, none) } := by
  unfold cachedZ cached at hx
  rw [List.getElem?_map] at hx
  cases hc : (cachedFrom 0 d.cells)[n]? with
  | none => rw [hc] at hx; cases hx
  | some i =>
    rw [hc] at hx
    injection hx with hx
    obtain ⟨_, h2, s, f, h3, h4, h5⟩ := keepTo_step mask d.cells 0 0 n i hc
    rw [Nat.sub_zero] at h3 h4 h5
    rw [Nat.zero_add] at h2 h5
    have hcell : (d.crashTo mask n).cell (i : Int) = (s, some f) := by
      unfold cell crashTo
      rw [Int.toNat_natCast, List.getD_eq_getElem?_getD]
      simp only
      rw [h4]
      rfl
    have hm := List.mem_of_getElem? h3
    refine ⟨i, s, f, hx.symm, h2, h.safe _ hm, h.fresh _ hm f rfl, hcell, ?_, ?_⟩
    · unfold fresh
      rw [if_pos ((has_iff _ _).2 ⟨Int.natCast_nonneg i, by show (i : Int) < (((keepTo mask 0 n d.cells).length : Nat) : Int); rw [keepTo_len]; omega⟩), hcell]
    · unfold crashTo
      simp only
      rw [h5]
theorem crashTo_ok {d : Dsk} (h : d.Ok) (mask : Nat) : ∀ n, n ≤ d.cached.length → (d.crashTo mask n).Ok
  | 0, _ => by rw [crashTo_zero]; exact h
  | n + 1, hn => by
    have ih := crashTo_ok h mask n (by omega)
    have hx : d.cachedZ[n]? = some (d.cachedZ[n]'(by rw [cachedZ_len]; omega)) := List.getElem?_eq_getElem _
    obtain ⟨i, s, f, _, h1, h2, h3, _, _, h4⟩ := crash_round h mask n hx
    rw [h4]
    refine ⟨by simpa using ih.n, fun c hc => ?_, fun c hc s' hs' => ?_, ih.fuse, ih.ops⟩
    · rcases List.mem_or_eq_of_mem_set hc with hc | rfl
      · exact ih.safe c hc
      · simp only
        split
        · exact h3
        · exact h2
    · rcases List.mem_or_eq_of_mem_set hc with hc | rfl
      · exact ih.fresh c hc s' hs'
      · cases hs'
theorem crashTo_len (d : Dsk) (mask n : Nat) : (d.crashTo mask n).cells.length = d.cells.length := keepTo_len mask d.cells 0 n
end Go.Proofs.Ytpbcmghfhflkbaa.Disk
