/- A disk's crash, plainly: what is cached is lost, but for what the mask spares; with the facts that the laws of disks ask. Conditions: none. -/
import Derived.Test.YtpbcmghfhflkbaaDskLaw
set_option linter.unusedVariables false
set_option linter.unusedSimpArgs false
namespace Go.Proofs.Ytpbcmghfhflkbaa.Disk
open Tw Dsk
/-- does the mask spare the i-th cached sector? -/
def spared (mask i : Nat) : Bool := decide (mask / 2 ^ (i % 64) % 2 = 1)
/-- the cells behind a crash; i: how many cached ones came ahead -/
def keep (mask : Nat) : Nat → List Cl → List Cl
  | _, [] => []
  | i, (s, none) :: r => (s, none) :: keep mask i r
  | i, (s, some f) :: r => (if spared mask i = true then f else s, none) :: keep mask (i + 1) r
namespace Dsk
def crash (d : Dsk) (mask : Nat) : Dsk := { cells := keep mask 0 d.cells, fuse := -1, broken := false, ops := d.ops }
/-- what no crash takes -/
def durableAt (d : Dsk) (at_ : Int) : Sec := if d.has at_ then (d.cell at_).1 else zs
/-- which sectors are cached, from i on -/
def cachedFrom : Nat → List Cl → List Nat
  | _, [] => []
  | i, (_, none) :: r => cachedFrom (i + 1) r
  | i, (_, some _) :: r => i :: cachedFrom (i + 1) r
def cached (d : Dsk) : List Nat := cachedFrom 0 d.cells
end Dsk
theorem keep_len (mask : Nat) : ∀ (l : List Cl) (i : Nat), (keep mask i l).length = l.length
  | [], _ => rfl
  | (_, none) :: r, i => by rw [keep, List.length_cons, List.length_cons, keep_len mask r]
  | (_, some _) :: r, i => by rw [keep, List.length_cons, List.length_cons, keep_len mask r]
theorem keep_none (mask : Nat) : ∀ (l : List Cl) (i : Nat), ∀ c ∈ keep mask i l, c.2 = none
  | [], _, c, h => by simp [keep] at h
  | (s, none) :: r, i, c, h => by
    rw [keep, List.mem_cons] at h
    rcases h with rfl | h
    · rfl
    · exact keep_none mask r i c h
  | (s, some f) :: r, i, c, h => by
    rw [keep, List.mem_cons] at h
    rcases h with rfl | h
    · rfl
    · exact keep_none mask r (i + 1) c h
/-- a sector that is not cached is as it was -/
theorem keep_get (mask : Nat) : ∀ (l : List Cl) (i k : Nat) (s : Sec), l[k]? = some (s, none) → (keep mask i l)[k]? = some (s, none)
  | [], _, _, _, h => by simp at h
  | (s', none) :: r, i, 0, s, h => by simpa [keep] using h
  | (s', none) :: r, i, k + 1, s, h => by
    rw [keep]
    simp only [List.getElem?_cons_succ] at h ⊢
    exact keep_get mask r i k s h
  | (s', some f) :: r, i, 0, s, h => by simp at h
  | (s', some f) :: r, i, k + 1, s, h => by
    rw [keep]
    simp only [List.getElem?_cons_succ] at h ⊢
    exact keep_get mask r (i + 1) k s h
/-- a cached sector is the one or the other one -/
theorem keep_or (mask : Nat) : ∀ (l : List Cl) (i k : Nat) (c : Cl), l[k]? = some c → ∃ s, (keep mask i l)[k]? = some (s, none) ∧ (s = c.1 ∨ c.2 = some s)
  | [], _, _, _, h => by simp at h
  | (s', none) :: r, i, 0, c, h => by
    simp at h
    subst h
    exact ⟨s', by simp [keep], .inl rfl⟩
  | (s', none) :: r, i, k + 1, c, h => by
    rw [keep]
    simp only [List.getElem?_cons_succ] at h ⊢
    exact keep_or mask r i k c h
  | (s', some f) :: r, i, 0, c, h => by
    simp at h
    subst h
    rw [keep]
    refine ⟨_, by simp; rfl, ?_⟩
    by_cases hs : spared mask i = true
    · rw [if_pos hs]; exact .inr rfl
    · rw [if_neg hs]; exact .inl rfl
  | (s', some f) :: r, i, k + 1, c, h => by
    rw [keep]
    simp only [List.getElem?_cons_succ] at h ⊢
    exact keep_or mask r (i + 1) k c h
theorem cachedFrom_nil : ∀ (l : List Cl) (i : Nat), (∀ c ∈ l, c.2 = none) → cachedFrom i l = []
  | [], _, _ => rfl
  | (s, none) :: r, i, h => by
    rw [cachedFrom]
    exact cachedFrom_nil r (i + 1) fun c hc => h c (List.mem_cons_of_mem _ hc)
  | (s, some f) :: r, i, h => by
    have := h (s, some f) List.mem_cons_self
    cases this
theorem crash_cached (d : Dsk) (mask : Nat) : (d.crash mask).cached = [] := cachedFrom_nil _ _ (keep_none mask _ _)
theorem crash_ok {d : Dsk} (h : d.Ok) (mask : Nat) : (d.crash mask).Ok := by
  refine ⟨by simp only [crash, keep_len]; exact h.n, fun c hc => ?_, fun c hc s hs => ?_, by simp [crash], h.ops⟩
  · obtain ⟨k, hk, rfl⟩ := List.getElem_of_mem hc
    have hl : k < d.cells.length := by simpa [crash, keep_len] using hk
    obtain ⟨s, h1, h2⟩ := keep_or mask d.cells 0 k _ (List.getElem?_eq_getElem hl)
    have h3 : (crash d mask).cells[k] = (s, none) := by
      have h4 := List.getElem?_eq_getElem hk
      have h5 : (crash d mask).cells[k]? = some (s, none) := h1
      rw [h5] at h4
      injection h4 with h4
      exact h4.symm
    rw [h3]
    rcases h2 with rfl | h2
    · exact h.safe (d.cells[k]) (List.getElem_mem hl)
    · exact h.fresh _ (List.getElem_mem hl) s h2
  · have := keep_none mask d.cells 0 c hc
    rw [this] at hs
    cases hs
end Go.Proofs.Ytpbcmghfhflkbaa.Disk
