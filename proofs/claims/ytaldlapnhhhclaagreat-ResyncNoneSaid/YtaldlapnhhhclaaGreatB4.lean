/- Texts joined: what the disks, the rings and their reference do. Conditions: none. -/
import Derived.Test.YtaldlapnhhhclaaGreatB2
import Derived.Shelf.SlIterI.Nil
import Derived.Shelf.SortM.Plain
import Derived.Shelf.SortM.SortNone
import Derived.Ground.GgzProg
import Derived.Ground.SlgmProg
import Derived.Test.YtaldlapnhhhclaaGreatProg
import Derived.Test.YtaldlapnhhhclaaGreatB3
import Derived.Shelf.AbstractIn
import Derived.TacticsInMore
import Derived.ChangeKeysEq
import Derived.Laws.StructEq
import Derived.Laws.BitsAllLaws
/- A disk's crash, plainly: what is cached is lost, but for what the mask spares; with the facts that the laws of disks ask. Conditions: none. -/
set_option linter.unusedVariables false
set_option linter.unusedSimpArgs false
namespace Go.Proofs.YtaldlapnhhhclaaGreat.Disk
open Tw Dsk
/-- does the mask spare the i-th cached sector? -/
def spared (mask i : Nat) : Bool := decide (mask / 2 ^ (i % 64) % 2 = 1)
/-- the cells behind a crash; i: how many cached ones came ahead -/
def keep (mask : Nat) : Nat → List Cl → List Cl
  | _, [] => []
  | i, (s, none) :: r => (s, none) :: keep mask i r
  | i, (s, some f) :: r => (if spared mask i = true then f else s, none) :: keep mask (i + 1) r
namespace Dsk
def crash (d : Dsk) (mask : Nat) : Dsk := { cells := keep mask 0 d.cells, fuse := -1, broken := false, ops := d.ops }
/-- what no crash takes -/
def durableAt (d : Dsk) (at_ : Int) : Sec := if d.has at_ then (d.cell at_).1 else zs
/-- which sectors are cached, from i on -/
def cachedFrom : Nat → List Cl → List Nat
  | _, [] => []
  | i, (_, none) :: r => cachedFrom (i + 1) r
  | i, (_, some _) :: r => i :: cachedFrom (i + 1) r
def cached (d : Dsk) : List Nat := cachedFrom 0 d.cells
end Dsk
theorem keep_len (mask : Nat) : ∀ (l : List Cl) (i : Nat), (keep mask i l).length = l.length
  | [], _ => rfl
  | (_, none) :: r, i => by rw [keep, List.length_cons, List.length_cons, keep_len mask r]
  | (_, some _) :: r, i => by rw [keep, List.length_cons, List.length_cons, keep_len mask r]
theorem keep_none (mask : Nat) : ∀ (l : List Cl) (i : Nat), ∀ c ∈ keep mask i l, c.2 = none
  | [], _, c, h => by simp [keep] at h
  | (s, none) :: r, i, c, h => by
    rw [keep, List.mem_cons] at h
    rcases h with rfl | h
    · rfl
    · exact keep_none mask r i c h
  | (s, some f) :: r, i, c, h => by
    rw [keep, List.mem_cons] at h
    rcases h with rfl | h
    · rfl
    · exact keep_none mask r (i + 1) c h
/-- a sector that is not cached is as it was -/
theorem keep_get (mask : Nat) : ∀ (l : List Cl) (i k : Nat) (s : Sec), l[k]? = some (s, none) → (keep mask i l)[k]? = some (s, none)
  | [], _, _, _, h => by simp at h
  | (s', none) :: r, i, 0, s, h => by simpa [keep] using h
  | (s', none) :: r, i, k + 1, s, h => by
    rw [keep]
    simp only [List.getElem?_cons_succ] at h ⊢
    exact keep_get mask r i k s h
  | (s', some f) :: r, i, 0, s, h => by simp at h
  | (s', some f) :: r, i, k + 1, s, h => by
    rw [keep]
    simp only [List.getElem?_cons_succ] at h ⊢
    exact keep_get mask r (i + 1) k s h
/-- a cached sector is the one or the other one -/
theorem keep_or (mask : Nat) : ∀ (l : List Cl) (i k : Nat) (c : Cl), l[k]? = some c → ∃ s, (keep mask i l)[k]? = some (s, none) ∧ (s = c.1 ∨ c.2 = some s)
  | [], _, _, _, h => by simp at h
  | (s', none) :: r, i, 0, c, h => by
    simp at h
    subst h
    exact ⟨s', by simp [keep], .inl rfl⟩
  | (s', none) :: r, i, k + 1, c, h => by
    rw [keep]
    simp only [List.getElem?_cons_succ] at h ⊢
    exact keep_or mask r i k c h
  | (s', some f) :: r, i, 0, c, h => by
    simp at h
    subst h
    rw [keep]
    refine ⟨_, by simp; rfl, ?_⟩
    by_cases hs : spared mask i = true
    · rw [if_pos hs]; exact .inr rfl
    · rw [if_neg hs]; exact .inl rfl
  | (s', some f) :: r, i, k + 1, c, h => by
    rw [keep]
    simp only [List.getElem?_cons_succ] at h ⊢
    exact keep_or mask r (i + 1) k c h
theorem cachedFrom_nil : ∀ (l : List Cl) (i : Nat), (∀ c ∈ l, c.2 = none) → cachedFrom i l = []
  | [], _, _ => rfl
  | (s, none) :: r, i, h => by
    rw [cachedFrom]
    exact cachedFrom_nil r (i + 1) fun c hc => h c (List.mem_cons_of_mem _ hc)
  | (s, some f) :: r, i, h => by
    have := h (s, some f) List.mem_cons_self
    cases this
theorem crash_cached (d : Dsk) (mask : Nat) : (d.crash mask).cached = [] := cachedFrom_nil _ _ (keep_none mask _ _)
theorem crash_ok {d : Dsk} (h : d.Ok) (mask : Nat) : (d.crash mask).Ok := by
  refine ⟨by simp only [crash, keep_len]; exact h.n, fun c hc => ?_, fun c hc s hs => ?_, by simp [crash], h.ops⟩
  · obtain ⟨k, hk, rfl⟩ := List.getElem_of_mem hc
    have hl : k < d.cells.length := by simpa [crash, keep_len] using hk
    obtain ⟨s, h1, h2⟩ := keep_or mask d.cells 0 k _ (List.getElem?_eq_getElem hl)
    have h3 : (crash d mask).cells[k] = (s, none) := by
      have h4 := List.getElem?_eq_getElem hk
      have h5 : (crash d mask).cells[k]? = some (s, none) := h1
      rw [h5] at h4
      injection h4 with h4
      exact h4.symm
    rw [h3]
    rcases h2 with rfl | h2
    · exact h.safe (d.cells[k]) (List.getElem_mem hl)
    · exact h.fresh _ (List.getElem_mem hl) s h2
  · have := keep_none mask d.cells 0 c hc
    rw [this] at hs
    cases hs
end Go.Proofs.YtaldlapnhhhclaaGreat.Disk
/- A disk's crash, plainly, sector by sector: the first n cached ones; which are cached, in order. Conditions: none. -/
namespace Go.Proofs.YtaldlapnhhhclaaGreat.Disk
open Tw Dsk
/-- of the cached ones the first n are kept, or lost -/
def keepTo (mask : Nat) : Nat → Nat → List Cl → List Cl
  | _, 0, l => l
  | _, _ + 1, [] => []
  | i, n + 1, (s, none) :: r => (s, none) :: keepTo mask i (n + 1) r
  | i, n + 1, (s, some f) :: r => (if spared mask i = true then f else s, none) :: keepTo mask (i + 1) n r
theorem keepTo_all (mask : Nat) : ∀ (l : List Cl) (o i n : Nat), (cachedFrom o l).length ≤ n → keepTo mask i n l = keep mask i l
  | [], o, i, n, _ => by cases n <;> rfl
  | (s, none) :: r, o, i, n, h => by
    rw [cachedFrom] at h
    rw [keep]
    cases n with
    | zero =>
      have h1 := keepTo_all mask r (o + 1) i 0 h
      rw [show keepTo mask i 0 r = r by cases r <;> rfl] at h1
      rw [← h1]
      rfl
    | succ n => rw [keepTo, keepTo_all mask r (o + 1) i (n + 1) h]
  | (s, some f) :: r, o, i, n, h => by
    rw [cachedFrom, List.length_cons] at h
    rw [keep]
    cases n with
    | zero => omega
    | succ n => rw [keepTo, keepTo_all mask r (o + 1) (i + 1) n (by omega)]
theorem keepTo_len (mask : Nat) : ∀ (l : List Cl) (i n : Nat), (keepTo mask i n l).length = l.length
  | [], i, n => by cases n <;> rfl
  | (s, none) :: r, i, 0 => rfl
  | (s, none) :: r, i, n + 1 => by rw [keepTo, List.length_cons, List.length_cons, keepTo_len mask r]
  | (s, some f) :: r, i, 0 => rfl
  | (s, some f) :: r, i, n + 1 => by rw [keepTo, List.length_cons, List.length_cons, keepTo_len mask r]
/-- one more -/
theorem keepTo_step (mask : Nat) : ∀ (l : List Cl) (o i n x : Nat), (cachedFrom o l)[n]? = some x →
    o ≤ x ∧ x < o + l.length ∧ ∃ s f, l[x - o]? = some (s, some f) ∧ (keepTo mask i n l)[x - o]? = some (s, some f) ∧ keepTo mask i (n + 1) l = (keepTo mask i n l).set (x - o) (if spared mask (i + n) = true then f else s, none)
  | [], o, i, n, x, h => by simp [cachedFrom] at h
  | (s, none) :: r, o, i, n, x, h => by
    rw [cachedFrom] at h
    obtain ⟨h1, h2, s', f', h3, h4, h5⟩ := keepTo_step mask r (o + 1) i n x h
    obtain ⟨k, rfl⟩ : ∃ k, x = o + 1 + k := ⟨x - (o + 1), by omega⟩
    rw [show o + 1 + k - (o + 1) = k by omega] at h3 h4 h5
    rw [show o + 1 + k - o = k + 1 by omega]
    have e : keepTo mask i n ((s, none) :: r) = (s, none) :: keepTo mask i n r := by cases n <;> simp [keepTo]
    refine ⟨by omega, by simp only [List.length_cons]; omega, s', f', by simpa using h3, ?_, ?_⟩
    · rw [e]
      simpa using h4
    · rw [e, keepTo, h5]
      rfl
  | (s, some f) :: r, o, i, 0, x, h => by
    rw [cachedFrom] at h
    simp at h
    subst h
    refine ⟨Nat.le_refl _, by simp, s, f, by simp, by simp [keepTo], ?_⟩
    simp [keepTo]
  | (s, some f) :: r, o, i, n + 1, x, h => by
    rw [cachedFrom, List.getElem?_cons_succ] at h
    obtain ⟨h1, h2, s', f', h3, h4, h5⟩ := keepTo_step mask r (o + 1) (i + 1) n x h
    obtain ⟨k, rfl⟩ : ∃ k, x = o + 1 + k := ⟨x - (o + 1), by omega⟩
    rw [show o + 1 + k - (o + 1) = k by omega] at h3 h4 h5
    rw [show o + 1 + k - o = k + 1 by omega]
    refine ⟨by omega, by simp only [List.length_cons]; omega, s', f', by simpa using h3, ?_, ?_⟩
    · rw [keepTo]
      simpa using h4
    · rw [keepTo, keepTo, h5, show i + 1 + n = i + (n + 1) by omega]
      rfl
theorem cachedFrom_mem : ∀ (l : List Cl) (o x : Nat), x ∈ cachedFrom o l ↔ o ≤ x ∧ ∃ s f, l[x - o]? = some (s, some f)
  | [], o, x => by simp [cachedFrom]
  | (s, none) :: r, o, x => by
    rw [cachedFrom, cachedFrom_mem r (o + 1) x]
    by_cases hx : x = o
    · subst hx
      simp
      omega
    · by_cases hlt : o + 1 ≤ x
      · obtain ⟨k, rfl⟩ : ∃ k, x = o + 1 + k := ⟨x - (o + 1), by omega⟩
        rw [show o + 1 + k - (o + 1) = k by omega, show o + 1 + k - o = k + 1 by omega, List.getElem?_cons_succ]
        simp
        omega
      · simp [hlt]
        intro h
        omega
  | (s, some f) :: r, o, x => by
    rw [cachedFrom, List.mem_cons, cachedFrom_mem r (o + 1) x]
    by_cases hx : x = o
    · subst hx
      simp
    · by_cases hlt : o + 1 ≤ x
      · obtain ⟨k, rfl⟩ : ∃ k, x = o + 1 + k := ⟨x - (o + 1), by omega⟩
        rw [show o + 1 + k - (o + 1) = k by omega, show o + 1 + k - o = k + 1 by omega, List.getElem?_cons_succ]
        simp [hx]
        omega
      · simp [hlt, hx]
        intro h
        omega
theorem cachedFrom_sorted : ∀ (l : List Cl) (o : Nat), (cachedFrom o l).Pairwise (· < ·)
  | [], o => by simp [cachedFrom]
  | (s, none) :: r, o => by
    rw [cachedFrom]
    exact cachedFrom_sorted r (o + 1)
  | (s, some f) :: r, o => by
    rw [cachedFrom]
    refine List.pairwise_cons.2 ⟨fun x hx => ?_, cachedFrom_sorted r (o + 1)⟩
    have := ((cachedFrom_mem r (o + 1) x).1 hx).1
    omega
theorem cachedFrom_len : ∀ (l : List Cl) (o : Nat), (cachedFrom o l).length ≤ l.length
  | [], o => by simp [cachedFrom]
  | (s, none) :: r, o => by
    rw [cachedFrom, List.length_cons]
    exact Nat.le_succ_of_le (cachedFrom_len r (o + 1))
  | (s, some f) :: r, o => by
    rw [cachedFrom, List.length_cons, List.length_cons]
    exact Nat.succ_le_succ (cachedFrom_len r (o + 1))
namespace Dsk
def crashTo (d : Dsk) (mask n : Nat) : Dsk := { d with cells := keepTo mask 0 n d.cells }
/-- the numbers that Cached tells -/
def cachedZ (d : Dsk) : List Int := d.cached.map Int.ofNat
end Dsk
theorem crashTo_zero (d : Dsk) (mask : Nat) : d.crashTo mask 0 = d := by
  unfold crashTo
  rw [show keepTo mask 0 0 d.cells = d.cells by cases d.cells <;> rfl]
theorem crashTo_all (d : Dsk) (mask : Nat) : { d.crashTo mask d.cached.length with fuse := -1, broken := false } = d.crash mask := by
  have h := keepTo_all mask d.cells 0 0 d.cached.length (Nat.le_refl _)
  unfold crashTo crash
  simp only
  rw [h]
theorem cachedZ_mem (d : Dsk) (x : Int) : x ∈ d.cachedZ ↔ (d.fresh x).isSome = true := by
  unfold cachedZ cached
  rw [List.mem_map]
  constructor
  · rintro ⟨i, hi, rfl⟩
    obtain ⟨_, s, f, h⟩ := (cachedFrom_mem d.cells 0 i).1 hi
    rw [Nat.sub_zero] at h
    have hlt := (List.getElem?_eq_some_iff.1 h).1
    show (d.fresh (i : Int)).isSome = true
    unfold fresh
    rw [if_pos ((has_iff d _).2 (by omega))]
    unfold cell
    rw [Int.toNat_natCast, List.getD_eq_getElem?_getD, h]
    rfl
  · intro h
    unfold fresh at h
    split at h
    · rename_i hx
      have h1 := cell_get hx
      have h2 := (has_iff d x).1 hx
      obtain ⟨i, rfl⟩ : ∃ i : Nat, x = (i : Int) := ⟨x.toNat, by omega⟩
      refine ⟨i, (cachedFrom_mem d.cells 0 i).2 ⟨Nat.zero_le _, ?_⟩, rfl⟩
      rw [Nat.sub_zero]
      rw [Int.toNat_natCast] at h1
      obtain ⟨f, hf⟩ := Option.isSome_iff_exists.1 h
      exact ⟨(d.cell (i : Int)).1, f, by rw [h1, ← hf]⟩
    · cases h
theorem cachedZ_sorted (d : Dsk) : d.cachedZ.Pairwise (· < ·) := by
  unfold cachedZ cached
  rw [List.pairwise_map]
  exact (cachedFrom_sorted d.cells 0).imp (fun {a b} h => by show (a : Int) < (b : Int); omega)
theorem cachedZ_nodup (d : Dsk) : d.cachedZ.Nodup := (cachedZ_sorted d).imp (fun {a b} h e => by omega)
theorem cachedZ_len (d : Dsk) : d.cachedZ.length = d.cached.length := by simp [cachedZ]
theorem cached_len (d : Dsk) : d.cached.length ≤ d.cells.length := cachedFrom_len d.cells 0
/-- a round of a crash -/
theorem crash_round {d : Dsk} (h : d.Ok) (mask n : Nat) {x : Int} (hx : d.cachedZ[n]? = some x) : ∃ (i : Nat) (s f : Sec), x = (i : Int) ∧ i < d.cells.length ∧ s.length = 16 ∧ f.length = 16 ∧ (d.crashTo mask n).cell (i : Int) = (s, some f) ∧ (d.crashTo mask n).fresh (i : Int) = some f ∧
    d.crashTo mask (n + 1) = { d.crashTo mask n with cells := (d.crashTo mask n).cells.set i (if spared mask n = true then f else s, none) } := by
  unfold cachedZ cached at hx
  rw [List.getElem?_map] at hx
  cases hc : (cachedFrom 0 d.cells)[n]? with
  | none => rw [hc] at hx; cases hx
  | some i =>
    rw [hc] at hx
    injection hx with hx
    obtain ⟨_, h2, s, f, h3, h4, h5⟩ := keepTo_step mask d.cells 0 0 n i hc
    rw [Nat.sub_zero] at h3 h4 h5
    rw [Nat.zero_add] at h2 h5
    have hcell : (d.crashTo mask n).cell (i : Int) = (s, some f) := by
      unfold cell crashTo
      rw [Int.toNat_natCast, List.getD_eq_getElem?_getD]
      simp only
      rw [h4]
      rfl
    have hm := List.mem_of_getElem? h3
    refine ⟨i, s, f, hx.symm, h2, h.safe _ hm, h.fresh _ hm f rfl, hcell, ?_, ?_⟩
    · unfold fresh
      rw [if_pos ((has_iff _ _).2 ⟨Int.natCast_nonneg i, by show (i : Int) < (((keepTo mask 0 n d.cells).length : Nat) : Int); rw [keepTo_len]; omega⟩), hcell]
    · unfold crashTo
      simp only
      rw [h5]
theorem crashTo_ok {d : Dsk} (h : d.Ok) (mask : Nat) : ∀ n, n ≤ d.cached.length → (d.crashTo mask n).Ok
  | 0, _ => by rw [crashTo_zero]; exact h
  | n + 1, hn => by
    have ih := crashTo_ok h mask n (by omega)
    have hx : d.cachedZ[n]? = some (d.cachedZ[n]'(by rw [cachedZ_len]; omega)) := List.getElem?_eq_getElem _
    obtain ⟨i, s, f, _, h1, h2, h3, _, _, h4⟩ := crash_round h mask n hx
    rw [h4]
    refine ⟨by simpa using ih.n, fun c hc => ?_, fun c hc s' hs' => ?_, ih.fuse, ih.ops⟩
    · rcases List.mem_or_eq_of_mem_set hc with hc | rfl
      · exact ih.safe c hc
      · simp only
        split
        · exact h3
        · exact h2
    · rcases List.mem_or_eq_of_mem_set hc with hc | rfl
      · exact ih.fresh c hc s' hs'
      · cases hs'
theorem crashTo_len (d : Dsk) (mask n : Nat) : (d.crashTo mask n).cells.length = d.cells.length := keepTo_len mask d.cells 0 n
end Go.Proofs.YtaldlapnhhhclaaGreat.Disk
/- Library functions' contracts at this translation: tables of numbers. Conditions: none. -/
namespace Go.Proofs.YtaldlapnhhhclaaGreat.Shf
open Go.Shelf
def keysA_ren : Go.Shelf.Ren := ⟨fun | 7 => 119 | 10 => 167 | n => n, fun | 23 => 123 | 26 => 3 | 3 => 127 | 28 => 177 | 0 => 0 | 27 => 176 | 33 => 163 | 4 => 4 | n => n, fun | n => n⟩
theorem keysA : Go.Proofs.SlLaysZI.n7 Tryz.prog keysA_ren := {
  mixed := by kernel_rfl
  f7 := ⟨Tryz.f119.name, by decide, Tryz.func119.trans (congrArg some (by kernel_rfl))⟩
  f10 := ⟨Tryz.f167.name, by decide, Tryz.func167.trans (congrArg some (by kernel_rfl))⟩
  t0 := Tryz.underlying0
  a0 := Tryz.isAgg0
  z0 := Tryz.sizeOf0
  v0 := Tryz.zeroValue0
  t4 := Tryz.underlying4
  a4 := Tryz.isAgg4
  z4 := Tryz.sizeOf4
  v4 := Tryz.zeroValue4
  t23 := Tryz.underlying123
  a23 := Tryz.isAgg123
  z23 := Tryz.sizeOf123
  v23 := Tryz.zeroValue123
  t26 := Tryz.underlying3
  a26 := Tryz.isAgg3
  z26 := Tryz.sizeOf3
  v26 := Tryz.zeroValue3
  t27 := Tryz.underlying176
  a27 := Tryz.isAgg176
  z27 := Tryz.sizeOf176
  v27 := Tryz.zeroValue176
  t28 := Tryz.underlying177
  a28 := Tryz.isAgg177
  z28 := Tryz.sizeOf177
  v28 := Tryz.zeroValue177
  t33 := Tryz.underlying163
  a33 := Tryz.isAgg163
  z33 := Tryz.sizeOf163
  v33 := Tryz.zeroValue163 }
def sortedA_ren : Go.Shelf.Ren := ⟨fun | 6 => 118 | 8 => 165 | 9 => 166 | 11 => 184 | 13 => 186 | 12 => 185 | 23 => 205 | 24 => 206 | 14 => 196 | 15 => 197 | 16 => 198 | 17 => 199 | 18 => 200 | 19 => 201 | 20 => 202 | 21 => 203 | 22 => 204 | 25 => 214 | 26 => 215 | 27 => 216 | 28 => 217 | 29 => 218 | 30 => 219 | 31 => 223 | n => n, fun | 26 => 3 | 28 => 177 | 24 => 134 | 0 => 0 | 3 => 3 | 37 => 240 | 48 => 73 | 50 => 22 | 4 => 4 | 40 => 250 | 39 => 249 | 45 => 242 | 5 => 5 | 9 => 9 | 51 => 259 | 55 => 262 | 57 => 266 | 58 => 267 | 33 => 163 | n => n, fun | n => n⟩
theorem sortedA : Go.Proofs.SlLaysZI.n6 Tryz.prog sortedA_ren := {
  mixed := by kernel_rfl
  f6 := ⟨Tryz.f118.name, by decide, Tryz.func118.trans (congrArg some (by kernel_rfl))⟩
  f8 := ⟨Tryz.f165.name, by decide, Tryz.func165.trans (congrArg some (by kernel_rfl))⟩
  f11 := ⟨Tryz.f184.name, by decide, Tryz.func184.trans (congrArg some (by kernel_rfl))⟩
  t0 := Tryz.underlying0
  a0 := Tryz.isAgg0
  z0 := Tryz.sizeOf0
  v0 := Tryz.zeroValue0
  t24 := Tryz.underlying134
  a24 := Tryz.isAgg134
  z24 := Tryz.sizeOf134
  v24 := Tryz.zeroValue134
  t26 := Tryz.underlying3
  a26 := Tryz.isAgg3
  z26 := Tryz.sizeOf3
  v26 := Tryz.zeroValue3
  t28 := Tryz.underlying177
  a28 := Tryz.isAgg177
  z28 := Tryz.sizeOf177
  v28 := Tryz.zeroValue177
  i26 := by kernel_rfl }
def sortA_ren : Go.Shelf.Ren := ⟨fun | 5 => 166 | 8 => 186 | 7 => 185 | 19 => 205 | 20 => 206 | 10 => 196 | 11 => 197 | 12 => 198 | 13 => 199 | 14 => 200 | 15 => 201 | 16 => 202 | 17 => 203 | 18 => 204 | 30 => 214 | 31 => 215 | 32 => 216 | 33 => 217 | 34 => 218 | 35 => 219 | 40 => 223 | n => n, fun | 23 => 134 | 25 => 3 | 3 => 3 | 32 => 240 | 22 => 134 | 0 => 0 | 44 => 73 | 46 => 22 | 4 => 4 | 36 => 250 | 35 => 249 | 41 => 242 | 5 => 5 | 9 => 9 | 53 => 259 | 57 => 262 | 63 => 266 | 64 => 267 | n => n, fun | n => n⟩
theorem sortA : Go.Proofs.SlLaysM.n5 Tryz.prog sortA_ren := {
  mixed := by kernel_rfl
  f5 := ⟨Tryz.f166.name, by decide, Tryz.func166.trans (congrArg some (by kernel_rfl))⟩
  f7 := ⟨Tryz.f185.name, by decide, Tryz.func185.trans (congrArg some (by kernel_rfl))⟩
  f8 := Tryz.func186.trans (congrArg some (by kernel_rfl))
  f10 := ⟨Tryz.f196.name, by decide, Tryz.func196.trans (congrArg some (by kernel_rfl))⟩
  f11 := ⟨Tryz.f197.name, by decide, Tryz.func197.trans (congrArg some (by kernel_rfl))⟩
  f12 := ⟨Tryz.f198.name, by decide, Tryz.func198.trans (congrArg some (by kernel_rfl))⟩
  f13 := ⟨Tryz.f199.name, by decide, Tryz.func199.trans (congrArg some (by kernel_rfl))⟩
  f14 := ⟨Tryz.f200.name, by decide, Tryz.func200.trans (congrArg some (by kernel_rfl))⟩
  f15 := ⟨Tryz.f201.name, by decide, Tryz.func201.trans (congrArg some (by kernel_rfl))⟩
  f16 := ⟨Tryz.f202.name, by decide, Tryz.func202.trans (congrArg some (by kernel_rfl))⟩
  f17 := ⟨Tryz.f203.name, by decide, Tryz.func203.trans (congrArg some (by kernel_rfl))⟩
  f18 := ⟨Tryz.f204.name, by decide, Tryz.func204.trans (congrArg some (by kernel_rfl))⟩
  f19 := Tryz.func205.trans (congrArg some (by kernel_rfl))
  f20 := Tryz.func206.trans (congrArg some (by kernel_rfl))
  f30 := ⟨Tryz.f214.name, by decide, Tryz.func214.trans (congrArg some (by kernel_rfl))⟩
  f31 := Tryz.func215.trans (congrArg some (by kernel_rfl))
  f32 := Tryz.func216.trans (congrArg some (by kernel_rfl))
  f33 := ⟨Tryz.f217.name, by decide, Tryz.func217.trans (congrArg some (by kernel_rfl))⟩
  f34 := ⟨Tryz.f218.name, by decide, Tryz.func218.trans (congrArg some (by kernel_rfl))⟩
  f35 := ⟨Tryz.f219.name, by decide, Tryz.func219.trans (congrArg some (by kernel_rfl))⟩
  f40 := ⟨Tryz.f223.name, by decide, Tryz.func223.trans (congrArg some (by kernel_rfl))⟩
  t0 := Tryz.underlying0
  a0 := Tryz.isAgg0
  z0 := Tryz.sizeOf0
  v0 := Tryz.zeroValue0
  t3 := Tryz.underlying3
  a3 := Tryz.isAgg3
  z3 := Tryz.sizeOf3
  v3 := Tryz.zeroValue3
  t4 := Tryz.underlying4
  a4 := Tryz.isAgg4
  z4 := Tryz.sizeOf4
  v4 := Tryz.zeroValue4
  t5 := Tryz.underlying5
  a5 := Tryz.isAgg5
  z5 := Tryz.sizeOf5
  v5 := Tryz.zeroValue5
  t9 := Tryz.underlying9
  a9 := Tryz.isAgg9
  z9 := Tryz.sizeOf9
  v9 := Tryz.zeroValue9
  t22 := Tryz.underlying134
  a22 := Tryz.isAgg134
  z22 := Tryz.sizeOf134
  v22 := Tryz.zeroValue134
  t23 := Tryz.underlying134
  a23 := Tryz.isAgg134
  z23 := Tryz.sizeOf134
  v23 := Tryz.zeroValue134
  t25 := Tryz.underlying3
  a25 := Tryz.isAgg3
  z25 := Tryz.sizeOf3
  v25 := Tryz.zeroValue3
  t32 := Tryz.underlying240
  a32 := Tryz.isAgg240
  z32 := Tryz.sizeOf240
  v32 := Tryz.zeroValue240
  t35 := Tryz.underlying249
  a35 := Tryz.isAgg249
  z35 := Tryz.sizeOf249
  v35 := Tryz.zeroValue249
  t36 := Tryz.underlying250
  a36 := Tryz.isAgg250
  z36 := Tryz.sizeOf250
  v36 := Tryz.zeroValue250
  t41 := Tryz.underlying242
  a41 := Tryz.isAgg242
  z41 := Tryz.sizeOf242
  v41 := Tryz.zeroValue242
  t44 := Tryz.underlying73
  a44 := Tryz.isAgg73
  z44 := Tryz.sizeOf73
  v44 := Tryz.zeroValue73
  t46 := Tryz.underlying22
  a46 := Tryz.isAgg22
  z46 := Tryz.sizeOf22
  v46 := Tryz.zeroValue22
  t53 := Tryz.underlying259
  a53 := Tryz.isAgg259
  z53 := Tryz.sizeOf259
  v53 := Tryz.zeroValue259
  t57 := Tryz.underlying262
  a57 := Tryz.isAgg262
  z57 := Tryz.sizeOf262
  v57 := Tryz.zeroValue262
  t63 := Tryz.underlying266
  a63 := Tryz.isAgg266
  z63 := Tryz.sizeOf266
  v63 := Tryz.zeroValue266
  t64 := Tryz.underlying267
  a64 := Tryz.isAgg267
  z64 := Tryz.sizeOf267
  v64 := Tryz.zeroValue267 }
end Go.Proofs.YtaldlapnhhhclaaGreat.Shf
/- Contracts of the package disk: Cached. Conditions: none. -/
namespace Go.Proofs.YtaldlapnhhhclaaGreat.Disk
open Go.RowKit Tw Go.Maps Go.ChangeMaps Go.Sort Go.Shelf
set_option maxHeartbeats 4000000
set_option maxRecDepth 100000

theorem sortsA (m : Nat) : AnyZI.SortsIn Tryz.prog Shf.sortedA_ren Fence.wide m :=
  ⟨fun blk off cap ss W hH hblk hsz => callsIn_wide.2 (AnyM.slices_Sort_int Shf.sortA blk off cap ss W hH hblk hsz),
   fun p cap W => callsIn_wide.2 (AnyM.slices_Sort_int_none Shf.sortA p cap W)⟩
theorem keys_perm {w : World} {mb m : Nat} {D : DataW Value} {d : Dsk} (hown : w.ownsMap Tryz.prog 3 R mb m D) (hi : MapIs D d) : d.cachedZ.Perm (intKeys D) := by
  obtain ⟨es, hD, hpw, _⟩ := hown.entries law
  obtain ⟨es', hD', hko⟩ := hown.keysOf
  obtain rfl : es = es' := by rw [hD] at hD'; simpa using hD'
  subst hD
  refine perm_intKeys hpw (fun p hp => by obtain ⟨v, hv⟩ := hko p hp; obtain ⟨x, _, hx, _⟩ := Maps.keyOf_i64 Tryz.underlying3 hv; exact ⟨x, hx⟩) (cachedZ_nodup d) (fun x => ?_)
  rw [cachedZ_mem]
  have := (hi x).1
  rw [← this]
  rfl
theorem sorted_of {d : Dsk} {D : DataW Value} {ss : List Int} (h : d.cachedZ.Perm (intKeys D)) (hs : ss.Perm (intKeys D)) : ss.mergeSort (fun x y => decide (x ≤ y)) = d.cachedZ := by
  have tr : ∀ a b c : Int, leI a b = true → leI b c = true → leI a c = true := fun a b c h1 h2 => by simp only [leI, decide_eq_true_eq] at *; omega
  have tot : ∀ a b : Int, (leI a b || leI b a) = true := fun a b => by simp only [leI, Bool.or_eq_true, decide_eq_true_eq]; omega
  refine List.Perm.eq_of_pairwise (le := fun a b => leI a b = true) (fun a b _ _ h1 h2 => ?_) (List.pairwise_mergeSort tr tot ss) ((cachedZ_sorted d).imp (fun {a b} h => by simp only [leI, decide_eq_true_eq]; omega)) (((List.mergeSort_perm ss leI).trans hs).trans h.symm)
  simp only [leI, decide_eq_true_eq] at h1 h2
  omega
theorem cached_size {w : World} {mb m : Nat} {D : DataW Value} {d : Dsk} (hown : w.ownsMap Tryz.prog 3 R mb m D) (hi : MapIs D d) : Maps.size D = d.cached.length := by
  have h := (keys_perm hown hi).length_eq
  obtain ⟨es, rfl, _⟩ := hown.keysOf
  rw [cachedZ_len] at h
  rw [h]
  simp [Maps.size, intKeys]
/-- slices.Sorted over what maps.Keys handed back; w: the world ahead of maps.Keys -/
theorem c_Sorted (b nn : Nat) (D0 : DataW Value) (w : World) (hown : w.ownsMap Tryz.prog 3 R b nn D0) (hmax : Maps.size D0 ≤ maxLen) (hbytes : Maps.size D0 * 8 ≤ 140737488355328) :
    CallsIn Fence.wide 5 Tryz.prog 118 #[.func (.func 167) #[] #[.pointer (some ⟨w.heap.size, 0, none⟩)]] (w.alloc (.cells #[.map (some b)] 123)) fun e w' => ∃ (v : Value) (ss : List Int), e = .returned v ∧ ss.Perm (intKeys D0) ∧
      w'.ownsRow (w.alloc (.cells #[.map (some b)] 123)).heap.size 3 1 v ss.length ((ss.mergeSort (fun x y => decide (x ≤ y))).map encZ) ∧ (v = .slice none 0 0 ↔ ss = []) ∧ Below (w.alloc (.cells #[.map (some b)] 123)).heap.size (w.alloc (.cells #[.map (some b)] 123)) w' := by
  have hbl := hown.lt
  have hseq : SeqGives Fence.wide 2 Tryz.prog 167 #[.pointer (some ⟨w.heap.size, 0, none⟩)] encZ (fun ss => ss.Perm (intKeys D0)) (Maps.size D0) (w.alloc (.cells #[.map (some b)] 123)) :=
    AnyZI.keys_gives (ρ := Shf.keysA_ren) { Shf.keysA with } Fence.wide _ trivial rfl (by omega) w.heap.size b nn D0 _ (by simp) (by simp) (by
      obtain ⟨es, clock, hb, Ft, hs, hD⟩ := hown
      exact ⟨es, clock, (Below.heap_alloc _ _ b hbl).trans hb, Ft, hs, hD⟩)
  exact AnyZI.sorted_in Shf.sortedA Fence.wide 5 trivial trivial trivial trivial rfl (by omega) (sortsA _) (enters_of Tryz.func166 (by kernel_rfl) rfl) 167 #[.pointer (some ⟨w.heap.size, 0, none⟩)] trivial (enters_of Tryz.func167 (by kernel_rfl) rfl) _ _ hmax hbytes _ hseq
section
variable {w : World} {p g mb c : Nat} {d : Dsk}
theorem c_Cached (h : Dk w p g mb c d) : Calls Tryz.prog 63 #[.pointer (some ⟨p, 0, none⟩)] w fun e w' => ∃ A c2, e = .returned (.slice A d.cached.length c2) ∧ Tw.Own w' w.heap.size 3 1 A d.cached.length c2 (d.cachedZ.map encZ) ∧ Below w.heap.size w w' := by
  obtain ⟨k0, k1, k2, k3, k4⟩ := h.cells
  obtain ⟨D, m, hm, hle, hi⟩ := h.map
  have hn := h.ok.n
  have hcl := cached_len d
  have hsz := cached_size hm hi
  have cK : ∀ mb W, CallsIn Fence.wide 5 Tryz.prog 119 #[.map mb] W fun e w' => e = .returned (.func (.func 167) #[] #[.pointer (some ⟨W.heap.size, 0, none⟩)]) ∧ w' = W.alloc (.cells #[.map mb] 123) := fun mb W => AnyZI.keys_in Shf.keysA Fence.wide 5 trivial rfl mb W
  have cS := c_Sorted mb m D w hm (by rw [hsz]; simp [maxLen]; omega) (by rw [hsz]; omega)
  have HP := Lib.hid (keys_perm hm hi)
  have H := Lib.hid h
  have CK := Lib.hid cK
  have CS := Lib.hid cS
  clear h hm hi hsz hle hcl hn cK cS
  have hfM : Fence.wide.fn 62 := trivial
  have hfK : Fence.wide.fn 119 := trivial
  have hfS : Fence.wide.fn 118 := trivial
  refine (callsIn_wide (n := 6)).1 ?_
  refine callsIn_of_wp Tryz.func63 rfl trivial ?_ rfl
  simp only [Tryz.ntmps63, List.size_toArray, List.length_cons, List.length_nil, Nat.reduceAdd, Nat.reduceSub, Array.replicate_succ, Array.replicate_zero, List.push_toArray, List.append_toArray, List.nil_append, List.cons_append]
  gi_wp2_with (first
    | (gi_at_call 62; refine (callsIn_wide.2 (c_Made H.out)).mono ?_; rintro e w' ⟨rfl, rfl⟩)
    | (gi_at_call 119; refine (CK.out _ _).mono ?_; rintro e w' ⟨rfl, rfl⟩)
    | (gi_at_call 118; refine CS.out.mono ?_; rintro e w' ⟨v, ss, rfl, hS, hrow, hnil, hb⟩))
  go_ret
  have hs := sorted_of HP.out hS
  have hl : ss.length = d.cached.length := by rw [← cachedZ_len, HP.out.length_eq, hS.length_eq]
  rw [hs, hl] at hrow
  have hb2 : Below w.heap.size w w' := ((Below.refl _ w).alloc (Nat.le_refl _) _).trans (hb.mono (by simp))
  rcases hrow.2 with ⟨rfl, h0⟩ | ⟨gb, cap, cur, rfl, _⟩
  · rw [h0] at hrow ⊢
    exact ⟨none, 0, rfl, Tw.Own.mono hrow (by simp), hb2⟩
  · exact ⟨_, _, rfl, Tw.Own.mono hrow (by simp), hb2⟩
end
end Go.Proofs.YtaldlapnhhhclaaGreat.Disk
/- Arrays of bytes, compared. Conditions: none. -/
namespace Go.Proofs.YtaldlapnhhhclaaGreat.Tw
open Go.RowKit
section
variable {P : Program} (w : World)
theorem run_eqItems_bytes (d : Nat) {e : TypeId} (he : P.underlying e = some (.int .u8)) (a b : List UInt8) : ∀ is : List Nat, (∀ i ∈ is, i < a.length ∧ i < b.length) →
    (Op.eqItems (d + 1) e 1 (bytesV a).toArray (bytesV b).toArray is).run P w = .ok (is.all fun i => a[i]? == b[i]?) w
  | [], _ => by simp [Op.eqItems]
  | i :: is, h => by
    obtain ⟨h1, h2⟩ := h i (by simp)
    have hp : P.plainKey e = true := by simp [Program.plainKey, he]
    have ka : (bytesV a).toArray[i * 1]? = some (.int .u8 ((a[i]).toNat : Int)) := by simp [bytesV, h1]
    have kb : (bytesV b).toArray[i * 1]? = some (.int .u8 ((b[i]).toNat : Int)) := by simp [bytesV, h2]
    simp only [Op.eqItems, Sem.run_bind, run_part_plain w hp ka, run_part_plain w hp kb, Result.andThen_ok, run_equalIn_int w d e _ _ _ _ he]
    rw [List.all_cons, ← run_eqItems_bytes_aux a b h1 h2]
    cases hc : (((a[i]).toNat : Int) == ((b[i]).toNat : Int)) with
    | false => simp
    | true => simpa using run_eqItems_bytes d he a b is (fun j hj => h j (by simp [hj]))
where
  run_eqItems_bytes_aux {i : Nat} (a b : List UInt8) (h1 : i < a.length) (h2 : i < b.length) : (((a[i]).toNat : Int) == ((b[i]).toNat : Int)) = (a[i]? == b[i]?) := by
    rw [List.getElem?_eq_getElem h1, List.getElem?_eq_getElem h2, Bool.eq_iff_iff]
    simp only [beq_iff_eq, Option.some.injEq]
    constructor
    · intro h
      exact UInt8.toNat_inj.1 (by omega)
    · intro h
      rw [h]
theorem all_range_eq (a b : List UInt8) (h : a.length = b.length) : ((List.range a.length).all fun i => a[i]? == b[i]?) = decide (a = b) := by
  rw [Bool.eq_iff_iff]
  simp only [List.all_eq_true, List.mem_range, beq_iff_eq, decide_eq_true_eq]
  constructor
  · intro h2
    refine List.ext_getElem? fun i => ?_
    by_cases hi : i < a.length
    · exact h2 i hi
    · rw [List.getElem?_eq_none (by omega), List.getElem?_eq_none (by omega)]
  · intro h2 i _
    rw [h2]
theorem run_eql_barr {t e : TypeId} {n : Nat} (a b : List UInt8) (ha : a.length = n) (hb : b.length = n) (ht : P.underlying t = some (.array n e)) (he : P.underlying e = some (.int .u8)) (hs : (P.info? e).map (·.size) = some 1) :
    (Op.equalIn 10000 t (.agg (bytesV a).toArray) (.agg (bytesV b).toArray)).run P w = .ok (decide (a = b)) w := by
  cases hq : P.info? e with
  | none => simp [hq] at hs
  | some i =>
    have h1 : i.size = 1 := by simpa [hq] using hs
    rw [run_equalIn_array w 9999 _ _ ht hq, show P.cellsOf e = 1 by simp [Program.cellsOf, hq, h1]]
    subst ha
    rw [run_eqItems_bytes w 9998 he a b (List.range a.length) (fun i hi => by have := List.mem_range.1 hi; omega), all_range_eq a b hb.symm]
theorem run_neq_barr {t e : TypeId} {n : Nat} (a b : List UInt8) (ha : a.length = n) (hb : b.length = n) (ht : P.underlying t = some (.array n e)) (he : P.underlying e = some (.int .u8)) (hs : (P.info? e).map (·.size) = some 1) :
    (binOp .neq t (.agg (bytesV a).toArray) (.agg (bytesV b).toArray)).run P w = .ok (.bool (!decide (a = b))) w := by
  rw [run_neq_struct, run_eql_barr w a b ha hb ht he hs]
  rfl
theorem run_eq_barr {t e : TypeId} {n : Nat} (a b : List UInt8) (ha : a.length = n) (hb : b.length = n) (ht : P.underlying t = some (.array n e)) (he : P.underlying e = some (.int .u8)) (hs : (P.info? e).map (·.size) = some 1) :
    (binOp .eql t (.agg (bytesV a).toArray) (.agg (bytesV b).toArray)).run P w = .ok (.bool (decide (a = b))) w := by
  rw [run_eql_struct, run_eql_barr w a b ha hb ht he hs]
  rfl
end
end Go.Proofs.YtaldlapnhhhclaaGreat.Tw
/- Contracts of the package disk: Crash. Conditions: none. -/
namespace Go.Proofs.YtaldlapnhhhclaaGreat.Disk
open Go.RowKit Tw Go.Maps Go.ChangeMaps Go.Sort
set_option maxHeartbeats 4000000
set_option maxRecDepth 100000

theorem set_fresh (d : Dsk) {i : Nat} (hi : i < d.cells.length) (x : Sec) (y : Int) : ({ d with cells := d.cells.set i (x, none) } : Dsk).fresh y = if y = (i : Int) then none else d.fresh y := by
  have hlen : ({ d with cells := d.cells.set i (x, none) } : Dsk).cells.length = d.cells.length := by simp
  have hh : ∀ z, ({ d with cells := d.cells.set i (x, none) } : Dsk).has z ↔ d.has z := fun z => by rw [has_iff, has_iff, hlen]
  unfold Dsk.fresh
  by_cases hy : d.has y
  · rw [if_pos ((hh y).2 hy)]
    have hy' := (has_iff d y).1 hy
    have hc : ({ d with cells := d.cells.set i (x, none) } : Dsk).cell y = if y = (i : Int) then (x, none) else d.cell y := by
      unfold Dsk.cell
      simp only [List.getD_eq_getElem?_getD]
      by_cases h : y = (i : Int)
      · subst h
        rw [if_pos rfl, Int.toNat_natCast, List.getElem?_set_self hi]
        rfl
      · rw [if_neg h, List.getElem?_set_ne (by omega)]
    rw [hc, if_pos hy]
    split <;> rfl
  · rw [if_neg (fun h => hy ((hh y).1 h)), if_neg hy]
    split <;> rfl
theorem mapIs_del {D : DataW Value} {d : Dsk} (h : MapIs D d) {i : Nat} (hi : i < d.cells.length) (x : Sec) : MapIs (D.del (kl (i : Int))) { d with cells := d.cells.set i (x, none) } := fun y => by
  rw [set_fresh d hi x y]
  by_cases hy : y = (i : Int)
  · subst hy
    rw [if_pos rfl]
    exact ⟨has_del_same, fun z => atKey_del_same z⟩
  · rw [if_neg hy]
    obtain ⟨h1, h2⟩ := h y
    exact ⟨(has_del_other (kl_ne hy)).trans h1, fun z => (atKey_del_other (kl_ne hy) z).trans (h2 z)⟩
theorem durable_set {d : Dsk} (h : d.Ok) {i : Nat} (hi : i < d.cells.length) {x : Sec} (hx : x.length = 16) : splice (bytesV (durable d)) (i * 16) (bytesV x) = bytesV (durable { d with cells := d.cells.set i (x, none) }) := by
  have e1 : durable d = catS (fun j => (d.cells.getD j c0).1) d.cells.length := flat_catS d.cells (·.1)
  have e2 : durable { d with cells := d.cells.set i (x, none) } = catS (fun j => ((d.cells.set i (x, none)).getD j c0).1) d.cells.length := by
    have := flat_catS (d.cells.set i (x, none)) (·.1)
    rw [List.length_set] at this
    exact this
  rw [e1, e2]
  have hgx : ((d.cells.set i (x, none)).getD i c0).1 = x := by rw [List.getD_eq_getElem?_getD, List.getElem?_set_self hi]; rfl
  have := catS_put (f := fun j => (d.cells.getD j c0).1) (g := fun j => ((d.cells.set i (x, none)).getD j c0).1) hi (fun j hj => h.safe _ (cellAt_mem hj)) (by simp only [hgx]; exact hx) (fun j hj hne => by
    simp only [List.getD_eq_getElem?_getD]
    rw [List.getElem?_set_ne (by omega)])
  simp only [hgx] at this
  exact this
theorem durable_keep {d : Dsk} {i : Nat} {s f : Sec} (hc : d.cell (i : Int) = (s, some f)) (hi : i < d.cells.length) : durable { d with cells := d.cells.set i (s, none) } = durable d := by
  have hg : d.cells[i]? = some (s, some f) := by
    have := cell_get (d := d) (at_ := (i : Int)) ((has_iff d _).2 (by omega))
    rw [hc, Int.toNat_natCast] at this
    exact this
  unfold durable
  simp only
  clear hc hi
  generalize d.cells = l at *
  induction l generalizing i with
  | nil => rfl
  | cons a l ih =>
    cases i with
    | zero =>
      simp at hg
      subst hg
      rfl
    | succ i =>
      rw [List.set_cons_succ, List.flatMap_cons, List.flatMap_cons, ih (by simpa using hg)]
theorem own_form0 {w : World} {base : Nat} {e : TypeId} {size n : Nat} {A : Option Addr} {c : Nat} {xs : List Value} (h : Tw.Own w base e size A n c xs) (hn : 0 < n) : ∃ g, A = some ⟨g, 0, none⟩ ∧ base ≤ g ∧ g < w.heap.size := by
  have hl := h.lt
  rcases h.2 with ⟨hv, h0⟩ | ⟨g', cap, cur, hv, _⟩
  · omega
  · injection hv with h1
    subst h1
    exact ⟨g', rfl, hl g' rfl⟩

/-- the mask's bit, as the program reckons it -/
theorem mask_vals (mask k : Nat) (hm : mask < 18446744073709551616) : Value.int .i64 ((k : Int).tmod 64) = .int .i64 ((k : Int) % 64) ∧ Value.int .u64 ((mask : Int) / 2 ^ ((k : Int) % 64).toNat) = .int .u64 ((mask / 2 ^ (k % 64) : Nat) : Int) ∧
    Value.int .u64 (bits .and .u64 ((mask : Int) / 2 ^ (k % 64)) 1) = .int .u64 ((mask / 2 ^ (k % 64) % 2 : Nat) : Int) ∧ Value.bool ((mask : Int) / 2 ^ (k % 64) % 2 == 1) = .bool (decide (mask / 2 ^ (k % 64) % 2 = 1)) := by
  have hlt : mask / 2 ^ (k % 64) < 18446744073709551616 := Nat.lt_of_le_of_lt (Nat.div_le_self _ _) hm
  have hcast : (mask : Int) / 2 ^ (k % 64) = ((mask / 2 ^ (k % 64) : Nat) : Int) := by simp
  refine ⟨by rw [Int.tmod_eq_emod_of_nonneg (by omega)], ?_, ?_, ?_⟩
  · rw [show ((k : Int) % 64).toNat = k % 64 by omega, hcast]
  · rw [hcast, show (1 : Int) = ((1 : Nat) : Int) from rfl, u64_and_nat _ 1 hlt (by omega), Nat.and_one_is_mod]
  · rw [hcast]
    congr 1
    rw [Bool.eq_iff_iff]
    simp only [beq_iff_eq, decide_eq_true_eq]
    omega
section
variable {w w' : World} {p g mb c : Nat} {d : Dsk}
/-- a disk whose cells are other ones, and whose map is less -/
theorem Dk.cut (h : Dk w p g mb c d) {i : Nat} (hi : i < d.cells.length) {x : Sec} (hx : x.length = 16) {D : DataW Value} {m : Nat} (hm : w'.ownsMap Tryz.prog 3 R mb m (D.del (kl (i : Int)))) (hle : m ≤ d.ops) (hD : MapIs D d)
    (hb : w'.heap[p]? = w.heap[p]?) (ho : Tw.Own w' 0 127 16 (some ⟨g, 0, none⟩) d.cells.length c (bytesV (durable { d with cells := d.cells.set i (x, none) }))) : Dk w' p g mb c { d with cells := d.cells.set i (x, none) } := by
  refine ⟨⟨by simpa using h.ok.n, fun c hc => ?_, fun c hc s' hs' => ?_, h.ok.fuse, h.ok.ops⟩, ?_, ?_, ⟨_, m, hm, hle, mapIs_del hD hi x⟩, h.ne⟩
  · rcases List.mem_or_eq_of_mem_set hc with hc | rfl
    · exact h.ok.safe c hc
    · exact hx
  · rcases List.mem_or_eq_of_mem_set hc with hc | rfl
    · exact h.ok.fresh c hc s' hs'
    · cases hs'
  · rw [hb, h.blk]
    simp
  · simpa using ho
theorem c_Crash (h : Dk w p g mb c d) (mask : Nat) (hmask : mask < 18446744073709551616) : Calls Tryz.prog 21 #[.pointer (some ⟨p, 0, none⟩), .int .u64 (mask : Int)] w fun e w' => e = .returned (.tuple #[]) ∧ Dk w' p g mb c (d.crash mask) ∧ Fr (fun k => k = p ∨ k = g ∨ k = mb) w w' := by
  have hlt := h.lts
  have hne := h.ne
  have hn := h.ok.n
  have hcl := cached_len d
  have Hok := Lib.hid h.ok
  have H := Lib.hid h
  have Hc0 := Lib.hid (crashTo_zero d mask)
  have Hc1 := Lib.hid (crashTo_all d mask)
  have Hzl := Lib.hid (cachedZ_len d)
  clear h
  generalize hN : d.cached.length = N at *
  go_enter Tryz.func21, Tryz.ntmps21
  go_wp2_with (first
    | (go_at_call 62
       (with_reducible refine (c_Made H.out).mono ?_)
       rintro e w' ⟨rfl, rfl⟩)
    | (go_at_call 63
       refine (c_Cached H.out).mono ?_
       rintro e w1 ⟨A, c2, rfl, hrow, hb1⟩
       rw [hN] at hrow ⊢
       have HR := Lib.hid hrow
       have H1 := Lib.hid (H.out.bel hb1)
       have HF := Lib.hid (Fr.of_bel (S := fun k => k = p ∨ k = g ∨ k = mb) hb1)
       clear hrow hb1 H))
  go_loopw [13] (fun v wr => ∃ k : Nat, k ≤ N ∧ v = .int .i64 (k : Int) ∧ Hid (Dk wr p g mb c (d.crashTo mask k)) ∧ Hid (Tw.Own wr w.heap.size 3 1 A N c2 (d.cachedZ.map encZ)) ∧ Hid (Fr (fun k => k = p ∨ k = g ∨ k = mb) w wr)) (fun i _ => N - (intOf i).toNat)
  case atStart => exact ⟨0, Nat.zero_le _, rfl, by rw [Hc0.out]; exact H1, HR, HF⟩
  case round =>
    clear H1 HR HF Hc0
    obtain ⟨k, hk, rfl, HK, HR, HF⟩ := hrel
    by_cases hkn : k < N
    · obtain ⟨gb, rfl, hgb, hgl⟩ := own_form0 HR.out (by omega)
      obtain ⟨x, hx⟩ : ∃ x, d.cachedZ[k]? = some x := ⟨_, List.getElem?_eq_getElem (by rw [Hzl.out]; exact hkn)⟩
      obtain ⟨i, s, f, rfl, hi, hs, hf, hcell, hfresh, hnext⟩ := crash_round Hok.out mask k hx
      have hcx : wr.cell? ⟨gb, k, none⟩ = some (.int .i64 (i : Int)) := by
        have h1 := HR.out.rd.cell _ rfl k (.int .i64 (i : Int)) (by rw [List.getElem?_map, hx]; rfl)
        rw [Addr.add_mid, Nat.zero_add] at h1
        exact h1
      have hcl2 := (crashTo_len d mask k)
      generalize d.crashTo mask k = dk at *
      rw [← hcl2] at hi
      have hn2 : dk.cells.length ≤ 1024 := by omega
      clear hcl2
      have HNx := Lib.hid hnext
      have HCell := Lib.hid hcell
      have HFr := Lib.hid hfresh
      obtain ⟨k0, k1, k2, k3, k4⟩ := HK.out.cells
      obtain ⟨D, m, hm, hle, hD⟩ := HK.out.map
      obtain ⟨hD1, hD2⟩ := hD (i : Int)
      rw [hfresh] at hD1 hD2
      have Hm := Lib.hid hm
      have hlook : (Instr.lookup 123 (.map (some mb)) (.int .i64 (i : Int)) false).run Tryz.prog wr = .ok (.agg (bytesV f).toArray) wr := by
        obtain ⟨v, ps, hrun, hv⟩ := hm.lookup law Tryz.underlying123 (zeroE wr) (R := R) (zd := .held (secV zs)) (zp := []) rfl (hkey (x := (i : Int)) (by omega))
        rw [hD2] at hv
        simp only [R, atOf, secV, Option.some.injEq, Prod.mk.injEq, DataW.held.injEq] at hv
        rw [hrun, hv.1]
      have HD := Lib.hid hD
      have HD2 := Lib.hid hD2
      have Hle := Lib.hid hle
      have hfl : (bytesV f).toArray.size = 16 := by simp [bytesV, hf]
      have Hfl := Lib.hid hfl
      have Hs := Lib.hid hs
      have Hf := Lib.hid hf
      have hlw := HK.out.lts
      have HX := Lib.hid (heap_alloc_new wr (.cells #[.int .u8 0, .int .u8 0, .int .u8 0, .int .u8 0, .int .u8 0, .int .u8 0, .int .u8 0, .int .u8 0, .int .u8 0, .int .u8 0, .int .u8 0, .int .u8 0, .int .u8 0, .int .u8 0, .int .u8 0, .int .u8 0] 127))
      have FA := Lib.hid (Fr.alloc (S := fun k => False) (w := wr) (.cells #[.int .u8 0, .int .u8 0, .int .u8 0, .int .u8 0, .int .u8 0, .int .u8 0, .int .u8 0, .int .u8 0, .int .u8 0, .int .u8 0, .int .u8 0, .int .u8 0, .int .u8 0, .int .u8 0, .int .u8 0, .int .u8 0] 127))
      have hii : -9223372036854775808 ≤ (i : Int) ∧ (i : Int) ≤ 9223372036854775807 := by omega
      clear hx hcell hfresh hnext hm hle hD hD1 hD2 hs hf hfl
      go_upto_region 6 with (first
        | (refine wpL_store_all rfl rfl 127 (.tmp 6) (.tmp 23) rfl _ rfl _ rfl _ _ HX.out (by rw [Hfl.out]; kernel_rfl) Hfl.out (fun v hv => bytesV_one v (by simpa using hv)) ?_
           intro w5 x5 g5
           have HX5 := Lib.hid x5
           have F5 := Lib.hid (FA.out.trans (Fr.grown (S := fun k => k = wr.heap.size) g5 (by simp)) (fun b hb e => absurd e (by omega)))
           have Hm5 := Lib.hid (ownsMap_fr Hm.out F5.out (fun e => e))
           have kk1 := (F5.out.block p hlw.1 (fun e => e))
           have d1 : w5.cell? ⟨p, 1, none⟩ = some (.map (some mb)) := by simp only [World.cell?, kk1]; exact k1
           clear x5 g5 k0 k1 k2 k3 k4 kk1)
        | (at_delete
           refine wpList_delete_own _ rfl _ _ 123 3 rfl 127 law Tryz.underlying123 R mb m D rfl Hm5.out _ (kl (i : Int)) rfl (hkey hii) ?_
           intro w6 hown6 hturn
           have Hm6 := Lib.hid hown6
           have Hg6 := Lib.hid hturn.grown
           clear hown6 hturn))
      simp only [Act.put]
      have hg6 := Hg6.out
      have Hblk6 := Lib.hid (heap_grown (heap_fr HK.out.blk F5.out (fun e => e)) hg6 (by simpa using fun e => hne.2.1 e))
      have Hown6 : Hid (Tw.Own w6 0 127 16 (some ⟨g, 0, none⟩) dk.cells.length c (bytesV (durable dk))) := Lib.hid ((HK.out.own.fr (S := fun _ => False) F5.out (fun _ _ e => e)).kept hg6 (by right; simpa [Value.ownBlock] using hne.2.2))
      have HX6 := Lib.hid (heap_grown HX5.out hg6 (by simp; omega))
      have F6 : Hid (Fr (fun k => k = p ∨ k = g ∨ k = mb) w w6) := Lib.hid ((HF.out.trans F5.out (fun _ _ e => e.elim)).trans (Fr.grown (S := fun k => k = mb) hg6 (by simp)) (fun _ _ e => .inr (.inr e)))
      have HR6 : Hid (Tw.Own w6 w.heap.size 3 1 (some ⟨gb, 0, none⟩) N c2 (d.cachedZ.map encZ)) := Lib.hid ((HR.out.fr (S := fun _ => False) F5.out (fun _ _ e => e)).kept hg6 (by right; simp [Value.ownBlock]; omega))
      clear hg6 HX5 F5 Hm5 HX FA Hg6 HR HF Hm
      have hsp : spared mask k = decide (mask / 2 ^ (k % 64) % 2 = 1) := rfl
      have E := Lib.hid (mask_vals mask k hmask)
      have Hp := Lib.hid HK.out.blk
      cases hb : spared mask k with
      | false =>
        rw [hb] at hsp
        have E5 : Hid (Value.bool ((mask : Int) / 2 ^ (k % 64) % 2 == 1) = .bool false) := Lib.hid (by rw [E.out.2.2.2, ← hsp])
        rw [hb] at HNx
        clear hsp hb
        refine wp_region_phi (by kernel_rfl) 17 none (fun _ => false) (fun i_ v wz => match i_ with
          | 0 => v = .int .u64 (mask : Int)
          | 1 => v = .int .i64 (k : Int)
          | 2 => v = .int .i64 ((k : Int) % 64)
          | 3 => v = .int .u64 ((mask / 2 ^ (k % 64) : Nat) : Int)
          | 4 => v = .int .u64 ((mask / 2 ^ (k % 64) % 2 : Nat) : Int)
          | 5 => v = .bool false
          | 6 => v = .bool false
          | 7 => v = undef
          | 8 => v = undef
          | 9 => v = undef
          | 10 => v = undef
          | 11 => v = undef
          | 12 => v = undef
          | 13 => v = undef
          | 14 => v = undef
          | 15 => v = undef
          | 16 => v = (.bool false)
          | _ => True) (by kernel_rfl) ?_ ?_ ?_
        · (repeat' (first | exact allLt_zero | refine allLt_succ ?_ ?_))
          · exact fun _ _ _ h _ => h
          · exact fun _ _ _ h _ => h
          · exact fun _ _ _ h _ => h
          · exact fun _ _ _ h _ => h
          · exact fun _ _ _ h _ => h
          · exact fun _ _ _ h _ => h
          · exact fun _ _ _ h _ => h
          · exact fun _ _ _ h _ => h
          · exact fun _ _ _ h _ => h
          · exact fun _ _ _ h _ => h
          · exact fun _ _ _ h _ => h
          · exact fun _ _ _ h _ => h
          · exact fun _ _ _ h _ => h
          · exact fun _ _ _ h _ => h
          · exact fun _ _ _ h _ => h
          · exact fun _ _ _ h _ => h
          · exact fun _ _ _ h _ => h
        · (repeat' (first | exact allLt_zero | refine allLt_succ ?_ ?_))
          · intro a w' hf he
            have k1 : a.tmps.getD 1 undef = .int .u64 (mask : Int) := hf.var (by kernel_rfl) rfl
            refine wpOp_step rfl (fun K hK => ?_)
            go_simp
            exact hK _ _ ⟨_, rfl, rfl, World.grownBy.refl _ _⟩
          · intro a w' hf he
            have k4 : a.tmps.getD 4 undef = .int .i64 (k : Int) := hf.var (by kernel_rfl) rfl
            refine wpOp_step rfl (fun K hK => ?_)
            go_simp
            exact hK _ _ ⟨_, rfl, rfl, World.grownBy.refl _ _⟩
          · intro a w' hf he
            have f1 : a.tmps.getD 30 undef = .int .i64 (k : Int) := he 1 (by kernel_rfl)
            rw [show kindRow _ _ = none from by kernel_rfl] at hf
            refine wpOp_step rfl (fun K hK => ?_)
            go_simp
            exact hK _ _ ⟨_, rfl, E.out.1, World.grownBy.refl _ _⟩
          · intro a w' hf he
            have f0 : a.tmps.getD 29 undef = .int .u64 (mask : Int) := he 0 (by kernel_rfl)
            have f2 : a.tmps.getD 31 undef = .int .i64 ((k : Int) % 64) := he 2 (by kernel_rfl)
            rw [show kindRow _ _ = none from by kernel_rfl] at hf
            refine wpOp_step rfl (fun K hK => ?_)
            go_simp
            exact hK _ _ ⟨_, rfl, E.out.2.1, World.grownBy.refl _ _⟩
          · intro a w' hf he
            have f3 : a.tmps.getD 32 undef = .int .u64 ((mask / 2 ^ (k % 64) : Nat) : Int) := he 3 (by kernel_rfl)
            rw [show kindRow _ _ = none from by kernel_rfl] at hf
            refine wpOp_step rfl (fun K hK => ?_)
            go_simp
            exact hK _ _ ⟨_, rfl, E.out.2.2.1, World.grownBy.refl _ _⟩
          · intro a w' hf he
            have f4 : a.tmps.getD 33 undef = .int .u64 ((mask / 2 ^ (k % 64) % 2 : Nat) : Int) := he 4 (by kernel_rfl)
            rw [show kindRow _ _ = none from by kernel_rfl] at hf
            refine wpOp_step rfl (fun K hK => ?_)
            go_simp
            exact hK _ _ ⟨_, rfl, E5.out, World.grownBy.refl _ _⟩
          · intro a w' hf he
            have f5 : a.tmps.getD 34 undef = .bool false := he 5 (by kernel_rfl)
            refine wpOp_step rfl (fun K hK => ?_)
            go_simp
            exact hK _ _ ⟨_, rfl, rfl, World.grownBy.refl _ _⟩
          · intro a w' hf he
            have f6 : a.tmps.getD 35 undef = .bool false := he 6 (by kernel_rfl)
            exact wpOp_pass rfl rfl rfl f6 rfl ⟨_, rfl, rfl, World.grownBy.refl _ _⟩
          · intro a w' hf he
            have f6 : a.tmps.getD 35 undef = .bool false := he 6 (by kernel_rfl)
            exact wpOp_pass rfl rfl rfl f6 rfl ⟨_, rfl, rfl, World.grownBy.refl _ _⟩
          · intro a w' hf he
            have f6 : a.tmps.getD 35 undef = .bool false := he 6 (by kernel_rfl)
            exact wpOp_pass rfl rfl rfl f6 rfl ⟨_, rfl, rfl, World.grownBy.refl _ _⟩
          · intro a w' hf he
            have f6 : a.tmps.getD 35 undef = .bool false := he 6 (by kernel_rfl)
            exact wpOp_pass rfl rfl rfl f6 rfl ⟨_, rfl, rfl, World.grownBy.refl _ _⟩
          · intro a w' hf he
            have f6 : a.tmps.getD 35 undef = .bool false := he 6 (by kernel_rfl)
            exact wpOp_pass rfl rfl rfl f6 rfl ⟨_, rfl, rfl, World.grownBy.refl _ _⟩
          · intro a w' hf he
            have f6 : a.tmps.getD 35 undef = .bool false := he 6 (by kernel_rfl)
            exact wpOp_pass rfl rfl rfl f6 rfl ⟨_, rfl, rfl, World.grownBy.refl _ _⟩
          · intro a w' hf he
            have f6 : a.tmps.getD 35 undef = .bool false := he 6 (by kernel_rfl)
            exact wpOp_pass rfl rfl rfl f6 rfl ⟨_, rfl, rfl, World.grownBy.refl _ _⟩
          · intro a w' hf he
            have f6 : a.tmps.getD 35 undef = .bool false := he 6 (by kernel_rfl)
            exact wpOp_pass rfl rfl rfl f6 rfl ⟨_, rfl, rfl, World.grownBy.refl _ _⟩
          · intro a w' hf he
            have f6 : a.tmps.getD 35 undef = .bool false := he 6 (by kernel_rfl)
            exact wpOp_pass rfl rfl rfl f6 rfl ⟨_, rfl, rfl, World.grownBy.refl _ _⟩
          · intro a w' hf he
            have f6 : a.tmps.getD 35 undef = .bool false := he 6 (by kernel_rfl)
            have f15 : a.tmps.getD 44 undef = undef := he 15 (by kernel_rfl)
            refine wpOp_step rfl (fun K hK => ?_)
            go_simp
            exact hK _ _ ⟨_, rfl, rfl, World.grownBy.refl _ _⟩
        · intro a w' hf he
          obtain ⟨u29, f0⟩ : ∃ u, a.tmps.getD 29 undef = u := ⟨_, rfl⟩
          obtain ⟨u30, f1⟩ : ∃ u, a.tmps.getD 30 undef = u := ⟨_, rfl⟩
          obtain ⟨u31, f2⟩ : ∃ u, a.tmps.getD 31 undef = u := ⟨_, rfl⟩
          obtain ⟨u32, f3⟩ : ∃ u, a.tmps.getD 32 undef = u := ⟨_, rfl⟩
          obtain ⟨u33, f4⟩ : ∃ u, a.tmps.getD 33 undef = u := ⟨_, rfl⟩
          obtain ⟨u34, f5⟩ : ∃ u, a.tmps.getD 34 undef = u := ⟨_, rfl⟩
          obtain ⟨u35, f6⟩ : ∃ u, a.tmps.getD 35 undef = u := ⟨_, rfl⟩
          obtain ⟨u36, f7⟩ : ∃ u, a.tmps.getD 36 undef = u := ⟨_, rfl⟩
          obtain ⟨u37, f8⟩ : ∃ u, a.tmps.getD 37 undef = u := ⟨_, rfl⟩
          obtain ⟨u38, f9⟩ : ∃ u, a.tmps.getD 38 undef = u := ⟨_, rfl⟩
          obtain ⟨u39, f10⟩ : ∃ u, a.tmps.getD 39 undef = u := ⟨_, rfl⟩
          obtain ⟨u40, f11⟩ : ∃ u, a.tmps.getD 40 undef = u := ⟨_, rfl⟩
          obtain ⟨u41, f12⟩ : ∃ u, a.tmps.getD 41 undef = u := ⟨_, rfl⟩
          obtain ⟨u42, f13⟩ : ∃ u, a.tmps.getD 42 undef = u := ⟨_, rfl⟩
          obtain ⟨u43, f14⟩ : ∃ u, a.tmps.getD 43 undef = u := ⟨_, rfl⟩
          obtain ⟨u44, f15⟩ : ∃ u, a.tmps.getD 44 undef = u := ⟨_, rfl⟩
          have f16 : a.tmps.getD 45 undef = (.bool false) := he 16 (by decide)
          have hlit := hf.lit ((29, u29) :: (30, u30) :: (31, u31) :: (32, u32) :: (33, u33) :: (34, u34) :: (35, u35) :: (36, u36) :: (37, u37) :: (38, u38) :: (39, u39) :: (40, u40) :: (41, u41) :: (42, u42) :: (43, u43) :: (44, u44) :: (45, (.bool false)) :: []) (by kernel_rfl) ⟨f0, f1, f2, f3, f4, f5, f6, f7, f8, f9, f10, f11, f12, f13, f14, f15, f16, trivial⟩
          have hB := hf.bel
          clear he hf f0 f1 f2 f3 f4 f5 f6 f7 f8 f9 f10 f11 f12 f13 f14 f15 f16 
          subst hlit
          simp only [putAll_nil, putAll_cons, Act.put, List.setIfInBounds_toArray, List.set_cons_zero, List.set_cons_succ]
          simp only [List.drop_succ_cons, List.drop_zero]
          have Hm7 := Lib.hid (ownsMap_fr Hm6.out (Fr.of_bel (S := fun _ => False) hB) (fun e => e))
          have Hb7 := Lib.hid ((hB.block _ (heap_lt Hblk6.out)).trans (Hblk6.out.trans Hp.out.symm))
          have Ho7 := Lib.hid (Tw.Own.bel Hown6.out hB)
          have F7 := Lib.hid (F6.out.trans (Fr.of_bel (S := fun k => k = p ∨ k = g ∨ k = mb) hB) (fun _ _ e => e))
          have HR7 := Lib.hid (Tw.Own.bel HR6.out hB)
          clear hB Hm6 Hblk6 Hown6 F6 HR6
          go_wp2_with fail
          go_roundw
          case rel =>
            refine ⟨k + 1, by omega, by go_num, ?_, HR7, F7⟩
            rw [HNx.out]
            exact Lib.hid (HK.out.cut hi Hs.out Hm7.out Hle.out HD.out Hb7.out (by simp only [Bool.false_eq_true, if_false]; rw [durable_keep HCell.out hi]; exact Ho7.out))
          case measure => simp [intOf] <;> omega
      | true =>
        rw [hb] at hsp
        have E5 : Hid (Value.bool ((mask : Int) / 2 ^ (k % 64) % 2 == 1) = .bool true) := Lib.hid (by rw [E.out.2.2.2, ← hsp])
        rw [hb] at HNx
        have hsafe : Hid (∀ j v, (bytesV s)[j]? = some v → w6.cell? ((⟨g, i * 16, none⟩ : Addr).add j) = some v) := Lib.hid (fun j v hv => by
          have hj := (List.getElem?_eq_some_iff.1 hv).1
          rw [bytesV_length, Hs.out] at hj
          have h1 : (bytesV (durable dk))[i * 16 + j]? = some v := by
            have h2 := durable_get HK.out.ok (at_ := (i : Int)) ((has_iff dk _).2 (by omega)) hj
            rw [Int.toNat_natCast, HCell.out] at h2
            simp only [bytesV, List.getElem?_map] at hv ⊢
            rw [h2, hv]
          have h3 := Hown6.out.rd.cell _ rfl _ _ h1
          rw [Addr.add_mid, Nat.zero_add] at h3
          rw [Addr.add_mid]
          exact h3)
        have hq := run_eql_barr (P := Tryz.prog) w6 f s Hf.out Hs.out Tryz.underlying127 Tryz.underlying5 (by kernel_rfl)
        obtain ⟨q, hqd⟩ : ∃ q, decide (f = s) = q := ⟨_, rfl⟩
        have Hq := Lib.hid hqd
        clear hsp hb hq hqd
        refine wp_region_phi (by kernel_rfl) 17 none (fun _ => false) (fun i_ v wz => match i_ with
          | 0 => v = .int .u64 (mask : Int)
          | 1 => v = .int .i64 (k : Int)
          | 2 => v = .int .i64 ((k : Int) % 64)
          | 3 => v = .int .u64 ((mask / 2 ^ (k % 64) : Nat) : Int)
          | 4 => v = .int .u64 ((mask / 2 ^ (k % 64) % 2 : Nat) : Int)
          | 5 => v = .bool true
          | 6 => v = .bool true
          | 7 => v = .agg (bytesV f).toArray
          | 8 => v = .pointer (some ⟨p, 0, none⟩)
          | 9 => v = .pointer (some ⟨p, 0, none⟩)
          | 10 => v = .pointer (some ⟨p, 0, none⟩)
          | 11 => v = .slice (some ⟨g, 0, none⟩) dk.cells.length c
          | 12 => v = .int .i64 (i : Int)
          | 13 => v = .pointer (some ⟨g, i * 16, none⟩)
          | 14 => v = .agg (bytesV s).toArray
          | 15 => v = .bool (!q)
          | 16 => v = .bool (!q)
          | _ => True) (by kernel_rfl) ?_ ?_ ?_
        · (repeat' (first | exact allLt_zero | refine allLt_succ ?_ ?_))
          · exact fun _ _ _ h _ => h
          · exact fun _ _ _ h _ => h
          · exact fun _ _ _ h _ => h
          · exact fun _ _ _ h _ => h
          · exact fun _ _ _ h _ => h
          · exact fun _ _ _ h _ => h
          · exact fun _ _ _ h _ => h
          · exact fun _ _ _ h _ => h
          · exact fun _ _ _ h _ => h
          · exact fun _ _ _ h _ => h
          · exact fun _ _ _ h _ => h
          · exact fun _ _ _ h _ => h
          · exact fun _ _ _ h _ => h
          · exact fun _ _ _ h _ => h
          · exact fun _ _ _ h _ => h
          · exact fun _ _ _ h _ => h
          · exact fun _ _ _ h _ => h
        · (repeat' (first | exact allLt_zero | refine allLt_succ ?_ ?_))
          · intro a w' hf he
            have k1 : a.tmps.getD 1 undef = .int .u64 (mask : Int) := hf.var (by kernel_rfl) rfl
            refine wpOp_step rfl (fun K hK => ?_)
            go_simp
            exact hK _ _ ⟨_, rfl, rfl, World.grownBy.refl _ _⟩
          · intro a w' hf he
            have k4 : a.tmps.getD 4 undef = .int .i64 (k : Int) := hf.var (by kernel_rfl) rfl
            refine wpOp_step rfl (fun K hK => ?_)
            go_simp
            exact hK _ _ ⟨_, rfl, rfl, World.grownBy.refl _ _⟩
          · intro a w' hf he
            have f1 : a.tmps.getD 30 undef = .int .i64 (k : Int) := he 1 (by kernel_rfl)
            rw [show kindRow _ _ = none from by kernel_rfl] at hf
            refine wpOp_step rfl (fun K hK => ?_)
            go_simp
            exact hK _ _ ⟨_, rfl, E.out.1, World.grownBy.refl _ _⟩
          · intro a w' hf he
            have f0 : a.tmps.getD 29 undef = .int .u64 (mask : Int) := he 0 (by kernel_rfl)
            have f2 : a.tmps.getD 31 undef = .int .i64 ((k : Int) % 64) := he 2 (by kernel_rfl)
            rw [show kindRow _ _ = none from by kernel_rfl] at hf
            refine wpOp_step rfl (fun K hK => ?_)
            go_simp
            exact hK _ _ ⟨_, rfl, E.out.2.1, World.grownBy.refl _ _⟩
          · intro a w' hf he
            have f3 : a.tmps.getD 32 undef = .int .u64 ((mask / 2 ^ (k % 64) : Nat) : Int) := he 3 (by kernel_rfl)
            rw [show kindRow _ _ = none from by kernel_rfl] at hf
            refine wpOp_step rfl (fun K hK => ?_)
            go_simp
            exact hK _ _ ⟨_, rfl, E.out.2.2.1, World.grownBy.refl _ _⟩
          · intro a w' hf he
            have f4 : a.tmps.getD 33 undef = .int .u64 ((mask / 2 ^ (k % 64) % 2 : Nat) : Int) := he 4 (by kernel_rfl)
            rw [show kindRow _ _ = none from by kernel_rfl] at hf
            refine wpOp_step rfl (fun K hK => ?_)
            go_simp
            exact hK _ _ ⟨_, rfl, E5.out, World.grownBy.refl _ _⟩
          · intro a w' hf he
            have f5 : a.tmps.getD 34 undef = .bool true := he 5 (by kernel_rfl)
            refine wpOp_step rfl (fun K hK => ?_)
            go_simp
            exact hK _ _ ⟨_, rfl, rfl, World.grownBy.refl _ _⟩
          · intro a w' hf he
            have k6 : a.tmps.getD 6 undef = .pointer (some ⟨wr.heap.size, 0, none⟩) := hf.var (by kernel_rfl) rfl
            have f6 : a.tmps.getD 35 undef = .bool true := he 6 (by kernel_rfl)
            rw [show kindRow _ _ = none from by kernel_rfl] at hf
            refine wpOp_run rfl rfl rfl f6 (fun K hK => ?_)
            refine wp_load_rd 127 (.tmp 6) rfl ⟨wr.heap.size, 0, none⟩ k6 (bytesV f) _ ((rd_of_heap (n := 16) ((hf.bel.block _ (heap_lt HX6.out)).trans HX6.out) (by rw [bytesV_length, Hf.out]) (by simp [maxLen])).cell _ rfl) Tryz.underlying127 rfl (by rw [bytesV_length, Hf.out]; kernel_rfl) ?_
            exact hK _ _ ⟨_, rfl, rfl, World.grownBy.refl _ _⟩
          · intro a w' hf he
            have k0 : a.tmps.getD 0 undef = .pointer (some ⟨p, 0, none⟩) := hf.var (by kernel_rfl) rfl
            have f6 : a.tmps.getD 35 undef = .bool true := he 6 (by kernel_rfl)
            refine wpOp_run rfl rfl rfl f6 (fun K hK => ?_)
            go_simp
            exact hK _ _ ⟨_, rfl, rfl, World.grownBy.refl _ _⟩
          · intro a w' hf he
            have f8 : a.tmps.getD 37 undef = .pointer (some ⟨p, 0, none⟩) := he 8 (by kernel_rfl)
            have f6 : a.tmps.getD 35 undef = .bool true := he 6 (by kernel_rfl)
            refine wpOp_run rfl rfl rfl f6 (fun K hK => ?_)
            go_simp
            exact hK _ _ ⟨_, rfl, rfl, World.grownBy.refl _ _⟩
          · intro a w' hf he
            have f9 : a.tmps.getD 38 undef = .pointer (some ⟨p, 0, none⟩) := he 9 (by kernel_rfl)
            have f6 : a.tmps.getD 35 undef = .bool true := he 6 (by kernel_rfl)
            rw [show kindRow _ _ = none from by kernel_rfl] at hf
            refine wpOp_run rfl rfl rfl f6 (fun K hK => ?_)
            go_simp
            exact hK _ _ ⟨_, rfl, rfl, World.grownBy.refl _ _⟩
          · intro a w' hf he
            have f10 : a.tmps.getD 39 undef = .pointer (some ⟨p, 0, none⟩) := he 10 (by kernel_rfl)
            have f6 : a.tmps.getD 35 undef = .bool true := he 6 (by kernel_rfl)
            rw [show kindRow _ _ = none from by kernel_rfl] at hf
            have d0 := (hf.bel.block _ (heap_lt Hblk6.out)).trans Hblk6.out
            have dd : w'.cell? ⟨p, 0, none⟩ = some (.slice (some ⟨g, 0, none⟩) dk.cells.length c) := by simp [World.cell?, d0]
            clear d0
            refine wpOp_run rfl rfl rfl f6 (fun K hK => ?_)
            go_simp
            exact hK _ _ ⟨_, rfl, rfl, World.grownBy.refl _ _⟩
          · intro a w' hf he
            have k5 : a.tmps.getD 5 undef = .int .i64 (i : Int) := hf.var (by kernel_rfl) rfl
            have f6 : a.tmps.getD 35 undef = .bool true := he 6 (by kernel_rfl)
            refine wpOp_run rfl rfl rfl f6 (fun K hK => ?_)
            go_simp
            exact hK _ _ ⟨_, rfl, rfl, World.grownBy.refl _ _⟩
          · intro a w' hf he
            have f11 : a.tmps.getD 40 undef = .slice (some ⟨g, 0, none⟩) dk.cells.length c := he 11 (by kernel_rfl)
            have f12 : a.tmps.getD 41 undef = .int .i64 (i : Int) := he 12 (by kernel_rfl)
            have f6 : a.tmps.getD 35 undef = .bool true := he 6 (by kernel_rfl)
            rw [show kindRow _ _ = none from by kernel_rfl] at hf
            refine wpOp_run rfl rfl rfl f6 (fun K hK => ?_)
            go_simp
            exact hK _ _ ⟨_, rfl, rfl, World.grownBy.refl _ _⟩
          · intro a w' hf he
            have f13 : a.tmps.getD 42 undef = .pointer (some ⟨g, i * 16, none⟩) := he 13 (by kernel_rfl)
            have f6 : a.tmps.getD 35 undef = .bool true := he 6 (by kernel_rfl)
            rw [show kindRow _ _ = none from by kernel_rfl] at hf
            refine wpOp_run rfl rfl rfl f6 (fun K hK => ?_)
            refine wp_load_rd 127 (.tmp 42) rfl ⟨g, i * 16, none⟩ f13 (bytesV s) _ (fun j v hv => (hf.bel.cell (block_lt_of_cell (hsafe.out j v hv))).trans (hsafe.out j v hv)) Tryz.underlying127 rfl (by rw [bytesV_length, Hs.out]; kernel_rfl) ?_
            exact hK _ _ ⟨_, rfl, rfl, World.grownBy.refl _ _⟩
          · intro a w' hf he
            have f7 : a.tmps.getD 36 undef = .agg (bytesV f).toArray := he 7 (by kernel_rfl)
            have f14 : a.tmps.getD 43 undef = .agg (bytesV s).toArray := he 14 (by kernel_rfl)
            have f6 : a.tmps.getD 35 undef = .bool true := he 6 (by kernel_rfl)
            rw [show kindRow _ _ = none from by kernel_rfl] at hf
            have hne := run_eql_barr (P := Tryz.prog) w' f s Hf.out Hs.out Tryz.underlying127 Tryz.underlying5 (by kernel_rfl)
            rw [Hq.out] at hne
            refine wpOp_run rfl rfl rfl f6 (fun K hK => ?_)
            go_simp
            exact hK _ _ ⟨_, rfl, rfl, World.grownBy.refl _ _⟩
          · intro a w' hf he
            have f6 : a.tmps.getD 35 undef = .bool true := he 6 (by kernel_rfl)
            have f15 : a.tmps.getD 44 undef = .bool (!q) := he 15 (by kernel_rfl)
            refine wpOp_step rfl (fun K hK => ?_)
            go_simp
            exact hK _ _ ⟨_, rfl, rfl, World.grownBy.refl _ _⟩
        · intro a w' hf he
          obtain ⟨u29, f0⟩ : ∃ u, a.tmps.getD 29 undef = u := ⟨_, rfl⟩
          obtain ⟨u30, f1⟩ : ∃ u, a.tmps.getD 30 undef = u := ⟨_, rfl⟩
          obtain ⟨u31, f2⟩ : ∃ u, a.tmps.getD 31 undef = u := ⟨_, rfl⟩
          obtain ⟨u32, f3⟩ : ∃ u, a.tmps.getD 32 undef = u := ⟨_, rfl⟩
          obtain ⟨u33, f4⟩ : ∃ u, a.tmps.getD 33 undef = u := ⟨_, rfl⟩
          obtain ⟨u34, f5⟩ : ∃ u, a.tmps.getD 34 undef = u := ⟨_, rfl⟩
          obtain ⟨u35, f6⟩ : ∃ u, a.tmps.getD 35 undef = u := ⟨_, rfl⟩
          obtain ⟨u36, f7⟩ : ∃ u, a.tmps.getD 36 undef = u := ⟨_, rfl⟩
          obtain ⟨u37, f8⟩ : ∃ u, a.tmps.getD 37 undef = u := ⟨_, rfl⟩
          obtain ⟨u38, f9⟩ : ∃ u, a.tmps.getD 38 undef = u := ⟨_, rfl⟩
          obtain ⟨u39, f10⟩ : ∃ u, a.tmps.getD 39 undef = u := ⟨_, rfl⟩
          obtain ⟨u40, f11⟩ : ∃ u, a.tmps.getD 40 undef = u := ⟨_, rfl⟩
          obtain ⟨u41, f12⟩ : ∃ u, a.tmps.getD 41 undef = u := ⟨_, rfl⟩
          obtain ⟨u42, f13⟩ : ∃ u, a.tmps.getD 42 undef = u := ⟨_, rfl⟩
          obtain ⟨u43, f14⟩ : ∃ u, a.tmps.getD 43 undef = u := ⟨_, rfl⟩
          obtain ⟨u44, f15⟩ : ∃ u, a.tmps.getD 44 undef = u := ⟨_, rfl⟩
          have f16 : a.tmps.getD 45 undef = .bool (!q) := he 16 (by decide)
          have hlit := hf.lit ((29, u29) :: (30, u30) :: (31, u31) :: (32, u32) :: (33, u33) :: (34, u34) :: (35, u35) :: (36, u36) :: (37, u37) :: (38, u38) :: (39, u39) :: (40, u40) :: (41, u41) :: (42, u42) :: (43, u43) :: (44, u44) :: (45, .bool (!q)) :: []) (by kernel_rfl) ⟨f0, f1, f2, f3, f4, f5, f6, f7, f8, f9, f10, f11, f12, f13, f14, f15, f16, trivial⟩
          have hB := hf.bel
          clear he hf f0 f1 f2 f3 f4 f5 f6 f7 f8 f9 f10 f11 f12 f13 f14 f15 f16 
          subst hlit
          simp only [putAll_nil, putAll_cons, Act.put, List.setIfInBounds_toArray, List.set_cons_zero, List.set_cons_succ]
          simp only [List.drop_succ_cons, List.drop_zero]
          have Hm7 := Lib.hid (ownsMap_fr Hm6.out (Fr.of_bel (S := fun _ => False) hB) (fun e => e))
          have Hblk7 := Lib.hid ((hB.block _ (heap_lt Hblk6.out)).trans Hblk6.out)
          have Ho7 := Lib.hid (Tw.Own.bel Hown6.out hB)
          have HX7 := Lib.hid ((hB.block _ (heap_lt HX6.out)).trans HX6.out)
          have F7 := Lib.hid (F6.out.trans (Fr.of_bel (S := fun k => k = p ∨ k = g ∨ k = mb) hB) (fun _ _ e => e))
          have HR7 := Lib.hid (Tw.Own.bel HR6.out hB)
          clear hB Hm6 Hblk6 Hown6 F6 HR6 HX6 hsafe
          cases q with
          | true =>
            have hfs := of_decide_eq_true Hq.out
            go_wp2_with fail
            go_roundw
            case rel =>
              refine ⟨k + 1, by omega, by go_num, ?_, HR7, F7⟩
              rw [HNx.out]
              exact Lib.hid (HK.out.cut hi (by simp only [if_true]; exact Hf.out) Hm7.out Hle.out HD.out (Hblk7.out.trans Hp.out.symm) (by simp only [if_true]; rw [hfs, durable_keep HCell.out hi]; exact Ho7.out))
            case measure => simp [intOf] <;> omega
          | false =>
            obtain ⟨W7, hW7⟩ : ∃ x, w' = x := ⟨_, rfl⟩
            rw [hW7] at Hm7 Hblk7 Ho7 HX7 F7 HR7 ⊢
            clear hW7
            go_upto_region 7 with (fail)
            refine wp_region_phi (by kernel_rfl) 7 none (fun _ => false) (fun i_ v wz => match i_ with
              | 0 => v = .pointer (some ⟨p, 0, none⟩)
              | 1 => v = .pointer (some ⟨p, 0, none⟩)
              | 2 => v = .pointer (some ⟨p, 0, none⟩)
              | 3 => v = .slice (some ⟨g, 0, none⟩) dk.cells.length c
              | 4 => v = .int .i64 (i : Int)
              | 5 => v = .agg (bytesV f).toArray
              | 6 => v = .pointer (some ⟨g, i * 16, none⟩)
              | _ => True) (by kernel_rfl) ?_ ?_ ?_
            · (repeat' (first | exact allLt_zero | refine allLt_succ ?_ ?_))
              · exact fun _ _ _ h _ => h
              · exact fun _ _ _ h _ => h
              · exact fun _ _ _ h _ => h
              · exact fun _ _ _ h _ => h
              · exact fun _ _ _ h _ => h
              · exact fun _ _ _ h _ => h
              · exact fun _ _ _ h _ => h
            · (repeat' (first | exact allLt_zero | refine allLt_succ ?_ ?_))
              · intro a w' hf he
                have k0 : a.tmps.getD 0 undef = .pointer (some ⟨p, 0, none⟩) := hf.var (by kernel_rfl) rfl
                refine wpOp_step rfl (fun K hK => ?_)
                go_simp
                exact hK _ _ ⟨_, rfl, rfl, World.grownBy.refl _ _⟩
              · intro a w' hf he
                have f0 : a.tmps.getD 46 undef = .pointer (some ⟨p, 0, none⟩) := he 0 (by kernel_rfl)
                refine wpOp_step rfl (fun K hK => ?_)
                go_simp
                exact hK _ _ ⟨_, rfl, rfl, World.grownBy.refl _ _⟩
              · intro a w' hf he
                have f1 : a.tmps.getD 47 undef = .pointer (some ⟨p, 0, none⟩) := he 1 (by kernel_rfl)
                rw [show kindRow _ _ = none from by kernel_rfl] at hf
                refine wpOp_step rfl (fun K hK => ?_)
                go_simp
                exact hK _ _ ⟨_, rfl, rfl, World.grownBy.refl _ _⟩
              · intro a w' hf he
                have f2 : a.tmps.getD 48 undef = .pointer (some ⟨p, 0, none⟩) := he 2 (by kernel_rfl)
                rw [show kindRow _ _ = none from by kernel_rfl] at hf
                have d0 := (hf.bel.block _ (heap_lt Hblk7.out)).trans Hblk7.out
                have dd : w'.cell? ⟨p, 0, none⟩ = some (.slice (some ⟨g, 0, none⟩) dk.cells.length c) := by simp [World.cell?, d0]
                clear d0
                refine wpOp_step rfl (fun K hK => ?_)
                go_simp
                exact hK _ _ ⟨_, rfl, rfl, World.grownBy.refl _ _⟩
              · intro a w' hf he
                have k5 : a.tmps.getD 5 undef = .int .i64 (i : Int) := hf.var (by kernel_rfl) rfl
                refine wpOp_step rfl (fun K hK => ?_)
                go_simp
                exact hK _ _ ⟨_, rfl, rfl, World.grownBy.refl _ _⟩
              · intro a w' hf he
                have k6 : a.tmps.getD 6 undef = .pointer (some ⟨wr.heap.size, 0, none⟩) := hf.var (by kernel_rfl) rfl
                rw [show kindRow _ _ = none from by kernel_rfl] at hf
                refine wpOp_step rfl (fun K hK => ?_)
                refine wp_load_rd 127 (.tmp 6) rfl ⟨wr.heap.size, 0, none⟩ k6 (bytesV f) _ ((rd_of_heap (n := 16) ((hf.bel.block _ (heap_lt HX7.out)).trans HX7.out) (by rw [bytesV_length, Hf.out]) (by simp [maxLen])).cell _ rfl) Tryz.underlying127 rfl (by rw [bytesV_length, Hf.out]; kernel_rfl) ?_
                exact hK _ _ ⟨_, rfl, rfl, World.grownBy.refl _ _⟩
              · intro a w' hf he
                have f3 : a.tmps.getD 49 undef = .slice (some ⟨g, 0, none⟩) dk.cells.length c := he 3 (by kernel_rfl)
                have f4 : a.tmps.getD 50 undef = .int .i64 (i : Int) := he 4 (by kernel_rfl)
                rw [show kindRow _ _ = none from by kernel_rfl] at hf
                refine wpOp_step rfl (fun K hK => ?_)
                go_simp
                exact hK _ _ ⟨_, rfl, rfl, World.grownBy.refl _ _⟩
            · intro a w' hf he
              obtain ⟨u46, f0⟩ : ∃ u, a.tmps.getD 46 undef = u := ⟨_, rfl⟩
              obtain ⟨u47, f1⟩ : ∃ u, a.tmps.getD 47 undef = u := ⟨_, rfl⟩
              obtain ⟨u48, f2⟩ : ∃ u, a.tmps.getD 48 undef = u := ⟨_, rfl⟩
              obtain ⟨u49, f3⟩ : ∃ u, a.tmps.getD 49 undef = u := ⟨_, rfl⟩
              obtain ⟨u50, f4⟩ : ∃ u, a.tmps.getD 50 undef = u := ⟨_, rfl⟩
              have f5 : a.tmps.getD 51 undef = .agg (bytesV f).toArray := he 5 (by decide)
              have f6 : a.tmps.getD 52 undef = .pointer (some ⟨g, i * 16, none⟩) := he 6 (by decide)
              have hlit := hf.lit ((46, u46) :: (47, u47) :: (48, u48) :: (49, u49) :: (50, u50) :: (51, .agg (bytesV f).toArray) :: (52, .pointer (some ⟨g, i * 16, none⟩)) :: []) (by kernel_rfl) ⟨f0, f1, f2, f3, f4, f5, f6, trivial⟩
              have hB := hf.bel
              clear he hf f0 f1 f2 f3 f4 f5 f6 
              subst hlit
              simp only [putAll_nil, putAll_cons, Act.put, List.setIfInBounds_toArray, List.set_cons_zero, List.set_cons_succ]
              simp only [List.drop_succ_cons, List.drop_zero]
              have Hm8 := Lib.hid (ownsMap_fr Hm7.out (Fr.of_bel (S := fun _ => False) hB) (fun e => e))
              have Hblk8 := Lib.hid ((hB.block _ (heap_lt Hblk7.out)).trans Hblk7.out)
              have Ho8 := Lib.hid (Tw.Own.bel Ho7.out hB)
              have F8 := Lib.hid (F7.out.trans (Fr.of_bel (S := fun k => k = p ∨ k = g ∨ k = mb) hB) (fun _ _ e => e))
              have HR8 := Lib.hid (Tw.Own.bel HR7.out hB)
              clear hB Hm7 Hblk7 Ho7 F7 HR7 HX7
              go_wp2_with (first
                | (refine wpL_store_elem rfl rfl 127 (.tmp 52) (.tmp 51) rfl 0 127 16 g i dk.cells.length c rfl (bytesV f) (by rw [bytesV_length, Hf.out]) rfl (by kernel_rfl) _ Ho8.out (by omega) bytesV_one _ (durable_set HK.out.ok hi Hf.out) ?_
                   intro w9 hown9 hg9
                   have Ho9 := Lib.hid hown9
                   have F9 := Lib.hid (Fr.grown (S := fun k => k = g) hg9 (by simp))
                   clear hown9 hg9))
              go_roundw
              case rel =>
                refine ⟨k + 1, by omega, by go_num, ?_, Lib.hid (HR8.out.fr F9.out (fun ad e => by injection e with e; subst e; exact fun e => by simp at e; omega)), Lib.hid (F8.out.trans F9.out (fun _ _ e => .inr (.inl e)))⟩
                rw [HNx.out]
                exact Lib.hid (HK.out.cut hi (by simp only [if_true]; exact Hf.out) (ownsMap_fr Hm8.out F9.out (fun e => hne.2.2 e.symm)) Hle.out HD.out ((F9.out.block _ (heap_lt Hblk8.out) hne.1).trans (Hblk8.out.trans Hp.out.symm)) (by simp only [if_true]; exact Ho9.out))
              case measure => simp [intOf] <;> omega
    · obtain rfl : k = N := by omega
      have hfz2 := HK.out.frozen 2
      have hfz3 := HK.out.frozen 3
      obtain ⟨k0, k1, k2, k3, k4⟩ := HK.out.cells
      go_wp2_with fail
      refine bodyPost_end (results_none rfl _ _ _) rfl ?_
      have hok : ({ d.crashTo mask k with fuse := -1, broken := false, ops := (d.crashTo mask k).ops } : Dsk).Ok := by rw [Hc1.out]; exact crash_ok Hok.out mask
      have hfr : Fr (fun k => k = p) wr ((wr.setCell ⟨p, 3, none⟩ (.bool false)).setCell ⟨p, 2, none⟩ (.int .i64 (-1))) := (fr_set wr p 3 _).trans (fr_set _ p 2 _) (fun _ _ e => e)
      have hd : Dk ((wr.setCell ⟨p, 3, none⟩ (.bool false)).setCell ⟨p, 2, none⟩ (.int .i64 (-1))) p g mb c { d.crashTo mask k with fuse := -1, broken := false, ops := (d.crashTo mask k).ops } := by
        refine HK.out.reset hfr (Nat.le_refl _) hok ?_
        rw [heap_setCell_same _ p 2 _ _ _ (heap_setCell_same _ p 3 _ _ _ HK.out.blk)]
        simp
      rw [Hc1.out] at hd
      exact ⟨rfl, hd, HF.out.trans hfr (fun _ _ e => .inl e)⟩
end
end Go.Proofs.YtaldlapnhhhclaaGreat.Disk
