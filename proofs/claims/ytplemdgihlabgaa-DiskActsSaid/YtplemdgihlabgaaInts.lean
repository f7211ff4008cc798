/- The comparison of two lists of numbers. Conditions: none. -/
import Derived.Test.YtplemdgihlabgaaProg
import Derived.Test.YtplemdgihlabgaaFrame
import Derived.IntWalk
set_option linter.unusedVariables false
set_option linter.unusedSimpArgs false
namespace Go.Proofs.Ytplemdgihlabgaa.Tw
open Go.RowKit
set_option maxHeartbeats 400000
/-- numbers, as cells -/
def izV (l : List Int) : List Value := l.map fun z => Value.int .i64 z
theorem izV_get {l : List Int} {j : Nat} {z : Int} (h : l[j]? = some z) : (izV l)[j]? = some (Value.int .i64 z) := by simp [izV, h]
theorem izV_length (l : List Int) : (izV l).length = l.length := by simp [izV]
theorem izV_one {l : List Int} : ∀ u ∈ izV l, u.oneCell' = true := by
  intro u hu
  obtain ⟨_, _, rfl⟩ := List.mem_map.1 hu
  rfl
theorem rd_iz_len {w : World} {A : Option Addr} {n c : Nat} {l : List Int} (h : Rd w 1 A n c (izV l)) : l.length = n := by have := h.len; simpa [izV] using this
theorem rd_iz_at {w : World} {A : Option Addr} {n c : Nat} {l : List Int} (h : Rd w 1 A n c (izV l)) {k : Nat} (hk : k < n) : ∃ ad z, A = some ad ∧ Hid (l[k]? = some z) ∧ w.cell? (ad.add k) = some (.int .i64 z) := by
  obtain ⟨ad, u, hA, hu, hc⟩ := h.at1 hk
  have hl := rd_iz_len h
  have : l[k]? = some (l[k]'(by omega)) := List.getElem?_eq_getElem (by omega)
  rw [izV_get this] at hu
  injection hu with hu
  subst hu
  exact ⟨ad, _, hA, this, hc⟩

theorem take_stepZ {α : Type} {l : List α} {k : Nat} {z : α} (h : l[k]? = some z) : l.take (k + 1) = l.take k ++ [z] := by
  obtain ⟨hl, rfl⟩ := List.getElem?_eq_some_iff.1 h
  rw [List.take_succ_eq_append_getElem hl]

theorem c_IntsZ (A A' : Option Addr) (n c m c' : Nat) (l l' : List Int) (w : World) (hl : Rd w 1 A n c (izV l)) (hl' : Rd w 1 A' m c' (izV l')) :
    Calls Try.prog 44 #[.slice A n c, .slice A' m c'] w fun e w' => e = .returned (.bool (l == l')) ∧ ∃ k, w' = w.drewN k := by
  have e1 := rd_iz_len hl
  have e2 := rd_iz_len hl'
  have hc1 := hl.cap
  have hc2 := hl'.cap
  have hn1 := hl.le
  have hn2 := hl'.le
  unfold maxLen at hc1 hc2
  have Hl := Lib.hid hl
  have Hl' := Lib.hid hl'
  clear hl hl'
  by_cases hnm : n = m
  · subst hnm
    have E1 := Lib.hid e1
    have E2 := Lib.hid e2
    clear e1 e2
    go_enter Try.func44, Try.ntmps44
    go_wp2_with fail
    go_loopw [5, 13] (fun _ i wr => ∃ k q : Nat, k ≤ n ∧ i = .int .i64 (k : Int) ∧ wr = w.drewN q ∧ Hid (l.take k = l'.take k)) (fun _ i _ => n - (intOf i).toNat)
    case atStart => exact ⟨0, 0, by omega, rfl, rfl, Lib.hid rfl⟩
    case round =>
      obtain ⟨k, q, hk, rfl, rfl, hT⟩ := hrel
      by_cases hlt : k < n
      · obtain ⟨ad, z, rfl, hz, hcell⟩ := rd_iz_at Hl.out hlt
        obtain ⟨ad', z', rfl, hz', hcell'⟩ := rd_iz_at Hl'.out hlt
        cases hb : z == z' with
        | true =>
          go_wp2_with fail
          go_quiet (fail)
          go_wp2_with fail
          go_roundw
          case rel => exact ⟨k + 1, q + nq, by omega, by go_num, rfl, Lib.hid (by rw [take_stepZ hz.out, take_stepZ hz'.out, hT.out, eq_of_beq hb])⟩
          case measure => simp [intOf] <;> omega
        | false =>
          go_wp2_with fail
          go_quiet (fail)
          go_wp2_with fail
          go_ret
          refine ⟨?_, q + nq, by rw [World.drewN_drewN]⟩
          have : (l == l') = false := by
            cases h : l == l' with
            | false => rfl
            | true =>
              have h1 := eq_of_beq h
              subst h1
              have h2 := hz.out
              rw [hz'.out] at h2
              injection h2 with h2
              rw [h2] at hb
              simp at hb
          rw [this]
          rfl
      · have hk : k = n := by omega
        subst hk
        go_wp2_with fail
        go_ret
        refine ⟨?_, _, rfl⟩
        have h1 := hT.out
        rw [List.take_of_length_le (by rw [E1.out]; omega), List.take_of_length_le (by rw [E2.out]; omega)] at h1
        simp [h1]
  · have hne : ((n : Int) != (m : Int)) = true := by simp; omega
    have hf : (l == l') = false := by
      cases h : l == l' with
      | false => rfl
      | true => have := eq_of_beq h; subst this; omega
    have Hf := Lib.hid hf
    clear hf
    clear e1 e2
    go_enter Try.func44, Try.ntmps44
    go_wp2_with fail
    go_ret
    exact ⟨by rw [Hf.out]; rfl, 0, rfl⟩

end Go.Proofs.Ytplemdgihlabgaa.Tw
