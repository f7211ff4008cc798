/- The law VolumeCuts, walked. Conditions: none. -/
import Derived.Test.YtdpggcpbgfancaaVolSame
import Derived.Test.YtdpggcpbgfancaaVolRef
set_option linter.unusedVariables false
set_option linter.unusedSimpArgs false
namespace Go.Proofs.Ytdpggcpbgfancaa.Vol
open Go.RowKit Tw
set_option maxHeartbeats 4000000
set_option maxRecDepth 100000

theorem own_form {w : World} {base : Nat} {e : TypeId} {size n : Nat} {A : Option Addr} {c : Nat} {xs : List Value} (h : Tw.Own w base e size A n c xs) (hn : 0 < n) : ∃ g, A = some ⟨g, 0, none⟩ := by
  rcases h.2 with ⟨hv, h0⟩ | ⟨g, cap, _, hv, _⟩
  · omega
  · injection hv with h1
    exact ⟨g, h1⟩
theorem pc_cells {w : World} {g n c : Nat} {l : List Pc} {k : Nat} {x1 x2 x3 x4 : Nat} (h : Rd w 4 (some ⟨g, 0, none⟩) n c (pcsV l)) (hp : l[k]? = some (x1, x2, x3, x4)) :
    w.cell? ⟨g, k * 4, none⟩ = some (.int .i64 (x1 : Int)) ∧ w.cell? ⟨g, k * 4 + 1, none⟩ = some (.int .i64 (x2 : Int)) ∧ w.cell? ⟨g, k * 4 + 2, none⟩ = some (.int .i64 (x3 : Int)) ∧ w.cell? ⟨g, k * 4 + 3, none⟩ = some (.int .i64 (x4 : Int)) := by
  have key : ∀ j v, (pcV (x1, x2, x3, x4))[j]? = some v → w.cell? ⟨g, k * 4 + j, none⟩ = some v := fun j v hv => by
    have hc := h.cell _ rfl _ _ (pcsV_get hp hv)
    rwa [Addr.add_mid, Nat.zero_add] at hc
  exact ⟨key 0 _ rfl, key 1 _ rfl, key 2 _ rfl, key 3 _ rfl⟩
theorem pc_at {w : World} {g n c : Nat} {l : List Pc} {k : Nat} {p : Pc} (h : Rd w 4 (some ⟨g, 0, none⟩) n c (pcsV l)) (hp : l[k]? = some p) {j : Nat} {v : Value} (hv : (pcV p)[j]? = some v) : w.cell? ((⟨g, k * 4, none⟩ : Addr).add j) = some v := by
  have hc := h.cell _ rfl _ _ (pcsV_get hp hv)
  rw [Addr.add_mid, Nat.zero_add] at hc
  rw [Addr.add_mid]
  exact hc
theorem c_lives (w : World) : Calls Try.prog 55 #[] w fun e w' => e = .returned (.bool true) ∧ Below w.heap.size w w' := by
  have hcut : cut 16 10 10 = ([(0, 2, 10, 20)], 0) := by decide +kernel
  have hco := c_Cut 16 10 10 w (by omega) (by omega) (by omega)
  rw [hcut] at hco
  have Hco := Lib.hid hco
  clear hcut hco
  go_enter Try.func55, Try.ntmps55
  go_wp2_with (first
    | (go_at_call 58
       (with_reducible refine Hco.out.mono ?_)
       rintro e w1 ⟨A1, c1, rfl, h1, hb1⟩
       obtain ⟨g, rfl⟩ := own_form h1 (Nat.zero_lt_one)
       obtain ⟨d0, d1, d2, d3⟩ := pc_cells (k := 0) h1.rd rfl
       simp only [Nat.zero_mul, Nat.zero_add] at d0 d1 d2 d3
       clear h1))
  go_ret
  exact ⟨rfl, hb1⟩

theorem pcs_get {o e k : Nat} {p : Pc} (hp : (pcs o e)[k]? = some p) : place o k < e ∧ p = pc o e (place o k) := by
  have hk : k < num o e := by have := (List.getElem?_eq_some_iff.1 hp).1; rwa [pcs_length] at this
  refine ⟨lt_num.1 hk, ?_⟩
  unfold pcs at hp
  rw [List.getElem?_map, List.getElem?_range hk] at hp
  simpa using hp.symm
theorem cut_good {s o z : Int} {k : Nat} {x1 x2 x3 x4 : Nat} (hp : (cut s o z).1[k]? = some (x1, x2, x3, x4)) : 1 ≤ x2 ∧ x2 ≤ 8 ∧ (x1 : Int) + (x2 : Int) ≤ s ∧ x1 ≤ 256 := by
  unfold cut at hp
  split at hp
  · simp at hp
  · split at hp
    · simp at hp
    · split at hp
      · simp at hp
      · obtain ⟨h1, h2⟩ := pcs_get hp
        unfold place at h1 h2
        simp only [pc, Prod.mk.injEq] at h2
        obtain ⟨rfl, rfl, _, _⟩ := h2
        omega
theorem cut_len (s o z : Int) : (cut s o z).1.length ≤ 32 := by
  unfold cut
  split
  · simp
  · split
    · simp
    · split
      · simp
      · rw [pcs_length]
        exact num_le (by omega)

end Go.Proofs.Ytdpggcpbgfancaa.Vol
