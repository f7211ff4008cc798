/- Acts as rows of cells: some numbers, and a sector behind them; both disks as one. Conditions: none. -/
import Derived.Test.YtpbcmghfhflkbaaPair
import Derived.Test.YtpbcmghfhflkbaaSlRows
import Derived.Test.YtpbcmghfhflkbaaRing
set_option linter.unusedVariables false
set_option linter.unusedSimpArgs false
namespace Go.Proofs.Ytpbcmghfhflkbaa.Disk
open Go.RowKit Tw
set_option maxHeartbeats 1000000
theorem cells_at {W : World} {g : Nat} {l : List Value} {t : TypeId} (h : W.heap[g]? = some (.cells l.toArray t (0, 0))) (j : Nat) (v : Value) (hv : l[j]? = some v) : W.cell? ⟨g, j, none⟩ = some v := by
  simp only [World.cell?, h]
  simpa using hv
/-- the cells behind the first ones -/
theorem cells_tail {W : World} {g n : Nat} {hd l : List Value} {t : TypeId} (h : W.heap[g]? = some (.cells (hd ++ l).toArray t (0, 0))) (hn : hd.length = n) (hn0 : 0 < n) : ∀ j v, l[j]? = some v → W.cell? ((⟨g, n, none⟩ : Addr).add j) = some v := by
  intro j v hv
  have h1 : (hd ++ l)[n + j]? = some v := by
    rw [List.getElem?_append_right (by omega), show n + j - hd.length = j by omega]
    exact hv
  have h2 := cells_at h (n + j) v h1
  unfold Addr.add
  by_cases hj : j = 0
  · subst hj
    simpa using h2
  · rw [if_neg hj]
    exact h2
theorem one_row {hd : List Value} {s : Sec} (h : ∀ v ∈ hd, v.oneCell' = true) : ∀ v ∈ (hd ++ bytesV s).toArray, v.oneCell' = true := by
  intro v hv
  simp only [List.mem_toArray, List.mem_append] at hv
  rcases hv with hv | hv
  · exact h v hv
  · exact bytesV_one v hv
theorem pr_below {w0 w w' : World} {p g mb q r : Nat} (hB : Below w0.heap.size w0 w) (h : w0.heap.size ≤ p ∧ w0.heap.size ≤ g ∧ w0.heap.size ≤ mb) (h2 : w0.heap.size ≤ q ∧ w0.heap.size ≤ r) (f : Fr (PS p g mb q r) w w') : Below w0.heap.size w0 w' :=
  hB.trans (f.bel (fun k e => by unfold PS at e; omega) hB.size)
theorem pr_bel {w0 w w' : World} {p g mb q r : Nat} {S : Nat → Prop} (hB : Below w0.heap.size w0 w) (h : w0.heap.size ≤ p ∧ w0.heap.size ≤ g ∧ w0.heap.size ≤ mb) (h2 : w0.heap.size ≤ q ∧ w0.heap.size ≤ r) (f : Fr S w w') (hs : ∀ k, S k → k = p ∨ k = g ∨ k = mb ∨ k = q ∨ k = r) : Below w0.heap.size w0 w' :=
  hB.trans (f.bel (fun k e => by have := hs k e; omega) hB.size)
section
variable {w : World} {p g mb c : Nat} {d : Dsk}
theorem c_dWriteP (h : Dk w p g mb c d) (ho : d.ops < 1000000000) (x : Int) (hx : -9223372036854775808 ≤ x ∧ x ≤ 9223372036854775807) (s : Sec) (hs : s.length = 16) :
    Calls Try.prog 24 #[.pointer (some ⟨p, 0, none⟩), .int .i64 x, .agg (bytesV s).toArray] w fun e' w' => e' = .returned (.int .i64 ((d.write x s).2 : Int)) ∧ Dk w' p g mb c (d.write x s).1 ∧ Fr (fun k => k = p ∨ k = g ∨ k = mb) w w' :=
  (c_dWrite h ho x hx s hs).mono fun e' w' ⟨q1, q2, q3⟩ => ⟨q1, q2, q3.mono (fun k _ e => by rcases e with e | e; exact .inl e; exact .inr (.inr e))⟩
end
theorem c_dNewBad (n : Int) (hn : n < 1 ∨ 1024 < n) (w : World) : Calls Try.prog 16 #[.int .i64 n] w fun e w' => e = .returned (.tuple #[.pointer none, .int .i64 2]) ∧ w = w' := by
  by_cases h1 : n < 1
  · go_enter Try.func16, Try.ntmps16
    go_wp2_with fail
    go_ret2
    exact ⟨rfl, rfl⟩
  · have h2 : 1024 < n := by omega
    go_enter Try.func16, Try.ntmps16
    go_wp2_with fail
    go_ret2
    exact ⟨rfl, rfl⟩
end Go.Proofs.Ytpbcmghfhflkbaa.Disk
namespace Go.Proofs.Ytpbcmghfhflkbaa.Slots
open Go.RowKit Tw Disk
theorem sput_ops (d : Dsk) (b s : Int) (x : Nat) : (sput d b s x).1.ops ≤ d.ops + 2 := by
  have h1 := fun P R => (write_facts d P R).1
  unfold sput
  split
  · split
    · exact Nat.le_add_right _ _
    · split
      · exact Nat.le_add_right _ _
      · split
        · have h2 := (flush_facts (d.write (place b s ((latest d b s).1 + 1)) (Seal.rec ((latest d b s).1 + 1) x)).1).1
          have h3 := h1 (place b s ((latest d b s).1 + 1)) (Seal.rec ((latest d b s).1 + 1) x)
          omega
        · have h3 := h1 (place b s ((latest d b s).1 + 1)) (Seal.rec ((latest d b s).1 + 1) x)
          omega
  · exact Nat.le_add_right _ _
end Go.Proofs.Ytpbcmghfhflkbaa.Slots
