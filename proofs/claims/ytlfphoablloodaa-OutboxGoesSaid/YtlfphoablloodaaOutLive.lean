/- The example that the laws on the outbox end with. Conditions: none. -/
import Derived.Test.YtlfphoablloodaaOutbox2
import Derived.Test.YtlfphoablloodaaOutRef2
import Derived.IntWalk
import Derived.Lib.SlBytesConst
namespace Go.Proofs.Ytlfphoablloodaa.Outbox
open Go.RowKit Tw
set_option maxHeartbeats 400000

/-- the row of a constant string of one byte -/
def lit1 (v : Int) : Obj := .cells #[.int .u8 v] 5 (1, 2)
theorem byt_one (w : World) (v : Int) (h0 : 0 ≤ v) (h1 : v < 256) : Byt (w.alloc (lit1 v)) (some ⟨w.heap.size, 0, none⟩) 1 1 [UInt8.ofNat v.toNat] := by
  have hv : bytesV [UInt8.ofNat v.toNat] = [Value.int .u8 v] := by
    simp [bytesV]
    omega
  unfold Byt
  rw [hv]
  refine ⟨rfl, Nat.le_refl _, by simp [maxLen], fun e => (by cases e), fun ad e j u hu => ?_⟩
  injection e with e
  subst e
  cases j with
  | zero =>
    have h := cell_of_row (w.alloc (lit1 v)) w.heap.size 0 _ _ _ (heap_alloc_new w (lit1 v))
    simp at hu
    subst hu
    exact h
  | succ j => simp at hu

section
variable {w : World} {B : Nat} {F : Nat → Prop} {p : Nat} {win first : Int} {bs : List (List UInt8)}
theorem OutR.lt (h : OutR w B F p win first bs) : ∀ k, F k → B ≤ k ∧ k < w.heap.size := by
  obtain ⟨_, _, _, h⟩ := h
  exact h.inF
theorem RefR.lt (h : RefR w B F p win first bs) : ∀ k, F k → B ≤ k ∧ k < w.heap.size := by
  obtain ⟨_, _, _, h⟩ := h
  exact h.inF

theorem c_pushL (w0 : World) (k : Nat) (v : Int) (h0 : 0 ≤ v) (h1 : v < 256) (hk : bs.length = k) (hk2 : k < 10) (hB : Below w0.heap.size w0 w) (ho : OutR w w0.heap.size F p 2 1 bs) :
    Calls Try.prog 48 #[.pointer (some ⟨p, 0, none⟩), .slice (some ⟨w.heap.size, 0, none⟩) 1 1] (w.alloc (.cells #[.int .u8 v] 5 (1, 2))) fun e w' =>
      e = .returned (.tuple #[.int .i64 ((k : Int) + 1), .bool (decide (k < 2))]) ∧ ∃ F' bs', OutR w' w0.heap.size F' p 2 1 bs' ∧ bs'.length = k + 1 ∧ Below w0.heap.size w0 w' := by
  have hlt := ho.lt
  have hsz := hB.size
  refine (c_Push (ho.bel ((Below.refl _ _).alloc (Nat.le_refl _) _)) (by omega) (by omega) (by omega) (by omega) _ _ _ _ (byt_one w v h0 h1) (by omega) (by simp; omega)).mono ?_
  · rintro e w' ⟨rfl, F', ho', hfr, hF'⟩
    refine ⟨?_, F', _, ho', by simp [hk], (hB.alloc (by omega) _).trans (hfr.bel (fun k hk => (hlt k hk).1) (by simp; omega))⟩
    rw [hk]
    have e1 : (1 + (k : Int)) = (k : Int) + 1 := by omega
    have e2 : (!decide ((2 : Int) ≤ (k : Int))) = decide (k < 2) := by
      by_cases h : k < 2
      · have a : ¬ (2 : Int) ≤ (k : Int) := by omega
        simp only [a, h, decide_true, decide_false, Bool.not_false]
      · have a : (2 : Int) ≤ (k : Int) := by omega
        simp only [a, h, decide_true, decide_false, Bool.not_true]
    rw [e1, e2]
end

set_option maxRecDepth 100000 in
theorem c_live (w : World) : Calls Try.prog 46 #[] w fun e w' => e = .returned (.bool true) ∧ Below w.heap.size w w' := by
  have kc := fun (w : World) (C : Array Value) (n c : Nat) => Lib.run_convert_bytes_const (P := Try.prog) w 22 5 C n c Try.underlying22 Try.underlying5
  go_enter Try.func46, Try.ntmps46
  go_wp2_with (first
    | (go_at_call 45
       (with_reducible refine (c_oNew 2 w (by omega) (by omega)).mono ?_)
       rintro e w1 ⟨rfl, ho, hB⟩
       have hl : ([] : List (List UInt8)).length = 0 := rfl)
    | (go_at_call 48
       (with_reducible refine (c_pushL w _ _ (by omega) (by omega) hl (by omega) hB ho).mono ?_)
       clear ho hl hB
       rintro e w1 ⟨rfl, F, bs, ho, hl, hB⟩)
    | (go_at_call 47
       (with_reducible refine (c_Acked ho (by omega) (by omega) (by omega) (by omega) (by omega) 1 1 (by omega) (by omega) (by omega) 1 (by omega)).mono ?_)
       rintro e w2 ⟨A2, c2, rfl, hrd, ho2, hfr, had⟩
       have hB2 := hB.trans (hfr.bel (fun k hk => (ho.lt k hk).1) hB.size)
       have hsz2 := hB2.size
       clear ho ho2 hfr had)
    | (go_at_call 51
       have q1 := hrd.alloc (.cells #[.int .i64 3] 3)
       have q2 : Rd (w2.alloc (.cells #[.int .i64 3] 3)) 1 (some ⟨w2.heap.size, 0, none⟩) 1 1 (intsV [3]) := rd_one w2 3 (.int .i64 3)
       (with_reducible refine (c_Ints _ _ _ _ _ _ _ _ _ q1 q2).mono ?_)
       rintro e w3 ⟨rfl, m, rfl⟩
       rw [show (from_ (1 + min (bs.length : Int) 2) 1 == [3]) = true from by rw [hl]; decide]))
  go_ret
  exact ⟨rfl, (hB2.alloc hsz2 _).trans ⟨rfl, rfl, rfl, Nat.le_refl _, fun _ _ => rfl⟩⟩
end Go.Proofs.Ytlfphoablloodaa.Outbox
