/- Contracts of the package wire: field, and bytes.Clone. Conditions: none. -/
import Derived.Test.YtplemdgihlabgaaWire4
import Derived.Test.YtplemdgihlabgaaNum2
set_option linter.unusedVariables false
set_option linter.unusedSimpArgs false
namespace Go.Proofs.Ytplemdgihlabgaa.Wire
open Go.RowKit Tw
set_option maxHeartbeats 8000000
set_option maxRecDepth 100000
theorem gv_take {l : List UInt8} : Num.gv 4 (l.take 4) = Num.gv 4 l := by
  unfold Num.gv
  by_cases h : 4 ≤ l.length
  · rw [if_pos h, if_pos (by simp; omega), List.take_take]
    rfl
  · rw [if_neg h, if_neg (by simp; omega)]
theorem rd_capped {w : World} {s : Nat} {A : Option Addr} {n c : Nat} {xs : List Value} (h : Rd w s A n c xs) : Rd w s A n n xs :=
  ⟨h.len, Nat.le_refl _, by have := h.cap; have := h.le; omega, fun e => by have := h.nil e; have := h.le; omega, h.cell⟩
theorem c_field (A : Option Addr) (n c : Nat) (b : List UInt8) (X : Int) (x : Nat) (hX : X = (x : Int)) (w : World) (hb : Byt w A n c b) (hx : x + 4 ≤ n) (hn : n ≤ 1000) :
    Calls Try.prog 152 #[.slice A n c, .int .i64 X] w fun e w' => e = .returned (.int .u32 (Num.gv 4 (b.drop x) : Nat)) ∧ w = w' := by
  subst hX
  have hle := hb.le
  have Hb := Lib.hid hb
  clear hb
  go_enter Try.func152, Try.ntmps152
  have h4 : Byt w (A.map (·.add x)) 4 4 ((b.drop x).take 4) := by
    have h1 := (Hb.out.cutB (k := x) (by omega)).uptoB (k := 4) (by omega)
    rw [if_neg (by omega)] at h1
    exact rd_capped h1
  have H4 := Lib.hid h4
  clear h4
  go_wp2_with (first
    | (go_at_call 204
       (with_reducible refine (Num.c_Get32 _ 4 4 _ _ H4.out).mono ?_)
       rintro e w1 ⟨rfl, rfl⟩))
  go_ret
  refine ⟨?_, rfl⟩
  rw [gv_take]
  rfl
theorem c_bClone (A : Option Addr) (n c : Nat) (b : List UInt8) (w : World) (hb : Byt w A n c b) (hn : n ≤ 140737488351232) :
    Calls Try.prog 108 #[.slice A n c] w fun e w' => ∃ A2 c2, e = .returned (.slice A2 n c2) ∧ Own w' w.heap.size 5 1 A2 n c2 (bytesV b) ∧ Below w.heap.size w w' := by
  have heq := fun (W : World) => Lib.run_eql_slice_nil (P := Try.prog) W 62 5 A n c 0 0 Try.underlying62
  cases A with
  | none =>
    have h0 := hb.nil rfl
    have hl := hb.blen
    have hn : n = 0 := by have := hb.le; omega
    subst hn h0
    obtain rfl : b = [] := List.eq_nil_of_length_eq_zero hl
    go_enter Try.func108, Try.ntmps108
    go_wp2
    go_ret
    exact ⟨none, 0, rfl, World.ownsRow_nil _ _ _ _, Below.refl _ _⟩
  | some ad =>
    have hb2 : Byt (w.alloc (.cells #[] 5)) (some ad) n c b := hb.bel ((Below.refl _ _).alloc (Nat.le_refl _) _)
    have Hb := Lib.hid hb2
    clear hb2 hb
    go_enter Try.func108, Try.ntmps108
    go_wp2_with (first
      | (refine wpL_append _ rfl (.tmp 5) (.tmp 6) _ rfl w w.heap.size (bel_alloc (Below.refl _ _) (Nat.le_refl _) _) (size_alloc_le (Nat.le_refl _) _) 5 _ 1 1 Try.underlying62 Num.info_u8 rfl (by omega) _ _ _ [] rfl (own_lit w w.heap.size _ 1 #[] 0 (Nat.le_refl _) (by simp [maxLen]) (by simp)) _ _ _ _ rfl Hb.out bytesV_one n _ (by omega) rfl (by unfold maxLen; omega) (by omega) ?_
         intro A1 c1 w1 hown1 hb1 hg1 ho1))
    go_ret
    exact ⟨A1, c1, rfl, hown1, hb1⟩
end Go.Proofs.Ytplemdgihlabgaa.Wire
