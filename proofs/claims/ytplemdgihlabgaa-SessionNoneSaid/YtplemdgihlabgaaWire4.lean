/- The law WireForms, walked; lives; its argument opened. Conditions: none. -/
import Derived.Test.YtplemdgihlabgaaWire3
import Derived.Test.YtplemdgihlabgaaFlat
import Derived.Test.YtplemdgihlabgaaResult
import Derived.Test.YtplemdgihlabgaaDisk4
set_option linter.unusedVariables false
set_option linter.unusedSimpArgs false
namespace Go.Proofs.Ytplemdgihlabgaa.Wire
open Go.RowKit Tw
set_option maxHeartbeats 8000000
set_option maxRecDepth 100000
theorem c_Parse_short (A : Option Addr) (n c : Nat) (w : World) (hn : n < 23) :
    Calls Try.prog 100 #[.slice A n c] w fun e w' => e = .returned (.tuple #[.agg #[.int .u32 0, .int .u32 0, .int .i64 0, .int .i64 0, .int .i64 0, .slice none 0 0], .int .i64 8]) ∧ Below w.heap.size w w' := by
  have HB := Lib.hid ((Below.refl _ _).alloc (Nat.le_refl w.heap.size) (.cells #[.int .u32 0, .int .u32 0, .int .i64 0, .int .i64 0, .int .i64 0, .slice none 0 0] 92))
  go_enter Try.func100, Try.ntmps100
  go_wp2_with fail
  refine bodyPost_ret (Disk.results_cell2 rfl _ _ w.heap.size _ _ (0, 0) _ rfl (heap_alloc_new w _) Try.underlying92 rfl (by kernel_rfl) _ rfl) rfl ?_
  exact ⟨rfl, HB.out⟩
theorem hello_len : (bytes 1 0 1 0 0 []).length = 23 := by decide +kernel
theorem c_BytesHello (w : World) : Calls Try.prog 115 #[.agg #[.int .u32 1, .int .u32 0, .int .i64 1, .int .i64 0, .int .i64 0, .slice none 0 0]] w fun e w' => ∃ A2 c2, e = .returned (.slice A2 23 c2) ∧ Below w.heap.size w w' := by
  have h : Calls Try.prog 115 #[.agg #[.int .u32 1, .int .u32 0, .int .i64 1, .int .i64 0, .int .i64 0, .slice none 0 0]] w fun e w' => ∃ A2 n2 c2, e = .returned (.slice A2 n2 c2) ∧ Byt w' A2 n2 c2 (bytes 1 0 1 0 0 []) ∧ Below w.heap.size w w' := c_Bytes 1 0 1 0 0 none 0 0 [] w (by omega) (by omega) Rd.nil_
  refine h.mono ?_
  rintro e w' ⟨A2, n2, c2, rfl, hb, hB⟩
  have h1 := hb.blen
  rw [hello_len] at h1
  subst h1
  exact ⟨A2, c2, rfl, hB⟩
section
open Go.ChangeShapes Go.WideShapes Go.Deep
variable {H : Type} {enc : TypeId × Value → H} {P : Program} {W : World} {base : Nat} {spare : Nat → Bool} {held : Bool}
theorem open_pk {r : Reach} {base2 : Nat} {t : TypeId} {v : Value} {d : DataW H} {ps : List MemPlace} (hL : flat P 4 t = some [.int .u32, .int .u32, .int .i64, .int .i64, .int .i64, .bytes]) (hc : P.cellsOf t = 6) (ht : (P.underlying t).map (·.isRow) = some true)
    (hv : Value.okWide P W r base2 t v) (h : DataW.Trod enc P W base spare held t v d ps) : ∃ (f t : Nat) (k s a : Int) (A : Option Addr) (n cb : Nat) (b : List UInt8), v = .agg #[.int .u32 (f : Int), .int .u32 (t : Int), .int .i64 k, .int .i64 s, .int .i64 a, .slice A n cb] ∧ f < 4294967296 ∧ t < 4294967296 ∧ Byt W A n cb b := by
  obtain ⟨cs, rfl, hr⟩ := open_agg 4 hL hc ht hv h
  obtain ⟨v1, r1, rfl, k1, hr⟩ := rowOk_cons hr
  obtain ⟨v2, r2, rfl, k2, hr⟩ := rowOk_cons hr
  obtain ⟨v3, r3, rfl, k3, hr⟩ := rowOk_cons hr
  obtain ⟨v4, r4, rfl, k4, hr⟩ := rowOk_cons hr
  obtain ⟨v5, r5, rfl, k5, hr⟩ := rowOk_cons hr
  obtain ⟨v6, r6, rfl, k6, hr⟩ := rowOk_cons hr
  obtain rfl := rowOk_nil hr
  obtain ⟨z1, rfl, q1⟩ := leaf_u32 k1
  obtain ⟨z2, rfl, q2⟩ := leaf_u32 k2
  obtain ⟨z3, rfl, q3⟩ := leaf_i64 k3
  obtain ⟨z4, rfl, q4⟩ := leaf_i64 k4
  obtain ⟨z5, rfl, q5⟩ := leaf_i64 k5
  obtain ⟨A, n, cb, b, rfl, hb⟩ := k6
  exact ⟨z1, z2, z3, z4, z5, A, n, cb, b, rfl, q1, q2, hb⟩
end
end Go.Proofs.Ytplemdgihlabgaa.Wire
