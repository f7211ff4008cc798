/- Contracts of the package pack: the kinds' shapes, Name. Conditions: none. -/
import Derived.Test.YtaldlapnhhhclaaGreatBox
set_option linter.unusedVariables false
set_option linter.unusedSimpArgs false
namespace Go.Proofs.YtaldlapnhhhclaaGreat.Pack
open Go.RowKit Tw
set_option maxHeartbeats 8000000
set_option maxRecDepth 100000
/-- the shape of a kind -/
def nm (k : Int) : ByteArray := if k = 1 then ⟨#[103, 114, 101, 101, 116]⟩ else if k = 2 then ⟨#[100, 97, 116, 97]⟩ else if k = 3 then ⟨#[97, 99, 107]⟩ else if k = 4 then ⟨#[111, 118, 101, 114]⟩ else if k = 5 then ⟨#[114, 101, 116, 114, 121]⟩ else if k = 6 then ⟨#[101, 120, 116]⟩ else if k = 7 then ⟨#[104, 97, 118, 101]⟩ else if k = 8 then ⟨#[101, 110, 100]⟩ else ByteArray.empty
def kW (k : Int) : Bool := decide (k = 1)
def kI (k : Int) : Bool := decide (2 ≤ k ∧ k ≤ 5)
def kO (k : Int) : Bool := decide (k = 2 ∨ k = 6 ∨ k = 7)
def kD (k : Int) : Bool := decide (k = 2 ∨ k = 6)
def shV (k : Int) : Value := .agg #[.string (nm k), .bool (kW k), .bool (kI k), .bool (kO k), .bool (kD k)]
def kk (k : Int) : Bool := decide (1 ≤ k ∧ k ≤ 8)
def tab : Array Value := #[.string ⟨#[]⟩, .bool false, .bool false, .bool false, .bool false, .string ⟨#[103, 114, 101, 101, 116]⟩, .bool true, .bool false, .bool false, .bool false, .string ⟨#[100, 97, 116, 97]⟩, .bool false, .bool true, .bool true, .bool true, .string ⟨#[97, 99, 107]⟩, .bool false, .bool true, .bool false, .bool false, .string ⟨#[111, 118, 101, 114]⟩, .bool false, .bool true, .bool false, .bool false, .string ⟨#[114, 101, 116, 114, 121]⟩, .bool false, .bool true, .bool false, .bool false, .string ⟨#[101, 120, 116]⟩, .bool false, .bool false, .bool true, .bool true, .string ⟨#[104, 97, 118, 101]⟩, .bool false, .bool false, .bool true, .bool false, .string ⟨#[101, 110, 100]⟩, .bool false, .bool false, .bool false, .bool false]
theorem tab_one : ∀ v ∈ tab, v.oneCell' = true := Array.all_eq_true_iff_forall_mem.1 (by kernel_rfl)
theorem one5 (s : ByteArray) (a b c d : Bool) : ∀ v ∈ (#[.string s, .bool a, .bool b, .bool c, .bool d] : Array Value), v.oneCell' = true := by
  intro v hv
  simp at hv
  rcases hv with rfl | rfl | rfl | rfl | rfl <;> rfl
theorem c_of (k : Int) (w : World) :
    Calls Tryz.prog 140 #[.int .i64 k] w fun e w' => e = .returned (.tuple #[shV k, .bool (kk k)]) ∧ Below w.heap.size w w' := by
  have HB := Lib.hid ((Below.refl _ _).alloc (Nat.le_refl w.heap.size) (.cells #[.string ⟨#[]⟩, .bool false, .bool false, .bool false, .bool false] 205))
  have HX := Lib.hid (heap_alloc_new w (.cells #[.string ⟨#[]⟩, .bool false, .bool false, .bool false, .bool false] 205))
  go_enter Tryz.func140, Tryz.ntmps140
  go_upto_region 1 with (fail)
  generalize w.alloc (.cells #[.string ⟨#[]⟩, .bool false, .bool false, .bool false, .bool false] 205) = W1 at *
  go_upto_region 2 with (first
    | (refine Bx.wpL_store_all rfl rfl 229 (.tmp 4) (.tmp 13) rfl _ rfl tab rfl _ _ (heap_alloc_new W1 _) (by kernel_rfl) (by kernel_rfl) tab_one ?_
       intro w2 x2 g2
       have HX2 := Lib.hid ((g2.block _ (by simp; have := heap_lt HX.out; omega) (by have := heap_lt HX.out; simp; omega)).trans ((Below.heap_alloc W1 _ _ (heap_lt HX.out)).trans HX.out))
       have HB2 := Lib.hid ((bel_alloc HB.out HB.out.size _).grown g2 (size_alloc_le HB.out.size _) (by rintro j ⟨⟩; exact HB.out.size))
       have X2 := Lib.hid x2
       clear x2 g2)
    | fail)
  clear HB HX
  generalize Value.agg #[.string ⟨#[]⟩, .bool false, .bool false, .bool false, .bool false, .string ⟨#[103, 114, 101, 101, 116]⟩, .bool true, .bool false, .bool false, .bool false, .string ⟨#[100, 97, 116, 97]⟩, .bool false, .bool true, .bool true, .bool true, .string ⟨#[97, 99, 107]⟩, .bool false, .bool true, .bool false, .bool false, .string ⟨#[111, 118, 101, 114]⟩, .bool false, .bool true, .bool false, .bool false, .string ⟨#[114, 101, 116, 114, 121]⟩, .bool false, .bool true, .bool false, .bool false, .string ⟨#[101, 120, 116]⟩, .bool false, .bool false, .bool true, .bool true, .string ⟨#[104, 97, 118, 101]⟩, .bool false, .bool false, .bool true, .bool false, .string ⟨#[101, 110, 100]⟩, .bool false, .bool false, .bool false, .bool false] = U
  generalize W1.heap.size = g at *
  by_cases hk : k < 1 ∨ 8 < k
  · have hk1 : (decide (k < 1) || decide (9 ≤ k)) = true := by simp; omega
    have hs : shV k = .agg #[.string ⟨#[]⟩, .bool false, .bool false, .bool false, .bool false] ∧ kk k = false := by
      constructor
      · unfold shV nm kW kI kO kD
        rw [if_neg (by omega), if_neg (by omega), if_neg (by omega), if_neg (by omega), if_neg (by omega), if_neg (by omega), if_neg (by omega), if_neg (by omega), decide_eq_false (by omega), decide_eq_false (by omega), decide_eq_false (by omega), decide_eq_false (by omega)]
        rfl
      · exact decide_eq_false (by omega)
    have Hs := Lib.hid hs
    clear hs
    go_wp2_with (first
      | (refine Bx.wpL_store_all rfl rfl 205 (.tmp 2) (.tmp 20) rfl _ rfl _ rfl _ _ HX2.out (by kernel_rfl) rfl (one5 _ _ _ _ _) ?_
         intro w9 x9 g9
         have HR := Lib.hid x9
         have HBR := Lib.hid (HB2.out.grown g9 HB2.out.size (by rintro k ⟨⟩; exact Nat.le_refl _))
         clear x9 g9)
      | fail)
    all_goals first
      | (exfalso; omega)
      | skip
    all_goals
      refine bodyPost_ret (Bx.results_cell2 rfl _ _ w.heap.size _ _ (0, 0) _ rfl HR.out Tryz.underlying205 rfl (by kernel_rfl) _ rfl) rfl ?_
      exact ⟨by rw [Hs.out.1, Hs.out.2]; rfl, HBR.out⟩
  · have h8 : k = 1 ∨ k = 2 ∨ k = 3 ∨ k = 4 ∨ k = 5 ∨ k = 6 ∨ k = 7 ∨ k = 8 := by omega
    clear hk
    rcases h8 with rfl | rfl | rfl | rfl | rfl | rfl | rfl | rfl
    · obtain ⟨l0, l1, l2, l3, l4⟩ : w2.cell? ⟨g, 5, none⟩ = some (.string ⟨#[103, 114, 101, 101, 116]⟩) ∧ w2.cell? ⟨g, 6, none⟩ = some (.bool true) ∧ w2.cell? ⟨g, 7, none⟩ = some (.bool false) ∧ w2.cell? ⟨g, 8, none⟩ = some (.bool false) ∧ w2.cell? ⟨g, 9, none⟩ = some (.bool false) := by simp [World.cell?, X2.out, tab]
      go_wp2_with (first
        | (refine Bx.wpL_store_all rfl rfl 205 (.tmp 2) (.tmp 23) rfl _ rfl _ rfl _ _ HX2.out (by kernel_rfl) rfl (one5 _ _ _ _ _) ?_
           intro w9 x9 g9
           have HR := Lib.hid x9
           have HBR := Lib.hid (HB2.out.grown g9 HB2.out.size (by rintro k ⟨⟩; exact Nat.le_refl _))
           clear x9 g9)
        | fail)
      refine bodyPost_ret (Bx.results_cell2 rfl _ _ w.heap.size _ _ (0, 0) _ rfl HR.out Tryz.underlying205 rfl (by kernel_rfl) _ rfl) rfl ?_
      exact ⟨rfl, HBR.out⟩
    · obtain ⟨l0, l1, l2, l3, l4⟩ : w2.cell? ⟨g, 10, none⟩ = some (.string ⟨#[100, 97, 116, 97]⟩) ∧ w2.cell? ⟨g, 11, none⟩ = some (.bool false) ∧ w2.cell? ⟨g, 12, none⟩ = some (.bool true) ∧ w2.cell? ⟨g, 13, none⟩ = some (.bool true) ∧ w2.cell? ⟨g, 14, none⟩ = some (.bool true) := by simp [World.cell?, X2.out, tab]
      go_wp2_with (first
        | (refine Bx.wpL_store_all rfl rfl 205 (.tmp 2) (.tmp 23) rfl _ rfl _ rfl _ _ HX2.out (by kernel_rfl) rfl (one5 _ _ _ _ _) ?_
           intro w9 x9 g9
           have HR := Lib.hid x9
           have HBR := Lib.hid (HB2.out.grown g9 HB2.out.size (by rintro k ⟨⟩; exact Nat.le_refl _))
           clear x9 g9)
        | fail)
      refine bodyPost_ret (Bx.results_cell2 rfl _ _ w.heap.size _ _ (0, 0) _ rfl HR.out Tryz.underlying205 rfl (by kernel_rfl) _ rfl) rfl ?_
      exact ⟨rfl, HBR.out⟩
    · obtain ⟨l0, l1, l2, l3, l4⟩ : w2.cell? ⟨g, 15, none⟩ = some (.string ⟨#[97, 99, 107]⟩) ∧ w2.cell? ⟨g, 16, none⟩ = some (.bool false) ∧ w2.cell? ⟨g, 17, none⟩ = some (.bool true) ∧ w2.cell? ⟨g, 18, none⟩ = some (.bool false) ∧ w2.cell? ⟨g, 19, none⟩ = some (.bool false) := by simp [World.cell?, X2.out, tab]
      go_wp2_with (first
        | (refine Bx.wpL_store_all rfl rfl 205 (.tmp 2) (.tmp 23) rfl _ rfl _ rfl _ _ HX2.out (by kernel_rfl) rfl (one5 _ _ _ _ _) ?_
           intro w9 x9 g9
           have HR := Lib.hid x9
           have HBR := Lib.hid (HB2.out.grown g9 HB2.out.size (by rintro k ⟨⟩; exact Nat.le_refl _))
           clear x9 g9)
        | fail)
      refine bodyPost_ret (Bx.results_cell2 rfl _ _ w.heap.size _ _ (0, 0) _ rfl HR.out Tryz.underlying205 rfl (by kernel_rfl) _ rfl) rfl ?_
      exact ⟨rfl, HBR.out⟩
    · obtain ⟨l0, l1, l2, l3, l4⟩ : w2.cell? ⟨g, 20, none⟩ = some (.string ⟨#[111, 118, 101, 114]⟩) ∧ w2.cell? ⟨g, 21, none⟩ = some (.bool false) ∧ w2.cell? ⟨g, 22, none⟩ = some (.bool true) ∧ w2.cell? ⟨g, 23, none⟩ = some (.bool false) ∧ w2.cell? ⟨g, 24, none⟩ = some (.bool false) := by simp [World.cell?, X2.out, tab]
      go_wp2_with (first
        | (refine Bx.wpL_store_all rfl rfl 205 (.tmp 2) (.tmp 23) rfl _ rfl _ rfl _ _ HX2.out (by kernel_rfl) rfl (one5 _ _ _ _ _) ?_
           intro w9 x9 g9
           have HR := Lib.hid x9
           have HBR := Lib.hid (HB2.out.grown g9 HB2.out.size (by rintro k ⟨⟩; exact Nat.le_refl _))
           clear x9 g9)
        | fail)
      refine bodyPost_ret (Bx.results_cell2 rfl _ _ w.heap.size _ _ (0, 0) _ rfl HR.out Tryz.underlying205 rfl (by kernel_rfl) _ rfl) rfl ?_
      exact ⟨rfl, HBR.out⟩
    · obtain ⟨l0, l1, l2, l3, l4⟩ : w2.cell? ⟨g, 25, none⟩ = some (.string ⟨#[114, 101, 116, 114, 121]⟩) ∧ w2.cell? ⟨g, 26, none⟩ = some (.bool false) ∧ w2.cell? ⟨g, 27, none⟩ = some (.bool true) ∧ w2.cell? ⟨g, 28, none⟩ = some (.bool false) ∧ w2.cell? ⟨g, 29, none⟩ = some (.bool false) := by simp [World.cell?, X2.out, tab]
      go_wp2_with (first
        | (refine Bx.wpL_store_all rfl rfl 205 (.tmp 2) (.tmp 23) rfl _ rfl _ rfl _ _ HX2.out (by kernel_rfl) rfl (one5 _ _ _ _ _) ?_
           intro w9 x9 g9
           have HR := Lib.hid x9
           have HBR := Lib.hid (HB2.out.grown g9 HB2.out.size (by rintro k ⟨⟩; exact Nat.le_refl _))
           clear x9 g9)
        | fail)
      refine bodyPost_ret (Bx.results_cell2 rfl _ _ w.heap.size _ _ (0, 0) _ rfl HR.out Tryz.underlying205 rfl (by kernel_rfl) _ rfl) rfl ?_
      exact ⟨rfl, HBR.out⟩
    · obtain ⟨l0, l1, l2, l3, l4⟩ : w2.cell? ⟨g, 30, none⟩ = some (.string ⟨#[101, 120, 116]⟩) ∧ w2.cell? ⟨g, 31, none⟩ = some (.bool false) ∧ w2.cell? ⟨g, 32, none⟩ = some (.bool false) ∧ w2.cell? ⟨g, 33, none⟩ = some (.bool true) ∧ w2.cell? ⟨g, 34, none⟩ = some (.bool true) := by simp [World.cell?, X2.out, tab]
      go_wp2_with (first
        | (refine Bx.wpL_store_all rfl rfl 205 (.tmp 2) (.tmp 23) rfl _ rfl _ rfl _ _ HX2.out (by kernel_rfl) rfl (one5 _ _ _ _ _) ?_
           intro w9 x9 g9
           have HR := Lib.hid x9
           have HBR := Lib.hid (HB2.out.grown g9 HB2.out.size (by rintro k ⟨⟩; exact Nat.le_refl _))
           clear x9 g9)
        | fail)
      refine bodyPost_ret (Bx.results_cell2 rfl _ _ w.heap.size _ _ (0, 0) _ rfl HR.out Tryz.underlying205 rfl (by kernel_rfl) _ rfl) rfl ?_
      exact ⟨rfl, HBR.out⟩
    · obtain ⟨l0, l1, l2, l3, l4⟩ : w2.cell? ⟨g, 35, none⟩ = some (.string ⟨#[104, 97, 118, 101]⟩) ∧ w2.cell? ⟨g, 36, none⟩ = some (.bool false) ∧ w2.cell? ⟨g, 37, none⟩ = some (.bool false) ∧ w2.cell? ⟨g, 38, none⟩ = some (.bool true) ∧ w2.cell? ⟨g, 39, none⟩ = some (.bool false) := by simp [World.cell?, X2.out, tab]
      go_wp2_with (first
        | (refine Bx.wpL_store_all rfl rfl 205 (.tmp 2) (.tmp 23) rfl _ rfl _ rfl _ _ HX2.out (by kernel_rfl) rfl (one5 _ _ _ _ _) ?_
           intro w9 x9 g9
           have HR := Lib.hid x9
           have HBR := Lib.hid (HB2.out.grown g9 HB2.out.size (by rintro k ⟨⟩; exact Nat.le_refl _))
           clear x9 g9)
        | fail)
      refine bodyPost_ret (Bx.results_cell2 rfl _ _ w.heap.size _ _ (0, 0) _ rfl HR.out Tryz.underlying205 rfl (by kernel_rfl) _ rfl) rfl ?_
      exact ⟨rfl, HBR.out⟩
    · obtain ⟨l0, l1, l2, l3, l4⟩ : w2.cell? ⟨g, 40, none⟩ = some (.string ⟨#[101, 110, 100]⟩) ∧ w2.cell? ⟨g, 41, none⟩ = some (.bool false) ∧ w2.cell? ⟨g, 42, none⟩ = some (.bool false) ∧ w2.cell? ⟨g, 43, none⟩ = some (.bool false) ∧ w2.cell? ⟨g, 44, none⟩ = some (.bool false) := by simp [World.cell?, X2.out, tab]
      go_wp2_with (first
        | (refine Bx.wpL_store_all rfl rfl 205 (.tmp 2) (.tmp 23) rfl _ rfl _ rfl _ _ HX2.out (by kernel_rfl) rfl (one5 _ _ _ _ _) ?_
           intro w9 x9 g9
           have HR := Lib.hid x9
           have HBR := Lib.hid (HB2.out.grown g9 HB2.out.size (by rintro k ⟨⟩; exact Nat.le_refl _))
           clear x9 g9)
        | fail)
      refine bodyPost_ret (Bx.results_cell2 rfl _ _ w.heap.size _ _ (0, 0) _ rfl HR.out Tryz.underlying205 rfl (by kernel_rfl) _ rfl) rfl ?_
      exact ⟨rfl, HBR.out⟩
end Go.Proofs.YtaldlapnhhhclaaGreat.Pack
