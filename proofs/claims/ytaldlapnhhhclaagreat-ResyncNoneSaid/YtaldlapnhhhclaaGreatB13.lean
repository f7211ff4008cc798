/- Texts joined: what the disks, the rings and their reference do. Conditions: none. -/
import Derived.Test.YtaldlapnhhhclaaGreatB12
import Derived.RangeFuncNested
import Derived.RangeFuncCalls
import Derived.OrdersIn
import Derived.TacticsIn
import Derived.OwnWalkIn
import Derived.WalkKit
import Derived.Test.YtaldlapnhhhclaaGreatB2
import Derived.Test.YtaldlapnhhhclaaGreatB3
import Derived.Test.YtaldlapnhhhclaaGreatB8
import Derived.RangeFuncBound
import Derived.RangeFuncLeaves
import Derived.Shelf.Abstract
import Derived.Shelf.RegionOpen
import Derived.TacticsInMore
import Derived.LoopNIn
import Derived.LoopIn
import Derived.IntWalk
import Derived.Test.YtaldlapnhhhclaaGreatB1
import Derived.Maps.AppendAt
import Derived.Deep.MidRow
/- Contracts of the package pack: the kinds' shapes, Name. Conditions: none. -/
set_option linter.unusedVariables false
set_option linter.unusedSimpArgs false
namespace Go.Proofs.YtaldlapnhhhclaaGreat.Pack
open Go.RowKit Tw
set_option maxHeartbeats 8000000
set_option maxRecDepth 100000
/-- the shape of a kind -/
def nm (k : Int) : ByteArray := if k = 1 then ⟨#[103, 114, 101, 101, 116]⟩ else if k = 2 then ⟨#[100, 97, 116, 97]⟩ else if k = 3 then ⟨#[97, 99, 107]⟩ else if k = 4 then ⟨#[111, 118, 101, 114]⟩ else if k = 5 then ⟨#[114, 101, 116, 114, 121]⟩ else if k = 6 then ⟨#[101, 120, 116]⟩ else if k = 7 then ⟨#[104, 97, 118, 101]⟩ else if k = 8 then ⟨#[101, 110, 100]⟩ else ByteArray.empty
def kW (k : Int) : Bool := decide (k = 1)
def kI (k : Int) : Bool := decide (2 ≤ k ∧ k ≤ 5)
def kO (k : Int) : Bool := decide (k = 2 ∨ k = 6 ∨ k = 7)
def kD (k : Int) : Bool := decide (k = 2 ∨ k = 6)
def shV (k : Int) : Value := .agg #[.string (nm k), .bool (kW k), .bool (kI k), .bool (kO k), .bool (kD k)]
def kk (k : Int) : Bool := decide (1 ≤ k ∧ k ≤ 8)
def tab : Array Value := #[.string ⟨#[]⟩, .bool false, .bool false, .bool false, .bool false, .string ⟨#[103, 114, 101, 101, 116]⟩, .bool true, .bool false, .bool false, .bool false, .string ⟨#[100, 97, 116, 97]⟩, .bool false, .bool true, .bool true, .bool true, .string ⟨#[97, 99, 107]⟩, .bool false, .bool true, .bool false, .bool false, .string ⟨#[111, 118, 101, 114]⟩, .bool false, .bool true, .bool false, .bool false, .string ⟨#[114, 101, 116, 114, 121]⟩, .bool false, .bool true, .bool false, .bool false, .string ⟨#[101, 120, 116]⟩, .bool false, .bool false, .bool true, .bool true, .string ⟨#[104, 97, 118, 101]⟩, .bool false, .bool false, .bool true, .bool false, .string ⟨#[101, 110, 100]⟩, .bool false, .bool false, .bool false, .bool false]
theorem tab_one : ∀ v ∈ tab, v.oneCell' = true := Array.all_eq_true_iff_forall_mem.1 (by kernel_rfl)
theorem one5 (s : ByteArray) (a b c d : Bool) : ∀ v ∈ (#[.string s, .bool a, .bool b, .bool c, .bool d] : Array Value), v.oneCell' = true := by
  intro v hv
  simp at hv
  rcases hv with rfl | rfl | rfl | rfl | rfl <;> rfl
theorem c_of (k : Int) (w : World) :
    Calls Tryz.prog 140 #[.int .i64 k] w fun e w' => e = .returned (.tuple #[shV k, .bool (kk k)]) ∧ Below w.heap.size w w' := by
  have HB := Lib.hid ((Below.refl _ _).alloc (Nat.le_refl w.heap.size) (.cells #[.string ⟨#[]⟩, .bool false, .bool false, .bool false, .bool false] 205))
  have HX := Lib.hid (heap_alloc_new w (.cells #[.string ⟨#[]⟩, .bool false, .bool false, .bool false, .bool false] 205))
  go_enter Tryz.func140, Tryz.ntmps140
  go_upto_region 1 with (fail)
  generalize w.alloc (.cells #[.string ⟨#[]⟩, .bool false, .bool false, .bool false, .bool false] 205) = W1 at *
  go_upto_region 2 with (first
    | (refine Bx.wpL_store_all rfl rfl 229 (.tmp 4) (.tmp 13) rfl _ rfl tab rfl _ _ (heap_alloc_new W1 _) (by kernel_rfl) (by kernel_rfl) tab_one ?_
       intro w2 x2 g2
       have HX2 := Lib.hid ((g2.block _ (by simp; have := heap_lt HX.out; omega) (by have := heap_lt HX.out; simp; omega)).trans ((Below.heap_alloc W1 _ _ (heap_lt HX.out)).trans HX.out))
       have HB2 := Lib.hid ((bel_alloc HB.out HB.out.size _).grown g2 (size_alloc_le HB.out.size _) (by rintro j ⟨⟩; exact HB.out.size))
       have X2 := Lib.hid x2
       clear x2 g2)
    | fail)
  clear HB HX
  generalize Value.agg #[.string ⟨#[]⟩, .bool false, .bool false, .bool false, .bool false, .string ⟨#[103, 114, 101, 101, 116]⟩, .bool true, .bool false, .bool false, .bool false, .string ⟨#[100, 97, 116, 97]⟩, .bool false, .bool true, .bool true, .bool true, .string ⟨#[97, 99, 107]⟩, .bool false, .bool true, .bool false, .bool false, .string ⟨#[111, 118, 101, 114]⟩, .bool false, .bool true, .bool false, .bool false, .string ⟨#[114, 101, 116, 114, 121]⟩, .bool false, .bool true, .bool false, .bool false, .string ⟨#[101, 120, 116]⟩, .bool false, .bool false, .bool true, .bool true, .string ⟨#[104, 97, 118, 101]⟩, .bool false, .bool false, .bool true, .bool false, .string ⟨#[101, 110, 100]⟩, .bool false, .bool false, .bool false, .bool false] = U
  generalize W1.heap.size = g at *
  by_cases hk : k < 1 ∨ 8 < k
  · have hk1 : (decide (k < 1) || decide (9 ≤ k)) = true := by simp; omega
    have hs : shV k = .agg #[.string ⟨#[]⟩, .bool false, .bool false, .bool false, .bool false] ∧ kk k = false := by
      constructor
      · unfold shV nm kW kI kO kD
        rw [if_neg (by omega), if_neg (by omega), if_neg (by omega), if_neg (by omega), if_neg (by omega), if_neg (by omega), if_neg (by omega), if_neg (by omega), decide_eq_false (by omega), decide_eq_false (by omega), decide_eq_false (by omega), decide_eq_false (by omega)]
        rfl
      · exact decide_eq_false (by omega)
    have Hs := Lib.hid hs
    clear hs
    go_wp2_with (first
      | (refine Bx.wpL_store_all rfl rfl 205 (.tmp 2) (.tmp 20) rfl _ rfl _ rfl _ _ HX2.out (by kernel_rfl) rfl (one5 _ _ _ _ _) ?_
         intro w9 x9 g9
         have HR := Lib.hid x9
         have HBR := Lib.hid (HB2.out.grown g9 HB2.out.size (by rintro k ⟨⟩; exact Nat.le_refl _))
         clear x9 g9)
      | fail)
    all_goals first
      | (exfalso; omega)
      | skip
    all_goals
      refine bodyPost_ret (Bx.results_cell2 rfl _ _ w.heap.size _ _ (0, 0) _ rfl HR.out Tryz.underlying205 rfl (by kernel_rfl) _ rfl) rfl ?_
      exact ⟨by rw [Hs.out.1, Hs.out.2]; rfl, HBR.out⟩
  · have h8 : k = 1 ∨ k = 2 ∨ k = 3 ∨ k = 4 ∨ k = 5 ∨ k = 6 ∨ k = 7 ∨ k = 8 := by omega
    clear hk
    rcases h8 with rfl | rfl | rfl | rfl | rfl | rfl | rfl | rfl
    · obtain ⟨l0, l1, l2, l3, l4⟩ : w2.cell? ⟨g, 5, none⟩ = some (.string ⟨#[103, 114, 101, 101, 116]⟩) ∧ w2.cell? ⟨g, 6, none⟩ = some (.bool true) ∧ w2.cell? ⟨g, 7, none⟩ = some (.bool false) ∧ w2.cell? ⟨g, 8, none⟩ = some (.bool false) ∧ w2.cell? ⟨g, 9, none⟩ = some (.bool false) := by simp [World.cell?, X2.out, tab]
      go_wp2_with (first
        | (refine Bx.wpL_store_all rfl rfl 205 (.tmp 2) (.tmp 23) rfl _ rfl _ rfl _ _ HX2.out (by kernel_rfl) rfl (one5 _ _ _ _ _) ?_
           intro w9 x9 g9
           have HR := Lib.hid x9
           have HBR := Lib.hid (HB2.out.grown g9 HB2.out.size (by rintro k ⟨⟩; exact Nat.le_refl _))
           clear x9 g9)
        | fail)
      refine bodyPost_ret (Bx.results_cell2 rfl _ _ w.heap.size _ _ (0, 0) _ rfl HR.out Tryz.underlying205 rfl (by kernel_rfl) _ rfl) rfl ?_
      exact ⟨rfl, HBR.out⟩
    · obtain ⟨l0, l1, l2, l3, l4⟩ : w2.cell? ⟨g, 10, none⟩ = some (.string ⟨#[100, 97, 116, 97]⟩) ∧ w2.cell? ⟨g, 11, none⟩ = some (.bool false) ∧ w2.cell? ⟨g, 12, none⟩ = some (.bool true) ∧ w2.cell? ⟨g, 13, none⟩ = some (.bool true) ∧ w2.cell? ⟨g, 14, none⟩ = some (.bool true) := by simp [World.cell?, X2.out, tab]
      go_wp2_with (first
        | (refine Bx.wpL_store_all rfl rfl 205 (.tmp 2) (.tmp 23) rfl _ rfl _ rfl _ _ HX2.out (by kernel_rfl) rfl (one5 _ _ _ _ _) ?_
           intro w9 x9 g9
           have HR := Lib.hid x9
           have HBR := Lib.hid (HB2.out.grown g9 HB2.out.size (by rintro k ⟨⟩; exact Nat.le_refl _))
           clear x9 g9)
        | fail)
      refine bodyPost_ret (Bx.results_cell2 rfl _ _ w.heap.size _ _ (0, 0) _ rfl HR.out Tryz.underlying205 rfl (by kernel_rfl) _ rfl) rfl ?_
      exact ⟨rfl, HBR.out⟩
    · obtain ⟨l0, l1, l2, l3, l4⟩ : w2.cell? ⟨g, 15, none⟩ = some (.string ⟨#[97, 99, 107]⟩) ∧ w2.cell? ⟨g, 16, none⟩ = some (.bool false) ∧ w2.cell? ⟨g, 17, none⟩ = some (.bool true) ∧ w2.cell? ⟨g, 18, none⟩ = some (.bool false) ∧ w2.cell? ⟨g, 19, none⟩ = some (.bool false) := by simp [World.cell?, X2.out, tab]
      go_wp2_with (first
        | (refine Bx.wpL_store_all rfl rfl 205 (.tmp 2) (.tmp 23) rfl _ rfl _ rfl _ _ HX2.out (by kernel_rfl) rfl (one5 _ _ _ _ _) ?_
           intro w9 x9 g9
           have HR := Lib.hid x9
           have HBR := Lib.hid (HB2.out.grown g9 HB2.out.size (by rintro k ⟨⟩; exact Nat.le_refl _))
           clear x9 g9)
        | fail)
      refine bodyPost_ret (Bx.results_cell2 rfl _ _ w.heap.size _ _ (0, 0) _ rfl HR.out Tryz.underlying205 rfl (by kernel_rfl) _ rfl) rfl ?_
      exact ⟨rfl, HBR.out⟩
    · obtain ⟨l0, l1, l2, l3, l4⟩ : w2.cell? ⟨g, 20, none⟩ = some (.string ⟨#[111, 118, 101, 114]⟩) ∧ w2.cell? ⟨g, 21, none⟩ = some (.bool false) ∧ w2.cell? ⟨g, 22, none⟩ = some (.bool true) ∧ w2.cell? ⟨g, 23, none⟩ = some (.bool false) ∧ w2.cell? ⟨g, 24, none⟩ = some (.bool false) := by simp [World.cell?, X2.out, tab]
      go_wp2_with (first
        | (refine Bx.wpL_store_all rfl rfl 205 (.tmp 2) (.tmp 23) rfl _ rfl _ rfl _ _ HX2.out (by kernel_rfl) rfl (one5 _ _ _ _ _) ?_
           intro w9 x9 g9
           have HR := Lib.hid x9
           have HBR := Lib.hid (HB2.out.grown g9 HB2.out.size (by rintro k ⟨⟩; exact Nat.le_refl _))
           clear x9 g9)
        | fail)
      refine bodyPost_ret (Bx.results_cell2 rfl _ _ w.heap.size _ _ (0, 0) _ rfl HR.out Tryz.underlying205 rfl (by kernel_rfl) _ rfl) rfl ?_
      exact ⟨rfl, HBR.out⟩
    · obtain ⟨l0, l1, l2, l3, l4⟩ : w2.cell? ⟨g, 25, none⟩ = some (.string ⟨#[114, 101, 116, 114, 121]⟩) ∧ w2.cell? ⟨g, 26, none⟩ = some (.bool false) ∧ w2.cell? ⟨g, 27, none⟩ = some (.bool true) ∧ w2.cell? ⟨g, 28, none⟩ = some (.bool false) ∧ w2.cell? ⟨g, 29, none⟩ = some (.bool false) := by simp [World.cell?, X2.out, tab]
      go_wp2_with (first
        | (refine Bx.wpL_store_all rfl rfl 205 (.tmp 2) (.tmp 23) rfl _ rfl _ rfl _ _ HX2.out (by kernel_rfl) rfl (one5 _ _ _ _ _) ?_
           intro w9 x9 g9
           have HR := Lib.hid x9
           have HBR := Lib.hid (HB2.out.grown g9 HB2.out.size (by rintro k ⟨⟩; exact Nat.le_refl _))
           clear x9 g9)
        | fail)
      refine bodyPost_ret (Bx.results_cell2 rfl _ _ w.heap.size _ _ (0, 0) _ rfl HR.out Tryz.underlying205 rfl (by kernel_rfl) _ rfl) rfl ?_
      exact ⟨rfl, HBR.out⟩
    · obtain ⟨l0, l1, l2, l3, l4⟩ : w2.cell? ⟨g, 30, none⟩ = some (.string ⟨#[101, 120, 116]⟩) ∧ w2.cell? ⟨g, 31, none⟩ = some (.bool false) ∧ w2.cell? ⟨g, 32, none⟩ = some (.bool false) ∧ w2.cell? ⟨g, 33, none⟩ = some (.bool true) ∧ w2.cell? ⟨g, 34, none⟩ = some (.bool true) := by simp [World.cell?, X2.out, tab]
      go_wp2_with (first
        | (refine Bx.wpL_store_all rfl rfl 205 (.tmp 2) (.tmp 23) rfl _ rfl _ rfl _ _ HX2.out (by kernel_rfl) rfl (one5 _ _ _ _ _) ?_
           intro w9 x9 g9
           have HR := Lib.hid x9
           have HBR := Lib.hid (HB2.out.grown g9 HB2.out.size (by rintro k ⟨⟩; exact Nat.le_refl _))
           clear x9 g9)
        | fail)
      refine bodyPost_ret (Bx.results_cell2 rfl _ _ w.heap.size _ _ (0, 0) _ rfl HR.out Tryz.underlying205 rfl (by kernel_rfl) _ rfl) rfl ?_
      exact ⟨rfl, HBR.out⟩
    · obtain ⟨l0, l1, l2, l3, l4⟩ : w2.cell? ⟨g, 35, none⟩ = some (.string ⟨#[104, 97, 118, 101]⟩) ∧ w2.cell? ⟨g, 36, none⟩ = some (.bool false) ∧ w2.cell? ⟨g, 37, none⟩ = some (.bool false) ∧ w2.cell? ⟨g, 38, none⟩ = some (.bool true) ∧ w2.cell? ⟨g, 39, none⟩ = some (.bool false) := by simp [World.cell?, X2.out, tab]
      go_wp2_with (first
        | (refine Bx.wpL_store_all rfl rfl 205 (.tmp 2) (.tmp 23) rfl _ rfl _ rfl _ _ HX2.out (by kernel_rfl) rfl (one5 _ _ _ _ _) ?_
           intro w9 x9 g9
           have HR := Lib.hid x9
           have HBR := Lib.hid (HB2.out.grown g9 HB2.out.size (by rintro k ⟨⟩; exact Nat.le_refl _))
           clear x9 g9)
        | fail)
      refine bodyPost_ret (Bx.results_cell2 rfl _ _ w.heap.size _ _ (0, 0) _ rfl HR.out Tryz.underlying205 rfl (by kernel_rfl) _ rfl) rfl ?_
      exact ⟨rfl, HBR.out⟩
    · obtain ⟨l0, l1, l2, l3, l4⟩ : w2.cell? ⟨g, 40, none⟩ = some (.string ⟨#[101, 110, 100]⟩) ∧ w2.cell? ⟨g, 41, none⟩ = some (.bool false) ∧ w2.cell? ⟨g, 42, none⟩ = some (.bool false) ∧ w2.cell? ⟨g, 43, none⟩ = some (.bool false) ∧ w2.cell? ⟨g, 44, none⟩ = some (.bool false) := by simp [World.cell?, X2.out, tab]
      go_wp2_with (first
        | (refine Bx.wpL_store_all rfl rfl 205 (.tmp 2) (.tmp 23) rfl _ rfl _ rfl _ _ HX2.out (by kernel_rfl) rfl (one5 _ _ _ _ _) ?_
           intro w9 x9 g9
           have HR := Lib.hid x9
           have HBR := Lib.hid (HB2.out.grown g9 HB2.out.size (by rintro k ⟨⟩; exact Nat.le_refl _))
           clear x9 g9)
        | fail)
      refine bodyPost_ret (Bx.results_cell2 rfl _ _ w.heap.size _ _ (0, 0) _ rfl HR.out Tryz.underlying205 rfl (by kernel_rfl) _ rfl) rfl ?_
      exact ⟨rfl, HBR.out⟩
end Go.Proofs.YtaldlapnhhhclaaGreat.Pack
/- Contracts of the package pack: bare, sectors, Good of both. Conditions: none. -/
namespace Go.Proofs.YtaldlapnhhhclaaGreat.Pack
open Go.RowKit Tw
set_option maxHeartbeats 8000000
set_option maxRecDepth 100000
theorem cells5 {w : World} {g : Nat} {t : TypeId} {v0 v1 v2 v3 v4 : Value} (h : w.heap[g]? = some (.cells #[v0, v1, v2, v3, v4] t (0, 0))) :
    w.cell? ⟨g, 0, none⟩ = some v0 ∧ w.cell? ⟨g, 1, none⟩ = some v1 ∧ w.cell? ⟨g, 2, none⟩ = some v2 ∧ w.cell? ⟨g, 3, none⟩ = some v3 ∧ w.cell? ⟨g, 4, none⟩ = some v4 := by
  simp [World.cell?, h]
def Bare (a b c d : Bool) (i o : Int) (m : Nat) (wb : Bool) (n : Nat) : Prop := (a = true ∨ wb = false ∧ m = 0) ∧ (b = true ∨ i = 0) ∧ (c = true ∨ o = 0) ∧ (d = true ∨ n = 0)
instance (a b c d : Bool) (i o : Int) (m : Nat) (wb : Bool) (n : Nat) : Decidable (Bare a b c d i o m wb n) := by unfold Bare; infer_instance
theorem c_bare (s : ByteArray) (a b c d : Bool) (k i o : Int) (m : Nat) (wb : Bool) (A : Option Addr) (n cp : Nat) (w : World) :
    Calls Tryz.prog 141 #[.agg #[.string s, .bool a, .bool b, .bool c, .bool d], .agg #[.int .i64 k, .int .i64 i, .int .i64 o, .int .u64 (m : Int), .bool wb, .slice A n cp]] w fun e w' => e = .returned (.bool (decide (Bare a b c d i o m wb n))) ∧ Below w.heap.size w w' := by
  obtain ⟨W2, hW2, x1, x2, hB⟩ := Bx.two_boxes w (.cells #[.string s, .bool a, .bool b, .bool c, .bool d] 205) (.cells #[.int .i64 k, .int .i64 i, .int .i64 o, .int .u64 (m : Int), .bool wb, .slice A n cp] 25)
  have HB := Lib.hid hB
  obtain ⟨M, hM⟩ : ∃ M : Int, (m : Int) = M := ⟨_, rfl⟩
  obtain ⟨l0, l1, l2, l3, l4⟩ := cells5 x1
  obtain ⟨k0, k1, k2, k3, k4, k5⟩ := Bx.cells6 x2
  rw [hM] at k3
  have HM := Lib.hid hM
  clear x1 x2 hB hM
  go_enter Tryz.func141, Tryz.ntmps141
  go_upto_block 0 with (fail)
  rw [← hW2]
  clear hW2
  rw [HM.out]
  go_wp2_with fail
  all_goals
    go_ret
    refine ⟨Span.ret_bool rfl ?_, HB.out⟩
    rw [Bool.eq_iff_iff]
    have hM := HM.out
    clear k0 k1 k2 k3 k4 k5 l0 l1 l2 l3 l4 HB HM
    simp only [decide_eq_true_eq, Bool.false_eq_true, Bool.true_eq_false, true_iff, false_iff]
    (try simp only [beq_iff_eq, bne_iff_ne, beq_eq_false_iff_ne, bne_eq_false_iff_eq, Bool.not_eq_true, Bool.not_eq_false, Bool.not_eq_true', Bool.not_eq_false', Bool.or_eq_true, Bool.and_eq_true, Bool.or_eq_false_iff, Bool.and_eq_false_iff] at *)
    unfold Bare
    first
      | (simp_all; done)
      | (simp_all; omega)
end Go.Proofs.YtaldlapnhhhclaaGreat.Pack
/- Contracts of the package pack: Good of both. Conditions: none. -/
namespace Go.Proofs.YtaldlapnhhhclaaGreat.Pack
open Go.RowKit Tw
set_option maxHeartbeats 8000000
set_option maxRecDepth 100000
theorem c_sectors (A : Option Addr) (n c : Nat) (w : World) : Calls Tryz.prog 142 #[.slice A n c] w fun e w' => e = .returned (.bool (decide (0 < n ∧ n % 16 = 0 ∧ n ≤ 128))) ∧ w = w' := by
  go_enter Tryz.func142, Tryz.ntmps142
  go_wp2_with fail
  all_goals
    go_ret
    refine ⟨Span.ret_bool rfl ?_, rfl⟩
    rw [Bool.eq_iff_iff]
    simp only [decide_eq_true_eq, Bool.false_eq_true, Bool.true_eq_false, Bool.and_eq_true, true_iff, false_iff]
    (try simp only [beq_iff_eq, bne_iff_ne, beq_eq_false_iff_ne, bne_eq_false_iff_eq, Bool.not_eq_true, Bool.not_eq_false] at *)
    omega
def Good (k i o : Int) (m : Nat) (wb : Bool) (n : Nat) : Prop :=
  (1 ≤ k ∧ k ≤ 8) ∧ (k = 1 ∨ wb = false ∧ m = 0) ∧ ((2 ≤ k ∧ k ≤ 5 ∧ 1 ≤ i ∧ i ≤ 72057594037927935) ∨ (¬(2 ≤ k ∧ k ≤ 5) ∧ i = 0)) ∧ (0 ≤ o ∧ (k = 2 ∧ o ≤ 255 ∨ (k = 6 ∨ k = 7) ∧ o ≤ 63 ∨ o = 0)) ∧
  (k = 2 ∧ n % 16 = 0 ∧ 16 ≤ n ∧ n ≤ 128 ∨ k = 6 ∧ n = 64 ∨ k ≠ 2 ∧ k ≠ 6 ∧ n = 0)
instance (k i o : Int) (m : Nat) (wb : Bool) (n : Nat) : Decidable (Good k i o m wb n) := by unfold Good; infer_instance
theorem c_ofV (k : Int) (w : World) :
    Calls Tryz.prog 140 #[.int .i64 k] w fun e w' => e = .returned (.tuple #[.agg #[.string (nm k), .bool (kW k), .bool (kI k), .bool (kO k), .bool (kD k)], .bool (kk k)]) ∧ Below w.heap.size w w' := c_of k w
theorem c_Good (k i o : Int) (m : Nat) (wb : Bool) (A : Option Addr) (n cp : Nat) (w : World) :
    Calls Tryz.prog 85 #[.agg #[.int .i64 k, .int .i64 i, .int .i64 o, .int .u64 (m : Int), .bool wb, .slice A n cp]] w fun e w' => e = .returned (.bool (decide (Good k i o m wb n))) ∧ Below w.heap.size w w' := by
  have HB := Lib.hid ((Below.refl _ _).alloc (Nat.le_refl w.heap.size) (.cells #[.int .i64 k, .int .i64 i, .int .i64 o, .int .u64 (m : Int), .bool wb, .slice A n cp] 25))
  have HX := Lib.hid (heap_alloc_new w (.cells #[.int .i64 k, .int .i64 i, .int .i64 o, .int .u64 (m : Int), .bool wb, .slice A n cp] 25))
  have hof := fun w => c_ofV k w
  have hba := fun s a b c d w => c_bare s a b c d k i o m wb A n cp w
  obtain ⟨s, hs⟩ : ∃ s, nm k = s := ⟨_, rfl⟩
  obtain ⟨a, ha⟩ : ∃ s, kW k = s := ⟨_, rfl⟩
  obtain ⟨b, hb⟩ : ∃ s, kI k = s := ⟨_, rfl⟩
  obtain ⟨c, hc⟩ : ∃ s, kO k = s := ⟨_, rfl⟩
  obtain ⟨d, hd⟩ : ∃ s, kD k = s := ⟨_, rfl⟩
  obtain ⟨q, hq⟩ : ∃ s, kk k = s := ⟨_, rfl⟩
  rw [hs, ha, hb, hc, hd, hq] at hof
  replace hba := fun w => hba s a b c d w
  obtain ⟨r, hr⟩ : ∃ r, decide (Bare a b c d i o m wb n) = r := ⟨_, rfl⟩
  rw [hr] at hba
  have Ha := Lib.hid ha
  have Hb := Lib.hid hb
  have Hc := Lib.hid hc
  have Hd := Lib.hid hd
  have Hq := Lib.hid hq
  have Hr := Lib.hid hr
  clear ha hb hc hd hq hr hs
  obtain ⟨M, hM⟩ : ∃ M : Int, (m : Int) = M := ⟨_, rfl⟩
  rw [hM] at HB HX hba
  have HM := Lib.hid hM
  obtain ⟨k0, k1, k2, k3, k4, k5⟩ := Bx.cells6 HX.out
  clear hM
  go_enter Tryz.func85, Tryz.ntmps85
  go_upto_region 1 with (fail)
  rw [HM.out]
  generalize w.alloc (.cells #[.int .i64 k, .int .i64 i, .int .i64 o, .int .u64 M, .bool wb, .slice A n cp] 25) = W1 at *
  go_upto_region 2 with (first
    | (go_at_call 140
       (with_reducible refine (hof _).mono ?_)
       rintro e w1 ⟨rfl, hb1⟩
       have LB := Lib.hid (HB.out.trans (hb1.mono HB.out.size))
       have LX := Lib.hid ((hb1.block _ (heap_lt HX.out)).trans HX.out)
       clear hb1 hof)
    | (refine Bx.wpL_store_all rfl rfl 205 (.tmp 3) (.tmp 9) rfl _ rfl _ rfl _ _ (heap_alloc_new w1 _) (by kernel_rfl) rfl (one5 _ _ _ _ _) ?_
       intro w4 x4 g4
       have F4 : Fr (fun k => k = w1.heap.size) w1 w4 := (Fr.alloc _).trans (Fr.grown (S := fun k => k = w1.heap.size) g4 (by rintro k ⟨⟩; rfl)) (fun _ _ h => h)
       have bel4 : Below w1.heap.size w1 w4 := F4.bel (fun k e => by omega) (Nat.le_refl _)
       have NX := Lib.hid ((bel4.block _ (heap_lt LX.out)).trans LX.out)
       have NX4 := Lib.hid x4
       have NB := Lib.hid (LB.out.trans (bel4.mono LB.out.size))
       clear x4 g4 F4 bel4 k0 k1 k2 k3 k4 k5
       obtain ⟨k0, k1, k2, k3, k4, k5⟩ := Bx.cells6 NX.out
       obtain ⟨l0, l1, l2, l3, l4⟩ := cells5 NX4.out)
    | fail)
  go_wp2_with (first
    | (go_at_call 141
       (with_reducible refine (hba _).mono ?_)
       rintro e w5 ⟨rfl, hb5⟩
       have OB := Lib.hid (NB.out.trans (hb5.mono NB.out.size))
       have OX := (hb5.block _ (heap_lt NX.out)).trans NX.out
       have OX4 := (hb5.block _ (heap_lt NX4.out)).trans NX4.out
       clear hb5 k0 k1 k2 k3 k4 k5 l0 l1 l2 l3 l4 hba
       obtain ⟨k0, k1, k2, k3, k4, k5⟩ := Bx.cells6 OX
       obtain ⟨l0, l1, l2, l3, l4⟩ := cells5 OX4
       clear OX OX4)
    | (go_at_call 142
       (with_reducible refine (c_sectors A n cp _).mono ?_)
       rintro e w6 ⟨rfl, rfl⟩))
  all_goals
    go_ret
    refine ⟨Span.ret_bool rfl ?_, by first | exact OB.out | exact NB.out⟩
    rw [Bool.eq_iff_iff]
    have h1 := Ha.out
    have h2 := Hb.out
    have h3 := Hc.out
    have h4 := Hd.out
    have h5 := Hq.out
    have h6 := Hr.out
    have h7 := HM.out
    clear Ha Hb Hc Hd Hq Hr HM
    subst h1 h2 h3 h4 h5 h6 h7
    clear HX HB k0 k1 k2 k3 k4 k5 l0 l1 l2 l3 l4
    (try simp only [kW, kI, kO, kD, kk, decide_eq_true_eq, Bool.false_eq_true, Bool.true_eq_false, true_iff, false_iff, Bool.and_eq_true, beq_iff_eq, bne_iff_ne, beq_eq_false_iff_ne, bne_eq_false_iff_eq, Bool.not_eq_true, Bool.not_eq_false, Bool.not_eq_true', Bool.not_eq_false', decide_eq_false_iff_not] at *)
    unfold Good
    (try unfold Bare at *)
    cases wb
    all_goals
      simp only [Bool.false_eq_true, Bool.true_eq_false, true_and, false_and, and_true, and_false, or_false, false_or, or_true, true_or, decide_eq_true_eq, decide_eq_false_iff_not] at *
      omega
end Go.Proofs.YtaldlapnhhhclaaGreat.Pack
/- A statement inside a round, walked as outside: from the plain calculus to the one of the wide fence, in a round or not. Conditions: no operation is a defer statement. -/
namespace Go.Proofs.YtaldlapnhhhclaaGreat.Tw
open Go.RowKit

section
variable {P : Program} {ops : Array Oper} {Q : Exit → Act → World → Prop} {n l : Nat}
def noDefer (o : Oper) : Bool := match o.op with | .defer _ => false | _ => true
theorem noDefer_spec {o : Oper} (h : noDefer o = true) : ∀ c, o.op ≠ .defer c := fun c e => by
  unfold noDefer at h
  rw [e] at h
  cases h
theorem oper_in {o : Oper} {a : Act} {w : World} {K : Act → World → Prop} (hd : noDefer o = true) (h : o.wp P a w K Q) : o.wpIn (Fence.wide.inRound l) n P a w K Q := by
  unfold Oper.wpIn
  refine ⟨fun _ _ => trivial, ?_⟩
  rw [Oper.semAt_plain _ _ _ (noDefer_spec hd)]
  unfold Oper.wp at h
  generalize (execOp a.eval o).run P w = r at *
  cases r with
  | ok x w' =>
    cases x <;> simp only [Oper.upon, Oper.uponIn] at h ⊢
    case value v => exact h
    case skip => exact h
    case defer d => exact h
    case enter f args => exact ⟨(fun e => by cases e), CallsIn.inRound l (callsIn_wide.2 h)⟩
    case row row args =>
      refine ⟨(fun e => by cases e), fun c cs _ => ?_⟩
      obtain ⟨v, w', r, s⟩ := h c cs
      exact ⟨v, w', r, stepsIn_wide.2 s⟩
  | halt x w' => cases x <;> simp only [Oper.upon, Oper.uponIn] at h ⊢ <;> exact h
theorem list_in (hL : ¬ LetsOut Q) : ∀ (os : List Oper) (a : Act) (w : World), os.all noDefer = true → wpList P ops Q os a w → wpListIn (Fence.wide.inRound l) n P ops Q os a w
  | [], _, _, _, h => h
  | o :: rest, a, w, hd, h => by
    simp only [List.all_cons, Bool.and_eq_true] at hd
    unfold wpListIn
    unfold wpList at h
    split
    · rename_i hw
      rw [if_pos hw] at h
      rcases h with h | h
      · exact Oper.wpIn_mono (fun a w hk => list_in hL rest a w hd.2 hk) (oper_in hd.1 h)
      · exact (hL h.2).elim
    · rename_i hw
      rw [if_neg hw] at h
      exact ⟨fun _ _ => trivial, list_in hL rest _ w hd.2 h⟩
/-- a statement of one order -/
theorem region_in {id : Nat} {a : Act} {w : World} (hd : ops.toList.all noDefer = true) (hL : ¬ LetsOut Q) (h : wpList P ops Q ops.toList a w) : (Code.region id ops false).wpIn (Fence.wide.inRound l) n P Q a w :=
  wpIn_region_list (list_in hL _ a w hd h)
theorem oper_inW {o : Oper} {a : Act} {w : World} {K : Act → World → Prop} (hd : noDefer o = true) (h : o.wp P a w K Q) : o.wpIn Fence.wide n P a w K Q := by
  unfold Oper.wpIn
  refine ⟨fun _ _ => trivial, ?_⟩
  rw [Oper.semAt_plain _ _ _ (noDefer_spec hd)]
  unfold Oper.wp at h
  generalize (execOp a.eval o).run P w = r at *
  cases r with
  | ok x w' =>
    cases x <;> simp only [Oper.upon, Oper.uponIn] at h ⊢
    case value v => exact h
    case skip => exact h
    case defer d => exact h
    case enter f args => exact ⟨(fun e => by cases e), callsIn_wide.2 h⟩
    case row row args =>
      refine ⟨(fun e => by cases e), fun c cs _ => ?_⟩
      obtain ⟨v, w', r, s⟩ := h c cs
      exact ⟨v, w', r, stepsIn_wide.2 s⟩
  | halt x w' => cases x <;> simp only [Oper.upon, Oper.uponIn] at h ⊢ <;> exact h
theorem list_inW (hL : ¬ LetsOut Q) : ∀ (os : List Oper) (a : Act) (w : World), os.all noDefer = true → wpList P ops Q os a w → wpListIn Fence.wide n P ops Q os a w
  | [], _, _, _, h => h
  | o :: rest, a, w, hd, h => by
    simp only [List.all_cons, Bool.and_eq_true] at hd
    unfold wpListIn
    unfold wpList at h
    split
    · rename_i hw
      rw [if_pos hw] at h
      rcases h with h | h
      · exact Oper.wpIn_mono (fun a w hk => list_inW hL rest a w hd.2 hk) (oper_inW hd.1 h)
      · exact (hL h.2).elim
    · rename_i hw
      rw [if_neg hw] at h
      exact ⟨fun _ _ => trivial, list_inW hL rest _ w hd.2 h⟩
/-- a statement of one order, outside a round -/
theorem region_inW {id : Nat} {a : Act} {w : World} (hd : ops.toList.all noDefer = true) (hL : ¬ LetsOut Q) (h : wpList P ops Q ops.toList a w) : (Code.region id ops false).wpIn Fence.wide n P Q a w :=
  wpIn_region_list (list_inW hL _ a w hd h)
theorem any_in (hL : ¬ LetsOut Q) (hd : ∀ (i : Nat) (o : Oper), ops[i]? = some o → noDefer o = true) : ∀ (fuel : Nat) (listed : Array Bool) (a : Act) (w : World), wpAny P .any ops Q fuel listed a w → wpAnyIn (Fence.wide.inRound l) n P .any ops Q fuel listed a w
  | 0, _, _, _, h => h
  | fuel + 1, listed, a, w, h => by
    refine ⟨h.1, fun i hi => ?_⟩
    have h2 := h.2 i hi
    unfold wpOpIn
    unfold wpOp at h2
    cases ho : ops[i]? with
    | none =>
      simp only [ho] at h2
      exact any_in hL hd fuel _ a w h2
    | some o =>
      simp only [ho] at h2
      simp only
      split
      · rename_i hw
        rw [if_pos hw] at h2
        rcases h2 with h2 | h2
        · exact Oper.wpIn_mono (fun a w hk => any_in hL hd fuel _ a w hk) (oper_in (hd i o ho) h2)
        · exact (hL h2.2).elim
      · rename_i hw
        rw [if_neg hw] at h2
        exact ⟨fun _ _ => trivial, any_in hL hd fuel _ _ w h2⟩
theorem wpIn_region_phi {id : Nat} {a0 : Act} {w : World} (hL : ¬ LetsOut Q) (hd : ops.toList.all noDefer = true) (hm : P.follows .mixedOrders = true) (N : Nat) (row : Option Nat) (kind : Nat → Bool) (Φ : Nat → Value → World → Prop)
    (hchk : chkR ops N a0.tmps.size = true)
    (hstab : ∀ i, i < N → ∀ v w w', Φ i v w → w.grownBy w' (kindRow row (!clsB ops N kind i)) → Φ i v w')
    (h1 : ∀ i, i < N → ∀ a w', RFacts ops N a0 w.drew (kindRow row (!preB ops N kind i)) a w' → (∀ j, depB ops i j = true → Φ j (slotV ops a j) w') →
      wpOp P ops Q i (fun a' w2 => ∃ v, a' = a.put (dstOf ops i) v ∧ Φ i v w2 ∧ w'.grownBy w2 (kindRow row (kind i))) a w')
    (h2 : ∀ a w', RFacts ops N a0 w.drew row a w' → (∀ i, i < N → Φ i (slotV ops a i) w') → wpList P ops Q (ops.toList.drop N) a w') :
    (Code.region id ops true).wpIn (Fence.wide.inRound l) n P Q a0 w :=
  wpIn_region_any hm (any_in hL (fun i o ho => List.all_eq_true.1 hd o (by rw [Array.getElem?_eq_some_iff] at ho; obtain ⟨h, rfl⟩ := ho; simp)) _ _ _ _ (wpAny_phi N row kind Φ hchk hstab h1 h2))
end
end Go.Proofs.YtaldlapnhhhclaaGreat.Tw
/- Contracts of the package data: Sectors, check; its iterator, inside a fence. Conditions: none. -/
namespace Go.Proofs.YtaldlapnhhhclaaGreat.Data
open Go.RowKit Tw Disk
set_option maxHeartbeats 2000000
set_option maxRecDepth 100000

/-- how many sectors the area has -/
def secs (d : Dsk) : Int := max ((d.cells.length : Int) - 8) 0
theorem ret_int {k : IntKind} {a b : Int} (h : a = b) : Ending.returned (.int k a) = .returned (.int k b) := by rw [h]
section
variable {w : World} {p g mb c : Nat} {d : Dsk}
theorem c_Sectors (h : Dk w p g mb c d) : Calls Tryz.prog 73 #[.pointer (some ⟨p, 0, none⟩)] w fun e w' => e = .returned (.int .i64 (secs d)) ∧ w = w' := by
  have hn := h.ok.n
  have H := Lib.hid h
  clear h
  go_enter Tryz.func73, Tryz.ntmps73
  go_wp2_with (first
    | (go_at_call 131
       (with_reducible refine (c_Size H.out).mono ?_)
       rintro e w' ⟨rfl, rfl⟩))
  all_goals
    go_ret
    refine ⟨ret_int ?_, rfl⟩
    unfold secs
    omega
theorem c_Sectors_nil (w : World) : Calls Tryz.prog 73 #[.pointer none] w fun e w' => e = .returned (.int .i64 0) ∧ w = w' := by
  go_enter Tryz.func73, Tryz.ntmps73
  go_wp2_with (first
    | (go_at_call 131
       (with_reducible refine (c_Size_nil _).mono ?_)
       rintro e w' ⟨rfl, rfl⟩))
  go_ret
  exact ⟨rfl, rfl⟩
theorem c_check (h : Dk w p g mb c d) (x y : Int) : Calls Tryz.prog 126 #[.pointer (some ⟨p, 0, none⟩), .agg #[.int .i64 x, .int .i64 y]] w fun e w' => e = .returned (.int .i64 (if Span.Good x y (secs d) then 0 else 13)) ∧ Below w.heap.size w w' := by
  have HB := Lib.hid ((Below.refl _ _).alloc (Nat.le_refl w.heap.size) (.cells #[.int .i64 x, .int .i64 y] 144))
  have HX := Lib.hid (heap_alloc_new w (.cells #[.int .i64 x, .int .i64 y] 144))
  have H := Lib.hid (h.bel HB.out)
  clear h
  obtain ⟨b, hb⟩ : ∃ b, decide (Span.Good x y (secs d)) = b := ⟨_, rfl⟩
  have Hb := Lib.hid hb
  clear hb
  go_enter Tryz.func126, Tryz.ntmps126
  go_wp2_with (first
    | (go_at_call 62
       (with_reducible refine (c_Made H.out).mono ?_)
       rintro e w' ⟨rfl, rfl⟩))
  generalize (w.alloc (.cells #[.int .i64 x, .int .i64 y] 144)) = W1 at *
  refine wp_region_phi (by kernel_rfl) 4 none (fun _ => false) (fun i_ v wz => match i_ with
    | 0 => v = .agg #[.int .i64 x, .int .i64 y]
    | 1 => v = .pointer (some ⟨p, 0, none⟩)
    | 2 => v = .int .i64 (secs d)
    | 3 => v = .bool b
    | _ => True) (by kernel_rfl) ?_ ?_ ?_
  · (repeat' (first | exact allLt_zero | refine allLt_succ ?_ ?_))
    · exact fun _ _ _ h _ => h
    · exact fun _ _ _ h _ => h
    · exact fun _ _ _ h _ => h
    · exact fun _ _ _ h _ => h
  · (repeat' (first | exact allLt_zero | refine allLt_succ ?_ ?_))
    · intro a w' hf he
      have k3 : a.tmps.getD 3 undef = .pointer (some ⟨w.heap.size, 0, none⟩) := hf.var (by kernel_rfl) rfl
      rw [show kindRow _ _ = none from by kernel_rfl] at hf
      refine wpOp_step rfl (fun K hK => ?_)
      refine wp_load_rd 144 (.tmp 3) rfl ⟨w.heap.size, 0, none⟩ k3 [.int .i64 x, .int .i64 y] _ ((rd_of_heap (n := 2) ((hf.bel.block _ (heap_lt HX.out)).trans HX.out) rfl (by simp [maxLen])).cell _ rfl) Tryz.underlying144 rfl (by kernel_rfl) ?_
      exact hK _ _ ⟨_, rfl, rfl, World.grownBy.refl _ _⟩
    · intro a w' hf he
      have k0 : a.tmps.getD 0 undef = .pointer (some ⟨p, 0, none⟩) := hf.var (by kernel_rfl) rfl
      refine wpOp_step rfl (fun K hK => ?_)
      go_simp
      exact hK _ _ ⟨_, rfl, rfl, World.grownBy.refl _ _⟩
    · intro a w' hf he
      have f1 : a.tmps.getD 11 undef = .pointer (some ⟨p, 0, none⟩) := he 1 (by kernel_rfl)
      rw [show kindRow _ _ = none from by kernel_rfl] at hf
      refine wpOp_step rfl (fun K hK => ?_)
      go_simp
      refine (c_Sectors (H.out.bel hf.bel)).mono ?_
      rintro e w2 ⟨rfl, rfl⟩
      exact hK _ _ ⟨_, rfl, rfl, World.grownBy.refl _ _⟩
    · intro a w' hf he
      have f0 : a.tmps.getD 10 undef = .agg #[.int .i64 x, .int .i64 y] := he 0 (by kernel_rfl)
      have f2 : a.tmps.getD 12 undef = .int .i64 (secs d) := he 2 (by kernel_rfl)
      rw [show kindRow _ _ = none from by kernel_rfl] at hf
      refine wpOp_step rfl (fun K hK => ?_)
      go_simp
      refine (Span.c_Good x y (secs d) _).mono ?_
      rintro e w2 ⟨rfl, hb2⟩
      rw [Hb.out]
      exact hK _ _ ⟨_, rfl, rfl, grown_bel hb2⟩
  · intro a w' hf he
    obtain ⟨u10, f0⟩ : ∃ u, a.tmps.getD 10 undef = u := ⟨_, rfl⟩
    obtain ⟨u11, f1⟩ : ∃ u, a.tmps.getD 11 undef = u := ⟨_, rfl⟩
    obtain ⟨u12, f2⟩ : ∃ u, a.tmps.getD 12 undef = u := ⟨_, rfl⟩
    have f3 : a.tmps.getD 13 undef = .bool b := he 3 (by decide)
    have hlit := hf.lit ((10, u10) :: (11, u11) :: (12, u12) :: (13, .bool b) :: []) (by kernel_rfl) ⟨f0, f1, f2, f3, trivial⟩
    have hB := hf.bel
    clear he hf f0 f1 f2 f3 
    subst hlit
    simp only [putAll_nil, putAll_cons, Act.put, List.setIfInBounds_toArray, List.set_cons_zero, List.set_cons_succ]
    simp only [List.drop_succ_cons, List.drop_zero]
    have hB2 : Below w.heap.size w w' := HB.out.trans (hB.mono HB.out.size)
    have HB2 := Lib.hid hB2
    clear hB hB2
    cases b with
    | true =>
      have hg := of_decide_eq_true Hb.out
      have Hg := Lib.hid hg
      clear hg
      go_wp2_with fail
      go_ret
      exact ⟨rfl, HB2.out⟩
    | false =>
      have hg := of_decide_eq_false Hb.out
      have Hg := Lib.hid hg
      clear hg
      go_wp2_with fail
      go_ret
      exact ⟨rfl, HB2.out⟩
end
theorem c_check_nil (v : Value) (x y : Int) (w : World) : Calls Tryz.prog 126 #[.pointer none, .agg #[.int .i64 x, .int .i64 y]] w fun e w' => e = .returned (.int .i64 1) ∧ Below w.heap.size w w' := by
  have HB := Lib.hid ((Below.refl _ _).alloc (Nat.le_refl w.heap.size) (.cells #[.int .i64 x, .int .i64 y] 144))
  go_enter Tryz.func126, Tryz.ntmps126
  go_wp2_with (first
    | (go_at_call 62
       (with_reducible refine (c_Made_nil _).mono ?_)
       rintro e w' ⟨rfl, rfl⟩))
  go_ret
  exact ⟨rfl, HB.out⟩

section
open Go.Shelf
attribute [local go_sem] Oper.semAt_some
/-- what a round keeps: the span that the iterator reads -/
def KpS (Bs : Nat) (W W' : World) : Prop := W'.heap[Bs]? = W.heap[Bs]?
theorem kpS_t {Bs : Nat} {A B C : World} (h : KpS Bs A B) (k : KpS Bs B C) : KpS Bs A C := Eq.trans k h
theorem kpS_b {Bs : Nat} {w : World} (h1 : Bs < w.heap.size) (W : World) (l : Nat) (o o' : Obj) (hl : w.heap.size ≤ l) (_ : W.heap[l]? = some o) (_ : o.isCells = false) (_ : o.isWalk = false) : KpS Bs W (W.putObj l o') := World.putObj_heap_other (by omega)
abbrev Ix (L : Nat) := Fin L
def encI (o : Nat) {L : Nat} (i : Ix L) : Array Value := #[.int .i64 (8 + (o : Int) + (i.val : Int)), .int .i64 ((i.val : Int) * 16)]
def firsts (L k : Nat) : List (Ix L) := (List.finRange L).take k
theorem firsts_len {L k : Nat} (h : k ≤ L) : (firsts L k).length = k := by simp [firsts]; omega
theorem firsts_next {L k : Nat} (h : k < L) : firsts L (k + 1) = firsts L k ++ [⟨k, h⟩] := by
  unfold firsts
  rw [List.take_succ_eq_append_getElem (by simpa using h)]
  simp
theorem firsts_all (L : Nat) : firsts L L = List.finRange L := List.take_of_length_le (by simp)
theorem each1_in (F : Fence) (n : Nat) (hf : F.fn 171) (hro : F.round = none) (hn : 1 ≤ n) (l Bs : Nat) (o L : Nat) (ho : o ≤ 1073741824) (hL : L ≤ 1048576) (J Jx : List (Ix L) → World → Prop)
    (hY : ∀ pre x W, J pre W → pre.length < L → YieldAt F (n - 1) Tryz.prog l (encI o x) W fun e W' =>
      (e = .returned (.bool true) ∧ J (pre ++ [x]) W' ∧ KpS Bs W W') ∨ (e = .returned (.bool false) ∧ Jx (pre ++ [x]) W'))
    (W : World) (hb : W.heap[Bs]? = some (.cells #[.int .i64 (o : Int), .int .i64 (L : Int)] 144 (0, 0))) (h0 : J [] W) :
    CallsIn F n Tryz.prog 171 #[.func (.yield l) #[] #[], .pointer (some ⟨Bs, 0, none⟩)] W fun e' W' => (∃ v, e' = .returned v) ∧
      ((∃ ys, ys = List.finRange L ∧ J ys W') ∨ (∃ pre, pre <+: List.finRange L ∧ Jx pre W')) := by
  refine callsIn_of_wp Tryz.func171 rfl hf ?_ hro
  simp only [Tryz.ntmps171, List.size_toArray, List.length_cons, List.length_nil, Nat.reduceAdd, Nat.reduceSub, Array.replicate_succ, Array.replicate_zero, List.push_toArray, List.append_toArray, List.nil_append, List.cons_append]
  have c1 : W.cell? ⟨Bs, 1, none⟩ = some (.int .i64 (L : Int)) := by simp [World.cell?, hb]
  gi_wp2
  gi_loopw [6] (fun q wr => ∃ k : Nat, k ≤ L ∧ q = .int .i64 (k : Int) ∧ Hid (wr.heap[Bs]? = some (.cells #[.int .i64 (o : Int), .int .i64 (L : Int)] 144 (0, 0))) ∧ Hid (J (firsts L k) wr)) (fun q _ => (L - (intOf q).toNat))
  case atStart => exact ⟨0, Nat.zero_le _, rfl, Lib.hid hb, Lib.hid (by simpa [firsts] using h0)⟩
  case round =>
    clear c1 hb
    obtain ⟨k, hk, rfl, hb, hJk⟩ := hrel
    by_cases hkl : k < L
    · have c0 : wr.cell? ⟨Bs, 0, none⟩ = some (.int .i64 (o : Int)) := by have h1 := hb.out; simp [World.cell?, h1]
      obtain ⟨fn, tmps, assign, body, hy, hR⟩ := hY (firsts L k) ⟨k, hkl⟩ wr hJk.out (by rw [firsts_len (by omega)]; exact hkl)
      unfold encI at hy
      simp only at hy
      have HR := Lib.hid hR
      have Hnx := Lib.hid (firsts_next hkl)
      clear hR
      gi_wp2
      refine HR.out.mono ?_
      rintro e' W3 (⟨rfl, hJ3, hk3⟩ | ⟨rfl, hJx3⟩)
      · have HJ3 := Lib.hid hJ3
        have HK3 := Lib.hid (hk3.trans hb.out)
        clear hJ3 hk3
        gi_wp2
        go_roundw
        case rel => exact ⟨k + 1, hkl, by go_num, HK3, Lib.hid (by rw [Hnx.out]; exact HJ3.out)⟩
        case measure => simp [intOf] <;> omega
      · have HJ3 := Lib.hid hJx3
        clear hJx3
        gi_wp2
        refine bodyPost_ret (results_none rfl _ _ _) rfl ?_
        exact ⟨⟨_, rfl⟩, .inr ⟨firsts L k ++ [⟨k, hkl⟩], by rw [← Hnx.out]; exact List.take_prefix _ _, HJ3.out⟩⟩
    · obtain rfl : k = L := by omega
      gi_wp2
      go_end0
      exact ⟨⟨_, rfl⟩, .inl ⟨_, rfl, by rw [← firsts_all]; exact hJk.out⟩⟩
theorem each_in (F : Fence) (n : Nat) (hf : F.fn 127) (hro : F.round = none) (x y : Int) (w : World) :
    CallsIn F n Tryz.prog 127 #[.agg #[.int .i64 x, .int .i64 y]] w fun r w' => r = .returned (.func (.func 171) #[] #[.pointer (some ⟨w.heap.size, 0, none⟩)]) ∧ w' = w.alloc (.cells #[.int .i64 x, .int .i64 y] 144) := by
  refine callsIn_of_wp Tryz.func127 rfl hf ?_ hro
  simp only [Tryz.ntmps127, List.size_toArray, List.length_cons, List.length_nil, Nat.reduceAdd, Nat.reduceSub, Array.replicate_succ, Array.replicate_zero, List.push_toArray, List.append_toArray, List.nil_append, List.cons_append]
  have hmf : ∀ (fn : Fn) (first cap : Array Value) (w : World), (Instr.makeFunc fn first cap).run Tryz.prog w = .ok (.func fn first cap) w := fun _ _ _ _ => rfl
  gi_wp2
  go_ret
  exact ⟨rfl, rfl⟩
theorem each_stops (F : Fence) (n : Nat) (hf : F.fn 171) (hro : F.round = none) (hn : 1 ≤ n) (Bs o L : Nat) (ho : o ≤ 1073741824) (hL : L ≤ 1048576) (w : World) (hb : w.heap[Bs]? = some (.cells #[.int .i64 (o : Int), .int .i64 (L : Int)] 144 (0, 0))) :
    SeqStopsK F n Tryz.prog 171 #[.pointer (some ⟨Bs, 0, none⟩)] (encI o (L := L)) (KpS Bs) (fun ys => ys = List.finRange L) (fun pre => pre <+: List.finRange L) L w := fun l J Jx W hW _ _ hY h0 =>
  each1_in F n hf hro hn l Bs o L ho hL J Jx hY W ((hW.block _ (heap_lt hb)).trans hb) h0
end
end Go.Proofs.YtaldlapnhhhclaaGreat.Data
/- The data area, plainly: spans written and read, sector by sector. Conditions: none. -/
namespace Go.Proofs.YtaldlapnhhhclaaGreat.Data
open Go.RowKit Tw Disk

/-- the i-th sector of bytes -/
def secAt (b : List UInt8) (i : Nat) : Sec := (b.drop (i * 16)).take 16
theorem secAt_len {b : List UInt8} {L i : Nat} (h : b.length = L * 16) (hi : i < L) : (secAt b i).length = 16 := by
  simp [secAt]
  omega
/-- sectors written one behind the other; the first error ends it -/
def wseq (o : Nat) (b : List UInt8) : Dsk → List Nat → Dsk × Nat
  | d, [] => (d, 0)
  | d, i :: r => if (d.write (8 + (o : Int) + (i : Int)) (secAt b i)).2 = 0 then wseq o b (d.write (8 + (o : Int) + (i : Int)) (secAt b i)).1 r else d.write (8 + (o : Int) + (i : Int)) (secAt b i)
theorem wseq_cons (o : Nat) (b : List UInt8) (d : Dsk) (i : Nat) (r : List Nat) : wseq o b d (i :: r) = if (d.write (8 + (o : Int) + (i : Int)) (secAt b i)).2 = 0 then wseq o b (d.write (8 + (o : Int) + (i : Int)) (secAt b i)).1 r else (d.write (8 + (o : Int) + (i : Int)) (secAt b i)) := rfl
theorem wseq_append {o : Nat} {b : List UInt8} : ∀ {l : List Nat} {d : Dsk} {r : List Nat}, (wseq o b d l).2 = 0 → wseq o b d (l ++ r) = wseq o b (wseq o b d l).1 r
  | [], _, _, _ => rfl
  | i :: l, d, r, h => by
    rw [wseq_cons] at h
    rw [List.cons_append, wseq_cons, wseq_cons o b d i l]
    by_cases h1 : (d.write (8 + (o : Int) + (i : Int)) (secAt b i)).2 = 0
    · rw [if_pos h1] at h ⊢
      rw [if_pos h1]
      exact wseq_append h
    · rw [if_neg h1] at h
      exact (h1 h).elim
theorem wseq_fail {o : Nat} {b : List UInt8} : ∀ {l : List Nat} {d : Dsk} {r : List Nat}, (wseq o b d l).2 ≠ 0 → wseq o b d (l ++ r) = wseq o b d l
  | [], _, _, h => (h rfl).elim
  | i :: l, d, r, h => by
    rw [wseq_cons] at h
    rw [List.cons_append, wseq_cons, wseq_cons o b d i l]
    by_cases h1 : (d.write (8 + (o : Int) + (i : Int)) (secAt b i)).2 = 0
    · rw [if_pos h1] at h ⊢
      rw [if_pos h1]
      exact wseq_fail h
    · rw [if_neg h1, if_neg h1]
theorem wseq_snoc {o : Nat} {b : List UInt8} {l : List Nat} {d : Dsk} (i : Nat) (h : (wseq o b d l).2 = 0) : wseq o b d (l ++ [i]) = (wseq o b d l).1.write (8 + (o : Int) + (i : Int)) (secAt b i) := by
  rw [wseq_append h, wseq_cons]
  split
  · rename_i h1
    rw [wseq, ← h1]
  · rfl
theorem write_ops (d : Dsk) (x : Int) (s : Sec) : (d.write x s).1.ops ≤ d.ops + 1 := by
  have h : d.spend.1.ops ≤ d.ops + 1 := by
    unfold Dsk.spend Dsk.burn
    (repeat' split) <;> simp
  unfold Dsk.write
  (repeat' split) <;> first | exact h | (simp [Dsk.put]; exact h) | simp
theorem wseq_ops {o : Nat} {b : List UInt8} : ∀ (l : List Nat) (d : Dsk), (wseq o b d l).1.ops ≤ d.ops + l.length
  | [], d => Nat.le_refl _
  | i :: l, d => by
    have h := write_ops d (8 + (o : Int) + (i : Int)) (secAt b i)
    rw [wseq_cons, List.length_cons]
    split
    · have := wseq_ops (o := o) (b := b) l (d.write (8 + (o : Int) + (i : Int)) (secAt b i)).1
      omega
    · omega
theorem write_cells_len (d : Dsk) (x : Int) (s : Sec) : (d.write x s).1.cells.length = d.cells.length := by
  unfold Dsk.write
  (repeat' split) <;> simp [Dsk.put, spend_cells]
/-- a span written -/
def dWrite (d : Dsk) (x y : Int) (b : List UInt8) : Dsk × Nat := if Span.Good x y (secs d) then if (b.length : Int) = y * 16 then wseq x.toNat b d (List.range y.toNat) else (d, 2) else (d, 13)
/-- a sector's bytes laid at its place -/
def layAt (out : List UInt8) (i : Nat) (s : Sec) : List UInt8 := out.take (i * 16) ++ (s ++ out.drop (i * 16 + 16))
theorem layAt_len {out : List UInt8} {L i : Nat} {s : Sec} (h : out.length = L * 16) (hi : i < L) (hs : s.length = 16) : (layAt out i s).length = L * 16 := by
  simp [layAt]
  omega
/-- the bytes of sectors that are read one behind the other, and the error -/
def rseq (o : Nat) (d : Dsk) : List UInt8 → List Nat → List UInt8 × Nat
  | out, [] => (out, 0)
  | out, i :: r => if (d.read (8 + (o : Int) + (i : Int))).2 = 0 then rseq o d (layAt out i (d.read (8 + (o : Int) + (i : Int))).1) r else ([], (d.read (8 + (o : Int) + (i : Int))).2)
theorem rseq_cons (o : Nat) (d : Dsk) (out : List UInt8) (i : Nat) (r : List Nat) : rseq o d out (i :: r) = if (d.read (8 + (o : Int) + (i : Int))).2 = 0 then rseq o d (layAt out i (d.read (8 + (o : Int) + (i : Int))).1) r else ([], (d.read (8 + (o : Int) + (i : Int))).2) := rfl
theorem rseq_append {o : Nat} {d : Dsk} : ∀ {l : List Nat} {out : List UInt8} {r : List Nat}, (rseq o d out l).2 = 0 → rseq o d out (l ++ r) = rseq o d (rseq o d out l).1 r
  | [], _, _, _ => rfl
  | i :: l, out, r, h => by
    rw [rseq_cons] at h
    rw [List.cons_append, rseq_cons, rseq_cons o d out i l]
    by_cases h1 : (d.read (8 + (o : Int) + (i : Int))).2 = 0
    · rw [if_pos h1] at h ⊢
      rw [if_pos h1]
      exact rseq_append h
    · rw [if_neg h1] at h
      exact (h1 h).elim
theorem rseq_fail {o : Nat} {d : Dsk} : ∀ {l : List Nat} {out : List UInt8} {r : List Nat}, (rseq o d out l).2 ≠ 0 → rseq o d out (l ++ r) = rseq o d out l
  | [], _, _, h => (h rfl).elim
  | i :: l, out, r, h => by
    rw [rseq_cons] at h
    rw [List.cons_append, rseq_cons, rseq_cons o d out i l]
    by_cases h1 : (d.read (8 + (o : Int) + (i : Int))).2 = 0
    · rw [if_pos h1] at h ⊢
      rw [if_pos h1]
      exact rseq_fail h
    · rw [if_neg h1, if_neg h1]
theorem rseq_err {o : Nat} {d : Dsk} : ∀ {l : List Nat} {out : List UInt8}, (rseq o d out l).2 ≠ 0 → (rseq o d out l).1 = []
  | [], _, h => (h rfl).elim
  | i :: l, out, h => by
    rw [rseq_cons] at h ⊢
    by_cases h1 : (d.read (8 + (o : Int) + (i : Int))).2 = 0
    · rw [if_pos h1] at h ⊢
      exact rseq_err h
    · rw [if_neg h1]
theorem rseq_snoc {o : Nat} {d : Dsk} {out : List UInt8} {l : List Nat} (i : Nat) (h : (rseq o d out l).2 = 0) : rseq o d out (l ++ [i]) = if (d.read (8 + (o : Int) + (i : Int))).2 = 0 then (layAt (rseq o d out l).1 i (d.read (8 + (o : Int) + (i : Int))).1, 0) else ([], (d.read (8 + (o : Int) + (i : Int))).2) := by
  rw [rseq_append h, rseq_cons]
  rfl
theorem rseq_len {o L : Nat} {d : Dsk} (hd : d.Ok) : ∀ {l : List Nat} {out : List UInt8}, out.length = L * 16 → (∀ i ∈ l, i < L) → (rseq o d out l).2 = 0 → (rseq o d out l).1.length = L * 16
  | [], _, h, _, _ => h
  | i :: l, out, h, hl, he => by
    rw [rseq_cons] at he ⊢
    by_cases h1 : (d.read (8 + (o : Int) + (i : Int))).2 = 0
    · rw [if_pos h1] at he ⊢
      exact rseq_len hd (layAt_len h (hl i List.mem_cons_self) (read_len hd _)) (fun j hj => hl j (List.mem_cons_of_mem _ hj)) he
    · rw [if_neg h1] at he
      exact (h1 he).elim
theorem lay_splice (out : List UInt8) (i : Nat) (s : Sec) (hs : s.length = 16) : splice (bytesV out) (i * 16) (bytesV s) = bytesV (layAt out i s) := by
  simp only [splice, layAt, bytesV_append, bytesV_length, hs, bytesV_take, bytesV_drop]
/-- a span read -/
def dRead (d : Dsk) (x y : Int) : List UInt8 × Nat := if Span.Good x y (secs d) then rseq x.toNat d (List.replicate (y.toNat * 16) 0) (List.range y.toNat) else ([], 13)
theorem vals_range (L : Nat) : (List.finRange L).map Fin.val = List.range L := by
  refine List.ext_getElem (by simp) fun i h1 h2 => ?_
  simp
end Go.Proofs.YtaldlapnhhhclaaGreat.Data
/- A loop over an iterator of pairs whose variables are plain slots. Conditions: none. -/
namespace Go.Proofs.YtaldlapnhhhclaaGreat.Tw
open Go.RowKit Go.Shelf
theorem wpIn_range_two {F : Fence} {n : Nat} {P : Program} {α : Type} {g : Operand} {ps : Array Tmp} {assign body : Code} {Q : Exit → Act → World → Prop} {a : Act} {w : World}
    (hro : F.round = none) (h1 : 1 ≤ n) {gf : Nat} {lb : Array Value} (hg : a.eval g = .func (.func gf) #[] lb) (hFg : F.fn gf) (eg : ∀ args w, (callFunc gf args).run P w = .ok (.enter gf args) w)
    {encs : α → Array Value} {Kp : World → World → Prop} {S Sp : List α → Prop} {N : Nat} {w0 : World} (hseq : SeqStopsK F (n - 1) P gf lb encs Kp S Sp N w0)
    (hKt : ∀ {A B C : World}, Kp A B → Kp B C → Kp A C) (hKb : ∀ (W : World) (l : Nat) (o o' : Obj), w.heap.size ≤ l → W.heap[l]? = some o → o.isCells = false → o.isWalk = false → Kp W (W.putObj l o')) (hb0 : Below w0.heap.size w0 w) (hps : ∀ x, (encs x).size = ps.size)
    (I : List α → World → Prop) (Ix : Code → List α → World → Prop) (hI : ∀ pre W W', I pre W → Fr (fun k => w.heap.size ≤ k) W W' → I pre W') (hIx : ∀ c pre W W', Ix c pre W → Fr (fun k => w.heap.size ≤ k) W W' → Ix c pre W') (h0 : I [] w) (s1 s2 : Nat) (v1 v2 : α → Value)
    (hassign : ∀ (l : Nat) (x : α) (W : World) (K : Act → World → Prop), K { tmps := (((ps.zip (encs x)).foldl (fun t (p, v) => t.setIfInBounds p v) a.tmps).setIfInBounds s1 (v1 x)).setIfInBounds s2 (v2 x), defers := [] } W →
      assign.wpIn (F.inRound l) (n - 1 - 1) P (Exit.then K (fun _ _ _ => False)) { tmps := (ps.zip (encs x)).foldl (fun t (p, v) => t.setIfInBounds p v) a.tmps, defers := [] } W)
    (hbody : ∀ (l : Nat) (pre : List α) (x : α) (W : World), I pre W → pre.length < N →
      body.wpIn (F.inRound l) (n - 1 - 1) P (ownPostG w.heap.size Kp I Ix (pre ++ [x]) W) { tmps := (((ps.zip (encs x)).foldl (fun t (p, v) => t.setIfInBounds p v) a.tmps).setIfInBounds s1 (v1 x)).setIfInBounds s2 (v2 x), defers := [] } W)
    (hdone : ∀ (D : Nat) (xs : List α) (W : World), w.heap.size ≤ D → S xs → I xs W → W.heap[D]? = some (.deferred (some [])) → Q .normal { a with defers := { target := .collected D, args := #[] } :: a.defers } W)
    (hstop : ∀ (D : Nat) (c : Code) (pre : List α) (W : World), w.heap.size ≤ D → Sp pre → Ix c pre W → W.heap[D]? = some (.deferred (some [])) → c.wpIn F n P Q { a with defers := { target := .collected D, args := #[] } :: a.defers } W) :
    (Code.rangeFunc g ps assign body).wpIn F n P Q a w :=
  wpIn_rangeFunc_ownG hro h1 hg hFg eg hseq hKt hKb hb0 hps I Ix
    (fun s W W' row hs hg hr => hI s W W' hs (Fr.grown hg fun k e => (hr k e.symm).1)) (fun c s W W' row hs hg hr => hIx c s W W' hs (Fr.grown hg fun k e => (hr k e.symm).1)) h0 _ hassign hbody hdone hstop
theorem fr_put (W : World) (D : Nat) (o : Obj) : Fr (fun k => k = D) W (W.putObj D o) :=
  Fr.grown (grownBy_putObj' W D o) (fun k e => by injection e)
/-- what is no cells and lies at or beyond B lies as it lay, for only blocks below B turned -/
theorem keeps_fr {S : Nat → Prop} {B : Nat} {W W' : World} (h : Fr S W W') (hS : ∀ k, S k → k < B) : KeepsFrom B W W' :=
  ⟨h.size, fun k o hB hk _ => (h.block k (heap_lt hk) (fun e => by have := hS k e; omega)).trans hk⟩
theorem boxes4 (w : World) (o0 o1 o2 o3 : Obj) : ((((w.alloc o0).alloc o1).alloc o2).alloc o3).heap[w.heap.size]? = some o0 ∧ ((((w.alloc o0).alloc o1).alloc o2).alloc o3).heap[w.heap.size + 1]? = some o1 ∧
    ((((w.alloc o0).alloc o1).alloc o2).alloc o3).heap[w.heap.size + 1 + 1]? = some o2 ∧ ((((w.alloc o0).alloc o1).alloc o2).alloc o3).heap[w.heap.size + 1 + 1 + 1]? = some o3 := by
  have h0 := heap_alloc_new w o0
  have h1 := heap_alloc_new (w.alloc o0) o1
  have h2 := heap_alloc_new ((w.alloc o0).alloc o1) o2
  have h3 := heap_alloc_new (((w.alloc o0).alloc o1).alloc o2) o3
  simp only [World.size_alloc] at h1 h2 h3
  have k : ∀ (W : World) (o : Obj) (i : Nat) (v : Obj), W.heap[i]? = some v → (W.alloc o).heap[i]? = some v := fun W o i v h => (Below.heap_alloc W o i (heap_lt h)).trans h
  exact ⟨k _ _ _ _ (k _ _ _ _ (k _ _ _ _ h0)), k _ _ _ _ (k _ _ _ _ h1), k _ _ _ _ h2, h3⟩
end Go.Proofs.YtaldlapnhhhclaaGreat.Tw
/- Results that lie in cells. Conditions: none. -/
namespace Go.Proofs.YtaldlapnhhhclaaGreat.Tw
open Go.RowKit
section
variable {P : Program}
theorem run_loadVar_one (w : World) (a : Addr) (ty : TypeId) (d : TypeDesc) (v : Value) (hu : P.underlying ty = some d) (hd : d.isRow = false) (hc : w.cell? a = some v) : (loadVar ty a).run P w = .ok v w := by
  have hagg : (isAgg ty).run P w = .ok false w := by
    unfold isAgg
    rw [Sem.run_bind, run_underlying hu w]
    cases d <;> simp_all
  simp [loadVar, Sem.run_bind, hagg, hc]
/-- one result, in a cell -/
theorem results_one {fn : Func} {p : Tmp} {ty : TypeId} (h : fn.results = #[.cell p ty]) (tmps : Array Value) (w : World) (a : Addr) (d : TypeDesc) (v : Value) (hp : tmps.getD p undef = .pointer (some a)) (hu : P.underlying ty = some d) (hd : d.isRow = false) (hc : w.cell? a = some v) :
    (results fn tmps).run P w = .ok v w := by
  have hp' : tmps[p]?.getD undef = .pointer (some a) := by simpa using hp
  simp [results, h, hp', asAddr, run_loadVar_one w a ty d v hu hd hc]
/-- two results, each in a cell -/
theorem results_two {fn : Func} {p q : Tmp} {ty ty2 : TypeId} (h : fn.results = #[.cell p ty, .cell q ty2]) (tmps : Array Value) (w : World) (a a2 : Addr) (d d2 : TypeDesc) (v v2 : Value) (hp : tmps.getD p undef = .pointer (some a)) (hq : tmps.getD q undef = .pointer (some a2))
    (hu : P.underlying ty = some d) (hd : d.isRow = false) (hc : w.cell? a = some v) (hu2 : P.underlying ty2 = some d2) (hd2 : d2.isRow = false) (hc2 : w.cell? a2 = some v2) :
    (results fn tmps).run P w = .ok (.tuple #[v, v2]) w := by
  have hp' : tmps[p]?.getD undef = .pointer (some a) := by simpa using hp
  have hq' : tmps[q]?.getD undef = .pointer (some a2) := by simpa using hq
  simp [results, h, hp', hq', asAddr, run_loadVar_one w a ty d v hu hd hc, run_loadVar_one w a2 ty2 d2 v2 hu2 hd2 hc2]
end
end Go.Proofs.YtaldlapnhhhclaaGreat.Tw
/- Contract of data.Write. Conditions: at most 10^9 operations. -/
namespace Go.Proofs.YtaldlapnhhhclaaGreat.Data
open Go.RowKit Tw Disk Go.Shelf
attribute [local go_sem] Oper.semAt_some
set_option maxHeartbeats 4000000
set_option maxRecDepth 100000

theorem cells_of {w : World} {g : Nat} {cs : Array Value} {t : TypeId} (h : w.heap[g]? = some (.cells cs t (0, 0))) (j : Nat) (v : Value) (hj : cs[j]? = some v) : w.cell? ⟨g, j, none⟩ = some v := by
  simp [World.cell?, h, hj]
section
variable {w : World} {p g mb c : Nat} {d : Dsk}
/-- between two rounds of Write -/
def WI (w : World) (B p g mb c B0 o : Nat) (A : Option Addr) (n cb : Nat) (b : List UInt8) (d : Dsk) (er : Nat) (pre : List Nat) (W : World) : Prop :=
  (wseq o b d pre).2 = er ∧ Dk W p g mb c (wseq o b d pre).1 ∧ W.heap[B0]? = some (.cells #[.pointer (some ⟨p, 0, none⟩)] 29 (0, 0)) ∧ W.heap[B0 + 1 + 1]? = some (.cells #[.slice A n cb] 23 (0, 0)) ∧
    W.heap[B0 + 1 + 1 + 1]? = some (.cells #[.int .i64 (er : Int)] 34 (0, 0)) ∧ Fr (fun k => k = p ∨ k = mb) w W ∧ B ≤ W.heap.size
theorem WI.fr {B0 o n cb er : Nat} {A : Option Addr} {b : List UInt8} {pre : List Nat} {W W' : World} {B : Nat} (h : WI w B p g mb c B0 o A n cb b d er pre W) (hw : w.heap.size ≤ B) (hB : B0 + 1 + 1 + 1 < B) (hp : p < B ∧ g < B ∧ mb < B)
    (hf : Fr (fun k => B ≤ k) W W') : WI w B p g mb c B0 o A n cb b d er pre W' := by
  obtain ⟨h1, h2, h3, h4, h5, h6, h7⟩ := h
  exact ⟨h1, h2.fr hf (by omega) (by omega) (by omega), heap_fr h3 hf (by omega), heap_fr h4 hf (by omega), heap_fr h5 hf (by omega), h6.trans hf (fun k hk e => by omega), Nat.le_trans h7 hf.size⟩
theorem Write_in (h : Dk w p g mb c d) (ho : d.ops + 1024 < 1000000000) (o L : Nat) (A : Option Addr) (n cb : Nat) (b : List UInt8) (hb : Byt w A n cb b) (hA : ∀ ad, A = some ad → 0 < n → ad.block ≠ p ∧ ad.block ≠ mb) (hg : Span.Good (o : Int) (L : Int) (secs d)) (hl : b.length = L * 16) :
    CallsIn Fence.wide 3 Tryz.prog 70 #[.pointer (some ⟨p, 0, none⟩), .agg #[.int .i64 (o : Int), .int .i64 (L : Int)], .slice A n cb] w fun e w' => e = .returned (.int .i64 ((wseq o b d (List.range L)).2 : Int)) ∧ Dk w' p g mb c (wseq o b d (List.range L)).1 ∧ Fr (fun k => k = p ∨ k = mb) w w' := by
  have hro : Fence.wide.round = none := rfl
  have hbl := hb.blen
  obtain rfl : n = L * 16 := by omega
  have hg2 := hg
  have hn := h.ok.n
  simp only [Span.Good, secs] at hg2
  have hlt := h.lts
  have HBX := Lib.hid ((((((Below.refl w.heap.size w).alloc (Nat.le_refl _) (.cells #[.pointer (some ⟨p, 0, none⟩)] 29)).alloc (by simp) (.cells #[.int .i64 (o : Int), .int .i64 (L : Int)] 144)).alloc (by simp; omega) (.cells #[.slice A (L * 16) cb] 23)).alloc (by simp; omega) (.cells #[.int .i64 0] 34)))
  obtain ⟨x0, x1, x2, x3⟩ := boxes4 w (.cells #[.pointer (some ⟨p, 0, none⟩)] 29) (.cells #[.int .i64 (o : Int), .int .i64 (L : Int)] 144) (.cells #[.slice A (L * 16) cb] 23) (.cells #[.int .i64 0] 34)
  have X0 := Lib.hid x0
  have X1 := Lib.hid x1
  have X2 := Lib.hid x2
  have X3 := Lib.hid x3
  have H := Lib.hid h
  have Hb := Lib.hid hb
  have Hg := Lib.hid hg
  have HA := Lib.hid hA
  clear h hb hg hbl hl x0 x1 x2 x3 hA
  refine callsIn_of_wp_marks Tryz.func70 rfl trivial ?_ hro
  simp only [Tryz.ntmps70, List.size_toArray, List.length_cons, List.length_nil, Nat.reduceAdd, Nat.reduceSub, Array.replicate_succ, Array.replicate_zero, List.push_toArray, List.append_toArray, List.nil_append, List.cons_append]
  gi_wp2_with (fail)
  refine ⟨trivial, ?_⟩
  refine (callsIn_wide.2 (c_check (H.out.bel HBX.out) (o : Int) (L : Int))).mono ?_
  rintro e w1 ⟨rfl, hb1⟩
  rw [if_pos Hg.out]
  have B1 := Lib.hid (HBX.out.trans (hb1.mono HBX.out.size))
  have Y0 := Lib.hid ((hb1.block _ (heap_lt X0.out)).trans X0.out)
  have Y1 := Lib.hid ((hb1.block _ (heap_lt X1.out)).trans X1.out)
  have Y2 := Lib.hid ((hb1.block _ (heap_lt X2.out)).trans X2.out)
  have Y3 := Lib.hid ((hb1.block _ (heap_lt X3.out)).trans X3.out)
  have c1 : w1.cell? ⟨w.heap.size + 1, 0, none⟩ = some (.int .i64 (o : Int)) := by have h := Y1.out; simp [World.cell?, h]
  have c2 : w1.cell? ⟨w.heap.size + 1, 1, none⟩ = some (.int .i64 (L : Int)) := by have h := Y1.out; simp [World.cell?, h]
  have c3 : w1.cell? ⟨w.heap.size + 1 + 1, 0, none⟩ = some (.slice A (L * 16) cb) := by have h := Y2.out; simp [World.cell?, h]
  clear X0 X1 X2 X3 HBX hb1
  gi_wp2_with (fail)
  refine ⟨trivial, (each_in Fence.wide 2 trivial rfl _ _ _).mono ?_⟩
  rintro e w2 ⟨rfl, rfl⟩
  have hal := (Below.refl w1.heap.size w1).alloc (Nat.le_refl _) (.cells #[.int .i64 (o : Int), .int .i64 (L : Int)] 144)
  have BS := Lib.hid (heap_alloc_new w1 (.cells #[.int .i64 (o : Int), .int .i64 (L : Int)] 144))
  have hBs : w1.heap.size < (w1.alloc (.cells #[.int .i64 (o : Int), .int .i64 (L : Int)] 144)).heap.size := by simp
  have hbs3 := heap_lt Y3.out
  have B2 := Lib.hid (B1.out.trans (hal.mono B1.out.size))
  have Z0 := Lib.hid ((hal.block _ (heap_lt Y0.out)).trans Y0.out)
  have Z2 := Lib.hid ((hal.block _ (heap_lt Y2.out)).trans Y2.out)
  have Z3 := Lib.hid ((hal.block _ (heap_lt Y3.out)).trans Y3.out)
  clear Y0 Y1 Y2 Y3 B1 c1 c2 c3 hal
  gi_wp2_with (fail)
  generalize (w1.alloc (.cells #[.int .i64 (o : Int), .int .i64 (L : Int)] 144)) = W2 at *
  generalize w1.heap.size = Bs at *
  refine wpIn_range_two hro (by omega) (gf := 171) (lb := #[.pointer (some ⟨Bs, 0, none⟩)]) rfl trivial (enters_of Tryz.func171 (by kernel_rfl) rfl)
    (each_stops Fence.wide 2 trivial rfl (by omega) Bs o L (by omega) (by omega) W2 BS.out) kpS_t (kpS_b hBs) (Below.refl _ _) (fun _ => rfl)
    (fun pre W => WI w W2.heap.size p g mb c w.heap.size o A (L * 16) cb b d 0 (pre.map Fin.val) W)
    (fun ex pre W => ex = .ret ∧ ∃ er, er ≠ 0 ∧ WI w W2.heap.size p g mb c w.heap.size o A (L * 16) cb b d er (pre.map Fin.val) W)
    (fun pre W W' h hf => WI.fr h (by omega) (by omega) (by omega) hf)
    (fun ex pre W W' ⟨h1, er, h2, h3⟩ hf => ⟨h1, er, h2, WI.fr h3 (by omega) (by omega) (by omega) hf⟩)
    ⟨rfl, H.out.bel B2.out, Z0.out, Z2.out, Z3.out, Fr.of_bel B2.out, Nat.le_refl _⟩
    8 9 (fun x => .int .i64 (8 + (o : Int) + (x.val : Int))) (fun x => .int .i64 ((x.val : Int) * 16)) ?assign ?body ?done ?stop
  case assign =>
    intro l x W K hK
    simp only [encI, fold_two, List.setIfInBounds_toArray, List.set_cons_zero, List.set_cons_succ] at hK ⊢
    gi_wp2
    exact hK
  case body =>
    rintro l pre ⟨i, hi⟩ W hwi hlt2
    simp only [encI, fold_two, List.setIfInBounds_toArray, List.set_cons_zero, List.set_cons_succ]
    obtain ⟨h1, h2, h3, h4, h5, h6, h7⟩ := hwi
    have hal := (Below.refl W.heap.size W).alloc (Nat.le_refl _) (.cells #[.int .u8 0, .int .u8 0, .int .u8 0, .int .u8 0, .int .u8 0, .int .u8 0, .int .u8 0, .int .u8 0, .int .u8 0, .int .u8 0, .int .u8 0, .int .u8 0, .int .u8 0, .int .u8 0, .int .u8 0, .int .u8 0] 127)
    have XB := Lib.hid (heap_alloc_new W (.cells #[.int .u8 0, .int .u8 0, .int .u8 0, .int .u8 0, .int .u8 0, .int .u8 0, .int .u8 0, .int .u8 0, .int .u8 0, .int .u8 0, .int .u8 0, .int .u8 0, .int .u8 0, .int .u8 0, .int .u8 0, .int .u8 0] 127))
    have H1 := Lib.hid h1
    have H2 := Lib.hid (h2.bel hal)
    have H3 := Lib.hid ((hal.block _ (heap_lt h3)).trans h3)
    have H4 := Lib.hid ((hal.block _ (heap_lt h4)).trans h4)
    have H5 := Lib.hid ((hal.block _ (heap_lt h5)).trans h5)
    have H6 := Lib.hid (h6.trans (Fr.of_bel (S := fun k => k = p ∨ k = mb) hal) (fun _ _ e => e))
    have HBs := Lib.hid (hal.block Bs (by omega))
    have hsz := hal.size
    have Hb2 := Lib.hid ((Hb.out.fr H6.out (fun ad e => by have := HA.out ad e (by omega); rintro (h | h) <;> simp_all)))
    have hbc := Hb.out.le
    have hops := wseq_ops (o := o) (b := b) (pre.map Fin.val) d
    rw [List.length_map] at hops
    have hxb : W.heap.size < (W.alloc (.cells #[.int .u8 0, .int .u8 0, .int .u8 0, .int .u8 0, .int .u8 0, .int .u8 0, .int .u8 0, .int .u8 0, .int .u8 0, .int .u8 0, .int .u8 0, .int .u8 0, .int .u8 0, .int .u8 0, .int .u8 0, .int .u8 0] 127)).heap.size := by simp
    have HFW := Lib.hid (Fr.of_bel (S := fun k => k = p ∨ k = mb) hal)
    clear h1 h2 h3 h4 h5 h6 hal
    gi_wp2
    generalize (W.alloc (.cells #[.int .u8 0, .int .u8 0, .int .u8 0, .int .u8 0, .int .u8 0, .int .u8 0, .int .u8 0, .int .u8 0, .int .u8 0, .int .u8 0, .int .u8 0, .int .u8 0, .int .u8 0, .int .u8 0, .int .u8 0, .int .u8 0] 127)) = W3 at *
    refine wpIn_region_phi (by rintro ⟨_, _, h⟩; exact h) (by kernel_rfl) (by kernel_rfl) 4 none (fun _ => false) (fun i_ v wz => match i_ with
      | 0 => v = .slice (some ⟨W.heap.size, 0, none⟩) 16 16
      | 1 => v = .slice A (L * 16) cb
      | 2 => v = .int .i64 ((i : Int) * 16)
      | 3 => ∃ A3 c3, v = .slice A3 (L * 16 - i * 16) c3 ∧ Byt wz A3 (L * 16 - i * 16) c3 (b.drop (i * 16))
      | _ => True) (by kernel_rfl) ?_ ?_ ?_
    · (repeat' (first | exact allLt_zero | refine allLt_succ ?_ ?_))
      · exact fun _ _ _ h _ => h
      · exact fun _ _ _ h _ => h
      · exact fun _ _ _ h _ => h
      · intro v w1 w2 h hg
        rw [show kindRow _ _ = none from by kernel_rfl] at hg
        obtain ⟨A3, c3, rfl, hr⟩ := h
        exact ⟨A3, c3, rfl, hr.bel (bel_grown hg)⟩
    · (repeat' (first | exact allLt_zero | refine allLt_succ ?_ ?_))
      · intro a w' hf he
        have k10 : a.tmps.getD 10 undef = .pointer (some ⟨W.heap.size, 0, none⟩) := hf.var (by kernel_rfl) rfl
        refine wpOp_step rfl (fun K hK => ?_)
        go_simp
        exact hK _ _ ⟨_, rfl, rfl, World.grownBy.refl _ _⟩
      · intro a w' hf he
        have k5 : a.tmps.getD 5 undef = .pointer (some ⟨w.heap.size + 1 + 1, 0, none⟩) := hf.var (by kernel_rfl) rfl
        rw [show kindRow _ _ = none from by kernel_rfl] at hf
        have dd := (hf.bel.cell (p := ⟨w.heap.size + 1 + 1, 0, none⟩) (heap_lt H4.out)).trans (cells_of H4.out 0 _ rfl)
        refine wpOp_step rfl (fun K hK => ?_)
        go_simp
        exact hK _ _ ⟨_, rfl, rfl, World.grownBy.refl _ _⟩
      · intro a w' hf he
        have k9 : a.tmps.getD 9 undef = .int .i64 ((i : Int) * 16) := hf.var (by kernel_rfl) rfl
        refine wpOp_step rfl (fun K hK => ?_)
        go_simp
        exact hK _ _ ⟨_, rfl, rfl, World.grownBy.refl _ _⟩
      · intro a w' hf he
        have f1 : a.tmps.getD 29 undef = .slice A (L * 16) cb := he 1 (by kernel_rfl)
        have f2 : a.tmps.getD 30 undef = .int .i64 ((i : Int) * 16) := he 2 (by kernel_rfl)
        rw [show kindRow _ _ = none from by kernel_rfl] at hf
        refine wpOp_step rfl (fun K hK => ?_)
        go_simp
        rw [if_pos (by omega)]
        exact hK _ _ ⟨_, rfl, ⟨_, _, rfl, (Hb2.out.bel hf.bel).cutB (k := i * 16) (by omega)⟩, World.grownBy.refl _ _⟩
    · intro a w' hf he
      have f0 : a.tmps.getD 28 undef = .slice (some ⟨W.heap.size, 0, none⟩) 16 16 := he 0 (by decide)
      obtain ⟨u29, f1⟩ : ∃ u, a.tmps.getD 29 undef = u := ⟨_, rfl⟩
      obtain ⟨u30, f2⟩ : ∃ u, a.tmps.getD 30 undef = u := ⟨_, rfl⟩
      obtain ⟨A3, c3, hv3, hr3⟩ := he 3 (by decide)
      have f3 : a.tmps.getD 31 undef = _ := hv3
      have hlit := hf.lit ((28, .slice (some ⟨W.heap.size, 0, none⟩) 16 16) :: (29, u29) :: (30, u30) :: (31, _) :: []) (by kernel_rfl) ⟨f0, f1, f2, f3, trivial⟩
      have hB := hf.bel
      clear he hf f0 f1 f2 f3 hv3
      subst hlit
      simp only [putAll_nil, putAll_cons, Act.put, List.setIfInBounds_toArray, List.set_cons_zero, List.set_cons_succ]
      simp only [List.drop_succ_cons, List.drop_zero]
      obtain ⟨res, hres⟩ : ∃ res, (wseq o b d (pre.map Fin.val)).1.write (8 + (o : Int) + (i : Int)) (secAt b i) = res := ⟨_, rfl⟩
      have hws : wseq o b d ((pre ++ [(⟨i, hi⟩ : Ix L)]).map Fin.val) = res := by rw [List.map_append, ← hres]; exact wseq_snoc i H1.out
      have hs16 := secAt_len Hb.out.blen hi
      have HS := Lib.hid hs16
      have HW := Lib.hid hws
      have HR := Lib.hid hres
      have Hr3 := Lib.hid hr3
      have XB4 := Lib.hid ((hB.block _ (heap_lt XB.out)).trans XB.out)
      have HF4 := Lib.hid (Fr.of_bel (S := fun k => k = W.heap.size) hB)
      have hnd := H2.out.lts
      have hwW := HFW.out.size
      have hw0 := H6.out.size
      clear hws hres hr3 hB hs16
      go_wp2_with (first
        | (refine wpL_copy rfl (.tmp 28) (.tmp 31) 23 23 rfl 5 Tryz.underlying23 (by kernel_rfl) _ _ 16 16 (L * 16 - i * 16) c3 rfl rfl W.heap.size 0 _ 127 XB4.out (bytesV (secAt b i)) 16 (by rw [bytesV_length, HS.out]) (Nat.min_eq_right (by omega)).symm (fun h0 => ⟨rfl, (by have h9 := (Hr3.out.uptoB (k := 16) (by omega)).src h0; exact h9)⟩) (by simp) bytesV_one (bytesV (secAt b i)) (splice_all (by rw [bytesV_length, HS.out]; rfl)) ?_
           intro w4 h4 hg4
           have HF5 := Lib.hid (HF4.out.trans (Fr.grown (S := fun k => k = W.heap.size) hg4 (by rintro k ⟨⟩; rfl)) (fun _ _ e => e))
           have Hx := Lib.hid h4
           clear h4 hg4))
      have G2 := Lib.hid (H2.out.fr HF5.out (by omega) (by omega) (by omega))
      have G3 := Lib.hid (heap_fr H3.out HF5.out (by omega))
      have G4 := Lib.hid (heap_fr H4.out HF5.out (by omega))
      have G5 := Lib.hid (heap_fr H5.out HF5.out (by omega))
      have G6 := Lib.hid (H6.out.trans HF5.out (fun k hk e => by omega))
      have GW := Lib.hid (HFW.out.trans HF5.out (fun k hk e => by omega))
      have e3 := cells_of G3.out 0 _ rfl
      refine wpIn_seq (region_in (by kernel_rfl) ?_ ?_)
      · rintro ⟨_, _, h⟩
        exact h
      clear H2 H3 H4 H5 H6 HFW HF4 HF5 XB XB4 Hr3 HBs
      go_wp2_with (first
        | (refine wpL_load_rd rfl 127 (.tmp 10) rfl ⟨W.heap.size, 0, none⟩ rfl (bytesV (secAt b i)) _ ((rd_of_heap (n := 16) Hx.out (by rw [bytesV_length, HS.out]) (by simp [maxLen])).cell _ rfl) Tryz.underlying127 rfl (by rw [bytesV_length, HS.out]; kernel_rfl) ?_)
        | (go_at_call 128
           refine (c_dWrite G2.out (by omega) (8 + (o : Int) + (i : Int)) (by omega) (secAt b i) HS.out).mono ?_
           rintro e w5 ⟨rfl, h5, f5⟩
           rw [HR.out] at h5 ⊢
           have K2 := Lib.hid h5
           have F5 := Lib.hid f5
           clear h5 f5))
      have L3 := Lib.hid (heap_fr G3.out F5.out (by omega))
      have L4 := Lib.hid (heap_fr G4.out F5.out (by omega))
      have L5 := Lib.hid (heap_fr G5.out F5.out (by omega))
      have L6 := Lib.hid (G6.out.trans F5.out (fun _ _ e => e))
      have LW := Lib.hid (GW.out.trans F5.out (fun _ _ e => e))
      have hsW := LW.out.size
      clear G2 G3 G4 G5 G6 GW F5 e3 HR
      obtain ⟨d5, er⟩ := res
      simp only at K2
      by_cases her : er = 0
      · subst her
        gi_wp2
        exact ⟨keeps_fr LW.out (fun k e => by rcases e with rfl | rfl <;> omega), LW.out.block Bs (by omega) (by rintro (h | h) <;> omega), by rw [HW.out], by rw [HW.out]; exact K2.out, L3.out, L4.out, L5.out, L6.out, by omega⟩
      · have hne : ((er : Int) != 0) = true := by simp; omega
        have c5 := cells_of L5.out 0 _ rfl
        have fz : w5.frozen? ⟨w.heap.size + 1 + 1 + 1, 0, none⟩ = false := by have h := L5.out; simp [World.frozen?, h]
        gi_wp2
        have fs : Fr (fun k => k = w.heap.size + 1 + 1 + 1) w5 (w5.setCell ⟨w.heap.size + 1 + 1 + 1, 0, none⟩ (.int .i64 (er : Int))) := Fr.setCell (S := fun k => k = w.heap.size + 1 + 1 + 1) (p := ⟨w.heap.size + 1 + 1 + 1, 0, none⟩) rfl _
        have fW : Fr (fun k => (k = p ∨ k = mb) ∨ k = w.heap.size + 1 + 1 + 1) W (w5.setCell ⟨w.heap.size + 1 + 1 + 1, 0, none⟩ (.int .i64 (er : Int))) := (LW.out.mono (S1 := fun k => (k = p ∨ k = mb) ∨ k = w.heap.size + 1 + 1 + 1) (fun _ _ e => .inl e)).trans fs (fun _ _ e => .inr e)
        have hs6 := fs.size
        refine ⟨keeps_fr fW (fun k e => by rcases e with (rfl | rfl) | rfl <;> omega), rfl, er, her, by rw [HW.out], by rw [HW.out]; exact K2.out.fr fs (by omega) (by omega) (by omega), heap_fr L3.out fs (by omega), heap_fr L4.out fs (by omega), ?_, L6.out.trans fs (fun k hk e => by omega), by omega⟩
        rw [heap_setCell_same _ _ 0 _ _ _ L5.out]
        simp
  case done =>
    rintro D ys W hD rfl ⟨h1, h2, h3, h4, h5, h6, h7⟩ hK
    rw [vals_range] at h1 h2
    have H1 := Lib.hid h1
    have H2 := Lib.hid h2
    have H5 := Lib.hid h5
    have H6 := Lib.hid h6
    have c5 := cells_of h5 0 _ rfl
    have fz : W.frozen? ⟨w.heap.size + 1 + 1 + 1, 0, none⟩ = false := by simp [World.frozen?, h5]
    clear h1 h2 h3 h4 h5 h6
    gi_wp2
    have hfs : Fr (fun k => k = w.heap.size + 1 + 1 + 1) W (W.setCell ⟨w.heap.size + 1 + 1 + 1, 0, none⟩ (.int .i64 0)) := Fr.setCell (S := fun k => k = w.heap.size + 1 + 1 + 1) (p := ⟨w.heap.size + 1 + 1 + 1, 0, none⟩) rfl _
    have hK6 := heap_fr hK hfs (by omega)
    have H2 := Lib.hid (H2.out.fr hfs (by omega) (by omega) (by omega))
    have h5 := heap_setCell_same _ _ 0 _ _ (.int .i64 0) H5.out
    have H6 := Lib.hid (H6.out.trans hfs (fun k hk e => by omega))
    have H5 := Lib.hid h5
    clear h5 hfs hK c5 fz
    generalize (W.setCell ⟨w.heap.size + 1 + 1 + 1, 0, none⟩ (.int .i64 0)) = W6 at *
    have fd := fr_put W6 D (.deferred none)
    have hlt2 := H2.out.lts
    refine ⟨by simp, .inl ⟨_, _, rfl, run_takeDeferred hK6, ?_⟩⟩
    exact ⟨_, results_one rfl _ _ ⟨w.heap.size + 1 + 1 + 1, 0, none⟩ _ (.int .i64 0) rfl Tryz.underlying34 rfl (cells_of (heap_fr H5.out fd (by omega)) 0 _ (by simp)), by rw [H1.out]; rfl, H2.out.fr fd (by omega) (by omega) (by omega), H6.out.trans fd (fun k hk e => by omega)⟩
  case stop =>
    rintro D ex pre W hD hpre ⟨rfl, er, her, h1, h2, h3, h4, h5, h6, h7⟩ hK
    obtain ⟨sfx, hsfx⟩ := hpre
    have hall : wseq o b d (List.range L) = wseq o b d (pre.map Fin.val) := by
      rw [← vals_range, ← hsfx, List.map_append]
      exact wseq_fail (by rw [h1]; exact her)
    rw [← hall] at h1 h2
    have H1 := Lib.hid h1
    have H2 := Lib.hid h2
    have H5 := Lib.hid h5
    have H6 := Lib.hid h6
    have c5 := cells_of h5 0 _ rfl
    clear h1 h2 h3 h4 h5 h6 hall hsfx
    gi_wp2
    have fd := fr_put W D (.deferred none)
    have hlt2 := H2.out.lts
    refine ⟨by simp, .inl ⟨_, _, rfl, run_takeDeferred hK, ?_⟩⟩
    exact ⟨_, results_one rfl _ _ ⟨w.heap.size + 1 + 1 + 1, 0, none⟩ _ (.int .i64 (er : Int)) rfl Tryz.underlying34 rfl (cells_of (heap_fr H5.out fd (by omega)) 0 _ (by simp)), by rw [H1.out], H2.out.fr fd (by omega) (by omega) (by omega), H6.out.trans fd (fun k hk e => by omega)⟩
theorem c_Write (h : Dk w p g mb c d) (ho : d.ops + 1024 < 1000000000) (x y : Int) (A : Option Addr) (n cb : Nat) (b : List UInt8) (hb : Byt w A n cb b) (hA : ∀ ad, A = some ad → 0 < n → ad.block ≠ p ∧ ad.block ≠ mb) :
    Calls Tryz.prog 70 #[.pointer (some ⟨p, 0, none⟩), .agg #[.int .i64 x, .int .i64 y], .slice A n cb] w fun e w' => e = .returned (.int .i64 ((dWrite d x y b).2 : Int)) ∧ Dk w' p g mb c (dWrite d x y b).1 ∧ Fr (fun k => k = p ∨ k = mb) w w' := by
  have hbl := hb.blen
  have hlt := h.lts
  have HBX := Lib.hid ((((((Below.refl w.heap.size w).alloc (Nat.le_refl _) (.cells #[.pointer (some ⟨p, 0, none⟩)] 29)).alloc (by simp) (.cells #[.int .i64 x, .int .i64 y] 144)).alloc (by simp; omega) (.cells #[.slice A n cb] 23)).alloc (by simp; omega) (.cells #[.int .i64 0] 34)))
  obtain ⟨x0, x1, x2, x3⟩ := boxes4 w (.cells #[.pointer (some ⟨p, 0, none⟩)] 29) (.cells #[.int .i64 x, .int .i64 y] 144) (.cells #[.slice A n cb] 23) (.cells #[.int .i64 0] 34)
  by_cases hg : Span.Good x y (secs d)
  · by_cases hl : (b.length : Int) = y * 16
    · obtain ⟨o, rfl⟩ : ∃ o : Nat, x = (o : Int) := ⟨x.toNat, by unfold Span.Good at hg; omega⟩
      obtain ⟨L, rfl⟩ : ∃ L : Nat, y = (L : Int) := ⟨y.toNat, by unfold Span.Good at hg; omega⟩
      have hw : dWrite d (o : Int) (L : Int) b = wseq o b d (List.range L) := by unfold dWrite; rw [if_pos hg, if_pos hl]; rfl
      rw [hw]
      exact callsIn_wide.1 (Write_in h ho o L A n cb b hb hA hg (by omega))
    · have hw : Hid (dWrite d x y b = (d, 2)) := Lib.hid (by unfold dWrite; rw [if_pos hg, if_neg hl])
      have X1 := Lib.hid x1
      have X2 := Lib.hid x2
      have X3 := Lib.hid x3
      have H := Lib.hid h
      have Hg := Lib.hid hg
      have hg2 := hg
      unfold Span.Good at hg2
      have hne : ((n : Int) != y * 16) = true := by simp; omega
      clear h hb hg x0 x1 x2 x3 hbl
      go_enter Tryz.func70, Tryz.ntmps70
      go_wp2_with (first
        | (go_at_call 126
           refine (c_check (H.out.bel HBX.out) x y).mono ?_
           rintro e w1 ⟨rfl, hb1⟩
           rw [if_pos Hg.out]
           have B1 := Lib.hid (HBX.out.trans (hb1.mono HBX.out.size))
           have Y1 := (hb1.block _ (heap_lt X1.out)).trans X1.out
           have Y2 := (hb1.block _ (heap_lt X2.out)).trans X2.out
           have Y3 := Lib.hid ((hb1.block _ (heap_lt X3.out)).trans X3.out)
           have c2 : w1.cell? ⟨w.heap.size + 1, 1, none⟩ = some (.int .i64 y) := cells_of Y1 1 _ rfl
           have c3 : w1.cell? ⟨w.heap.size + 1 + 1, 0, none⟩ = some (.slice A n cb) := cells_of Y2 0 _ rfl
           have c5 : w1.cell? ⟨w.heap.size + 1 + 1 + 1, 0, none⟩ = some (.int .i64 0) := cells_of Y3.out 0 _ rfl
           have fz : w1.frozen? ⟨w.heap.size + 1 + 1 + 1, 0, none⟩ = false := by have h := Y3.out; simp [World.frozen?, h]
           clear Y1 Y2 X1 X2 X3 hb1))
      have fs : Fr (fun k => k = w.heap.size + 1 + 1 + 1) w1 (w1.setCell ⟨w.heap.size + 1 + 1 + 1, 0, none⟩ (.int .i64 2)) := Fr.setCell (S := fun k => k = w.heap.size + 1 + 1 + 1) (p := ⟨w.heap.size + 1 + 1 + 1, 0, none⟩) rfl _
      have h5 := heap_setCell_same _ _ 0 _ _ (.int .i64 2) Y3.out
      refine bodyPost_ret (results_one rfl _ _ ⟨w.heap.size + 1 + 1 + 1, 0, none⟩ _ (.int .i64 2) rfl Tryz.underlying34 rfl (cells_of h5 0 _ (by simp))) rfl ?_
      rw [hw.out]
      exact ⟨rfl, (H.out.bel B1.out).fr fs (by omega) (by omega) (by omega), (Fr.of_bel (S := fun k => k = p ∨ k = mb) B1.out).trans fs (fun k hk e => by omega)⟩
  · have hw : Hid (dWrite d x y b = (d, 13)) := Lib.hid (by unfold dWrite; rw [if_neg hg])
    have X1 := Lib.hid x1
    have X2 := Lib.hid x2
    have X3 := Lib.hid x3
    have H := Lib.hid h
    have Hg := Lib.hid hg
    clear h hb hg x0 x1 x2 x3 hbl
    go_enter Tryz.func70, Tryz.ntmps70
    go_wp2_with (first
      | (go_at_call 126
         refine (c_check (H.out.bel HBX.out) x y).mono ?_
         rintro e w1 ⟨rfl, hb1⟩
         rw [if_neg Hg.out]
         have B1 := Lib.hid (HBX.out.trans (hb1.mono HBX.out.size))
         have Y1 := (hb1.block _ (heap_lt X1.out)).trans X1.out
         have Y2 := (hb1.block _ (heap_lt X2.out)).trans X2.out
         have Y3 := Lib.hid ((hb1.block _ (heap_lt X3.out)).trans X3.out)
         have c2 : w1.cell? ⟨w.heap.size + 1, 1, none⟩ = some (.int .i64 y) := cells_of Y1 1 _ rfl
         have c3 : w1.cell? ⟨w.heap.size + 1 + 1, 0, none⟩ = some (.slice A n cb) := cells_of Y2 0 _ rfl
         have c5 : w1.cell? ⟨w.heap.size + 1 + 1 + 1, 0, none⟩ = some (.int .i64 0) := cells_of Y3.out 0 _ rfl
         have fz : w1.frozen? ⟨w.heap.size + 1 + 1 + 1, 0, none⟩ = false := by have h := Y3.out; simp [World.frozen?, h]
         clear Y1 Y2 X1 X2 X3 hb1))
    have fs : Fr (fun k => k = w.heap.size + 1 + 1 + 1) w1 (w1.setCell ⟨w.heap.size + 1 + 1 + 1, 0, none⟩ (.int .i64 13)) := Fr.setCell (S := fun k => k = w.heap.size + 1 + 1 + 1) (p := ⟨w.heap.size + 1 + 1 + 1, 0, none⟩) rfl _
    have h5 := heap_setCell_same _ _ 0 _ _ (.int .i64 13) Y3.out
    refine bodyPost_ret (results_one rfl _ _ ⟨w.heap.size + 1 + 1 + 1, 0, none⟩ _ (.int .i64 13) rfl Tryz.underlying34 rfl (cells_of h5 0 _ (by simp))) rfl ?_
    rw [hw.out]
    exact ⟨rfl, (H.out.bel B1.out).fr fs (by omega) (by omega) (by omega), (Fr.of_bel (S := fun k => k = p ∨ k = mb) B1.out).trans fs (fun k hk e => by omega)⟩
end
end Go.Proofs.YtaldlapnhhhclaaGreat.Data
