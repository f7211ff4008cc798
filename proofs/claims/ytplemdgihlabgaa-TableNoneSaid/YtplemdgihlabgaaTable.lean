/- Contracts of the package table: a map of requests by their tickets. Conditions: none. -/
import Derived.Test.YtplemdgihlabgaaProg
import Derived.Test.YtplemdgihlabgaaNum
import Derived.Test.YtplemdgihlabgaaCopy
import Derived.Test.YtplemdgihlabgaaRegion
import Derived.Maps.OwnOps
import Derived.Maps.OwnSet
import Derived.DeepKeys4
import Derived.Carry
set_option linter.unusedVariables false
set_option linter.unusedSimpArgs false
namespace Go.Proofs.Ytplemdgihlabgaa.Table
open Go.RowKit Tw Go.Maps Go.ChangeMaps
set_option maxHeartbeats 1000000
set_option maxRecDepth 100000

theorem laidOut : laidOutB Try.prog = true := by kernel_rfl
theorem law : Keyed Try.prog 185 := Keyed.of_law (deep_law_laid laidOut (m := 8) (by omega) (of_decide_eq_true (by kernel_rfl)) (by kernel_rfl) (by kernel_rfl))
/-- an element reads as itself -/
def R (v : Value) : Option (DataW Value × List MemPlace) := some (.held v, [])
def kl (t : Int) : Lit := .string (keyBytes [.int .i64 t])
theorem key_lits (d : Nat) {t : Int} (hw : (Lit.int .i64 t).wf = true) : Try.prog.keyLits (d + 2) 185 [.int .i64 t] = some [.int .i64 t] := by
  have hs : Try.prog.cellsOf 185 = 1 := by kernel_rfl
  have h3 : Try.prog.cellsOf 3 = 1 := by kernel_rfl
  have hi : Try.prog.keyLits (d + 1) 3 [.int .i64 t] = some [.int .i64 t] := by
    unfold Program.keyLits
    simp [Try.underlying3, hw]
  unfold Program.keyLits
  simp [Try.underlying185, hs, h3, hi]
theorem hkey {t : Int} (h : -9223372036854775808 ≤ t ∧ t ≤ 9223372036854775807) : keyOf Try.prog 185 (.agg #[.int .i64 t]) = some (kl t) := by
  have hk : Try.prog.keyType 185 = true := by kernel_rfl
  have hs : Try.prog.cellsOf 185 = 1 := by kernel_rfl
  have hw : (Lit.int .i64 t).wf = true := by
    simp [Lit.wf, IntKind.min, IntKind.max, IntKind.bits, IntKind.signed]
    omega
  have hf : (Value.agg #[.int .i64 t]).formed Try.prog 185 = true := by
    simp only [Value.formed, Try.underlying185, hs]
    rfl
  obtain ⟨m, hm⟩ : ∃ m, Try.prog.types.size + 1 = m + 2 := ⟨Try.prog.types.size - 1, by have : 0 < Try.prog.types.size := of_decide_eq_true (by kernel_rfl); omega⟩
  have hl : Try.prog.keyLits (Try.prog.types.size + 1) 185 (Value.agg #[.int .i64 t]).cells.toList = some [.int .i64 t] := by
    rw [hm]
    exact key_lits m hw
  unfold keyOf
  rw [Try.underlying185]
  simp only [hk, hf, Bool.and_self, if_true, hl, Option.map_some, kl]

/-- a request as a value -/
def rq (k o l : Int) (A : Option Addr) (n c : Nat) : Value := .agg #[.int .i64 k, .int .i64 o, .int .i64 l, .slice A n c]
/-- the table at block tb: its bound, its map at block mb, that reads as D -/
structure Tab (w : World) (tb mb : Nat) (most : Int) (n : Nat) (D : DataW Value) : Prop where
  blk : w.heap[tb]? = some (.cells #[.int .i64 most, .map (some mb)] 70 (0, 0))
  own : w.ownsMap Try.prog 185 R mb n D
  ne : tb ≠ mb
theorem Tab.bel {w w' : World} {tb mb : Nat} {most : Int} {n : Nat} {D : DataW Value} (h : Tab w tb mb most n D) (hb : Below w.heap.size w w') : Tab w' tb mb most n D :=
  ⟨(hb.block _ (heap_lt h.blk)).trans h.blk, h.own.kept (row := none) ⟨hb.os, hb.tape, hb.output, hb.size, fun k hk _ => hb.block k hk⟩ (by simp), h.ne⟩

theorem neqMap (mb : Nat) (w : World) : (binOp .neq 68 (.map (some mb)) (.map none)).run Try.prog w = .ok (.bool true) w := by kernel_rfl
theorem c_is {w : World} {tb mb : Nat} {most : Int} {n : Nat} {D : DataW Value} (h : Tab w tb mb most n D) :
    Calls Try.prog 93 #[.pointer (some ⟨tb, 0, none⟩)] w fun e w' => e = .returned (.bool true) ∧ w = w' := by
  have c1 : w.cell? ⟨tb, 1, none⟩ = some (.map (some mb)) := by simp [World.cell?, h.blk]
  have hq := neqMap mb w
  go_enter Try.func93, Try.ntmps93
  go_wp2_with fail
  go_ret
  exact ⟨rfl, rfl⟩
theorem c_Clone (A : Option Addr) (n c : Nat) (b : List UInt8) (w : World) (hb : Byt w A n c b) (hn : n ≤ 140737488351232) :
    Calls Try.prog 146 #[.slice A n c] w fun e w' => ∃ A2 c2, e = .returned (.slice A2 n c2) ∧ Own w' w.heap.size 5 1 A2 n c2 (bytesV b) ∧ Below w.heap.size w w' := by
  have heq := fun (W : World) => Lib.run_eql_slice_nil (P := Try.prog) W 62 5 A n c 0 0 Try.underlying62
  cases A with
  | none =>
    have h0 := hb.nil rfl
    have hl := hb.blen
    have hn : n = 0 := by have := hb.le; omega
    subst hn h0
    obtain rfl : b = [] := List.eq_nil_of_length_eq_zero hl
    go_enter Try.func146, Try.ntmps146
    go_wp2
    go_ret
    exact ⟨none, 0, rfl, World.ownsRow_nil _ _ _ _, Below.refl _ _⟩
  | some ad =>
    go_enter Try.func146, Try.ntmps146
    go_wp2_with (first
      | (at_builtin
         refine wpL_append _ rfl (.tmp 5) (.tmp 6) _ rfl w w.heap.size (bel_alloc (Below.refl _ _) (Nat.le_refl _) _) (size_alloc_le (Nat.le_refl _) _) 5 _ 1 1 Try.underlying62 Num.info_u8 rfl (by omega) _ _ _ [] rfl (own_empty _ _ _ _ (Nat.le_refl _)) _ _ _ _ rfl (hb.alloc _) bytesV_one n (bytesV b) (by omega) rfl (by unfold maxLen; omega) (by omega) ?_
         intro A1 c1 w1 hown1 hb1 hg1 ho1))
    go_ret
    exact ⟨A1, c1, rfl, hown1, hb1⟩


theorem c_own (k o l : Int) (A : Option Addr) (n c : Nat) (b : List UInt8) (w : World) (hb : Byt w A n c b) (hn : n ≤ 140737488351232) :
    Calls Try.prog 94 #[rq k o l A n c] w fun e w' => ∃ A2 c2, e = .returned (rq k o l A2 n c2) ∧ Tw.Own w' w.heap.size 5 1 A2 n c2 (bytesV b) ∧ Below w.heap.size w w' := by
  unfold rq
  have hB : Below w.heap.size w ((w.alloc (.cells #[.int .i64 k, .int .i64 o, .int .i64 l, .slice A n c] 64)).alloc (.cells #[.int .i64 0, .int .i64 0, .int .i64 0, .slice none 0 0] 64)) := ((Below.refl _ _).alloc (Nat.le_refl _) _).alloc (by simp) _
  have h1 : ((w.alloc (.cells #[.int .i64 k, .int .i64 o, .int .i64 l, .slice A n c] 64)).alloc (.cells #[.int .i64 0, .int .i64 0, .int .i64 0, .slice none 0 0] 64)).heap[w.heap.size]? = some (.cells #[.int .i64 k, .int .i64 o, .int .i64 l, .slice A n c] 64 (0, 0)) := by
    rw [Below.heap_alloc _ _ _ (by simp)]
    exact heap_alloc_new w _
  have h2 : ((w.alloc (.cells #[.int .i64 k, .int .i64 o, .int .i64 l, .slice A n c] 64)).alloc (.cells #[.int .i64 0, .int .i64 0, .int .i64 0, .slice none 0 0] 64)).heap[w.heap.size + 1]? = some (.cells #[.int .i64 0, .int .i64 0, .int .i64 0, .slice none 0 0] 64 (0, 0)) := by
    have h := heap_alloc_new (w.alloc (.cells #[.int .i64 k, .int .i64 o, .int .i64 l, .slice A n c] 64)) (.cells #[.int .i64 0, .int .i64 0, .int .i64 0, .slice none 0 0] 64)
    simpa using h
  have HB := Lib.hid hB
  have H1 := Lib.hid h1
  have H2 := Lib.hid h2
  have Hb := Lib.hid hb
  clear hB h1 h2 hb
  go_enter Try.func94, Try.ntmps94
  go_wp2_with (first
    | (go_at_call 146
       (with_reducible refine (c_Clone _ n _ b _ (Hb.out.bel HB.out) hn).mono ?_)
       rintro e w1 ⟨A2, c2, rfl, hown, hb1⟩
       have k1 := (hb1.block _ (heap_lt H1.out)).trans H1.out
       have k2 := (hb1.block _ (heap_lt H2.out)).trans H2.out
       have B1 : Below w.heap.size w w1 := HB.out.trans (hb1.mono HB.out.size)
       clear HB H1 H2 hb1)
    | (refine wpL_store_slice rfl rfl 62 (.tmp 6) (.tmp 5) rfl w.heap.size 3 rfl _ _ _ rfl (by kernel_rfl) _ _ k1 (by simp) ?_
       intro w2 k3 hg2
       simp only [List.setIfInBounds_toArray, List.set_cons_zero, List.set_cons_succ] at k3
       have k4 := heap_grown k2 hg2 (by simp)
       have B2 := B1.grown hg2 B1.size (by rintro k ⟨⟩; omega)
       have ho2 := hown.kept hg2 (own_apart hown (by rintro k ⟨⟩; simp; omega))
       clear k1 k2)
    | (refine wpList_load_row rfl 64 (.tmp 1) rfl _ rfl _ _ _ _ k3 Try.underlying64 rfl (by kernel_rfl) ?_)
    | (refine wpList_store_row rfl 64 (.tmp 2) (.tmp 7) rfl _ _ rfl rfl _ _ k4 (by kernel_rfl) rfl (by simp [Value.oneCell']) ?_))
  (try simp only [Exit.inBlock, Exit.then])
  refine bodyPost_ret (results_cell_row rfl _ _ (w.heap.size + 1) _ _ (0, 0) _ rfl (setRow_heap _ _ _ _ _ _ k4) Try.underlying64 rfl (by kernel_rfl)) rfl ?_
  refine ⟨A2, c2, rfl, ?_, B2.grown (grown_setRow _ _ _) B2.size (by rintro k ⟨⟩; omega)⟩
  exact Tw.Own.mono (ho2.kept (grown_setRow _ _ _) (own_apart ho2 (by rintro k ⟨⟩; simp))) (by simp; omega)
end Go.Proofs.Ytplemdgihlabgaa.Table
