/- Contracts of the package table: Add of a full table, Get, Remove. Conditions: none. -/
import Derived.Test.YtplemdgihlabgaaTable3
set_option linter.unusedVariables false
set_option linter.unusedSimpArgs false
namespace Go.Proofs.Ytplemdgihlabgaa.Table
open Go.RowKit Tw Go.Maps Go.ChangeMaps
set_option maxHeartbeats 2000000
set_option maxRecDepth 100000

theorem results_cell_tmp {P : Program} {fn : Func} {p q : Tmp} {ty : TypeId} (h : fn.results = #[.cell p ty, .tmp q]) (tmps : Array Value) (w : World) (g : Nat) (t : TypeId) (cs : Array Value) (fr : Nat × Nat) (d : TypeDesc)
    (hp : tmps.getD p undef = .pointer (some ⟨g, 0, none⟩)) (hg : w.heap[g]? = some (.cells cs t fr))
    (hu : P.underlying ty = some d) (hd : (match d with | .struct _ | .array _ _ => true | _ => false) = true) (hi : (P.info? ty).map (·.size) = some cs.size) (v : Value) (hv : tmps.getD q undef = v) :
    (results fn tmps).run P w = .ok (.tuple #[.agg cs, v]) w := by
  have hp' : tmps[p]?.getD undef = .pointer (some ⟨g, 0, none⟩) := by simpa using hp
  have hv' : tmps[q]?.getD undef = v := by simpa using hv
  simp [results, h, hp', hv', asAddr, run_loadVar_row w g t ty cs fr d hg hu hd hi]

theorem c_Add_full {w : World} {tb mb : Nat} {most : Int} {n : Nat} {D : DataW Value} (h : Tab w tb mb most n D) (t : Int) (ht : 1 ≤ t ∧ t ≤ 9223372036854775807) (hhas : Maps.has D (kl t) = false) (hat : D.atKey (kl t) (.held (rq 0 0 0 none 0 0)) = .held (rq 0 0 0 none 0 0))
    (hsz : most ≤ (Maps.size D : Int)) (k o l : Int) (A : Option Addr) (m c : Nat) :
    Calls Try.prog 32 #[.pointer (some ⟨tb, 0, none⟩), .int .i64 t, rq k o l A m c] w fun e w' => e = .returned (.int .i64 12) ∧ Below w.heap.size w w' := by
  have hdec : decide (most ≤ (Maps.size D : Int)) = true := decide_eq_true (by omega)
  have Hdec := Lib.hid hdec
  have Hat := Lib.hid hat
  have Hhas := Lib.hid hhas
  have Ht0 := Lib.hid h
  have hB1 : Below w.heap.size w (w.alloc (.cells #[.int .i64 k, .int .i64 o, .int .i64 l, .slice A m c] 64)) := (Below.refl _ _).alloc (Nat.le_refl _) _
  have HB1 := Lib.hid hB1
  unfold rq
  clear hdec hat hhas h hB1
  go_enter Try.func32, Try.ntmps32
  go_wp2_with fail
  generalize (w.alloc (.cells #[.int .i64 k, .int .i64 o, .int .i64 l, .slice A m c] 64)) = W1 at *
  have Ht1 := Lib.hid (Ht0.out.bel HB1.out)
  have d1 := Ht1.out.cell1
  go_wp2_with (first
    | (go_at_call 93
       (with_reducible refine (c_is Ht1.out).mono ?_)
       rintro e w' ⟨rfl, rfl⟩)
    | (at_lookup
       refine wpList_lookup_own_ok _ rfl _ _ 68 rfl 185 64 law Try.underlying68 R (zeroE _) (.held (rq 0 0 0 none 0 0)) [] rfl mb n D rfl Ht1.out.own (.agg #[.int .i64 t]) (kl t) rfl (hkey (by omega)) ?_
       intro v ps hv
       obtain rfl : v = .agg #[.int .i64 0, .int .i64 0, .int .i64 0, .slice none 0 0] := by
         rw [Hat.out] at hv
         simp only [R, rq, Option.some.injEq, Prod.mk.injEq, DataW.held.injEq] at hv
         exact hv.1
       rw [Hhas.out]
       clear hv)
    | (go_at_call 35
       (with_reducible refine (c_Full (Ht1.out.bel ((Below.refl _ _).alloc (Nat.le_refl _) _))).mono ?_)
       rintro e w2 ⟨rfl, hb2⟩
       rw [Hdec.out]
       have B2 : Below w.heap.size w w2 := (bel_alloc HB1.out HB1.out.size _).trans (hb2.mono (size_alloc_le HB1.out.size _))
       clear d1 hb2))
  go_ret
  exact ⟨rfl, B2⟩

theorem c_Get {w : World} {tb mb : Nat} {most : Int} {n : Nat} {D : DataW Value} (h : Tab w tb mb most n D) (t : Int) (ht : 1 ≤ t ∧ t ≤ 9223372036854775807) (bo : Bool) (hhas : Maps.has D (kl t) = bo) (k o l : Int) (A : Option Addr) (m c : Nat) (b : List UInt8) (hat : D.atKey (kl t) (.held (rq 0 0 0 none 0 0)) = .held (rq k o l A m c))
    (hb : Byt w A m c b) (hm : m ≤ 140737488351232) :
    Calls Try.prog 31 #[.pointer (some ⟨tb, 0, none⟩), .int .i64 t] w fun e w' => ∃ A2 c2, e = .returned (.tuple #[rq k o l A2 m c2, .bool bo]) ∧ Tw.Own w' w.heap.size 5 1 A2 m c2 (bytesV b) ∧ Below w.heap.size w w' := by
  have Hat := Lib.hid hat
  have Hhas := Lib.hid hhas
  have Ht0 := Lib.hid h
  have hB1 : Below w.heap.size w (w.alloc (.cells #[.int .i64 0, .int .i64 0, .int .i64 0, .slice none 0 0] 64)) := (Below.refl _ _).alloc (Nat.le_refl _) _
  have hx1 : (w.alloc (.cells #[.int .i64 0, .int .i64 0, .int .i64 0, .slice none 0 0] 64)).heap[w.heap.size]? = some (.cells #[.int .i64 0, .int .i64 0, .int .i64 0, .slice none 0 0] 64 (0, 0)) := heap_alloc_new w _
  have HB1 := Lib.hid hB1
  have Hx1 := Lib.hid hx1
  have Hb := Lib.hid hb
  clear hat hhas h hB1 hx1 hb
  go_enter Try.func31, Try.ntmps31
  go_wp2_with fail
  generalize (w.alloc (.cells #[.int .i64 0, .int .i64 0, .int .i64 0, .slice none 0 0] 64)) = W1 at *
  have Ht1 := Lib.hid (Ht0.out.bel HB1.out)
  have d1 := Ht1.out.cell1
  have hB2 : Below w.heap.size w (W1.alloc (.cells #[.int .i64 k, .int .i64 o, .int .i64 l, .slice A m c] 64)) := HB1.out.alloc HB1.out.size _
  have hx2 : (W1.alloc (.cells #[.int .i64 k, .int .i64 o, .int .i64 l, .slice A m c] 64)).heap[W1.heap.size]? = some (.cells #[.int .i64 k, .int .i64 o, .int .i64 l, .slice A m c] 64 (0, 0)) := heap_alloc_new W1 _
  have hx3 := (Below.heap_alloc W1 (.cells #[.int .i64 k, .int .i64 o, .int .i64 l, .slice A m c] 64) _ (heap_lt Hx1.out)).trans Hx1.out
  have HB2 := Lib.hid hB2
  have Hx2 := Lib.hid hx2
  have Hx3 := Lib.hid hx3
  clear hB2 hx2 hx3
  go_wp2_with (first
    | (go_at_call 93
       (with_reducible refine (c_is Ht1.out).mono ?_)
       rintro e w' ⟨rfl, rfl⟩)
    | (at_lookup
       refine wpList_lookup_own_ok _ rfl _ _ 68 rfl 185 64 law Try.underlying68 R (zeroE _) (.held (rq 0 0 0 none 0 0)) [] rfl mb n D rfl Ht1.out.own (.agg #[.int .i64 t]) (kl t) rfl (hkey (by omega)) ?_
       intro v ps hv
       obtain rfl : v = .agg #[.int .i64 k, .int .i64 o, .int .i64 l, .slice A m c] := by
         rw [Hat.out] at hv
         simp only [R, rq, Option.some.injEq, Prod.mk.injEq, DataW.held.injEq] at hv
         exact hv.1
       rw [Hhas.out]
       clear hv)
    | (go_at_call 94
       refine (c_own k o l A m c b _ (Hb.out.bel HB2.out) hm).mono ?_
       rintro e w3 ⟨A2, c2, rfl, hown, hb3⟩
       have B3 : Below w.heap.size w w3 := HB2.out.trans (hb3.mono HB2.out.size)
       have k3 := (hb3.block _ (heap_lt Hx3.out)).trans Hx3.out
       have o3 := hown.mono (Nat.succ_le_of_lt (heap_lt Hx3.out))
       unfold rq
       clear d1 hb3 hown)
    | (refine wpList_store_row rfl 64 (.tmp 4) (.tmp 23) rfl _ _ rfl rfl _ _ k3 (by kernel_rfl) rfl (by simp [Value.oneCell']) ?_))
  (try simp only [Exit.inBlock, Exit.then])
  refine bodyPost_ret (results_cell_tmp rfl _ _ w.heap.size _ _ (0, 0) _ rfl (setRow_heap _ _ _ _ _ _ k3) Try.underlying64 rfl (by kernel_rfl) _ rfl) rfl ?_
  exact ⟨A2, c2, rfl, Tw.Own.mono (o3.kept (grown_setRow _ _ _) (own_apart o3 (by rintro k ⟨⟩; omega))) (Nat.le_succ _), B3.grown (grown_setRow _ _ _) B3.size (by rintro k ⟨⟩; omega)⟩

theorem c_Remove {w : World} {tb mb : Nat} {most : Int} {n : Nat} {D : DataW Value} (h : Tab w tb mb most n D) (t : Int) (ht : 1 ≤ t ∧ t ≤ 9223372036854775807) (bo : Bool) (hhas : Maps.has D (kl t) = bo) (k o l : Int) (A : Option Addr) (m c : Nat) (hat : D.atKey (kl t) (.held (rq 0 0 0 none 0 0)) = .held (rq k o l A m c)) :
    Calls Try.prog 33 #[.pointer (some ⟨tb, 0, none⟩), .int .i64 t] w fun e w' => e = .returned (.bool bo) ∧ Tab w' tb mb most n (D.del (kl t)) ∧ w.grownBy w' (some mb) := by
  have Hat := Lib.hid hat
  have Hhas := Lib.hid hhas
  have Ht1 := Lib.hid h
  have d1 := Ht1.out.cell1
  have hB2 : Below w.heap.size w (w.alloc (.cells #[.int .i64 k, .int .i64 o, .int .i64 l, .slice A m c] 64)) := (Below.refl _ _).alloc (Nat.le_refl _) _
  have HB2 := Lib.hid hB2
  have Ht2 := Lib.hid (h.bel hB2)
  have d2 := Ht2.out.cell1
  clear hat hhas h hB2
  go_enter Try.func33, Try.ntmps33
  go_wp2_with (first
    | (go_at_call 93
       (with_reducible refine (c_is Ht1.out).mono ?_)
       rintro e w' ⟨rfl, rfl⟩)
    | (at_lookup
       refine wpList_lookup_own_ok _ rfl _ _ 68 rfl 185 64 law Try.underlying68 R (zeroE _) (.held (rq 0 0 0 none 0 0)) [] rfl mb n D rfl Ht1.out.own (.agg #[.int .i64 t]) (kl t) rfl (hkey (by omega)) ?_
       intro v ps hv
       obtain rfl : v = .agg #[.int .i64 k, .int .i64 o, .int .i64 l, .slice A m c] := by
         rw [Hat.out] at hv
         simp only [R, rq, Option.some.injEq, Prod.mk.injEq, DataW.held.injEq] at hv
         exact hv.1
       rw [Hhas.out]
       clear hv)
    | (at_delete
       refine wpList_delete_own _ rfl _ _ 68 185 rfl 64 law Try.underlying68 R mb n D rfl Ht2.out.own _ (kl t) rfl (hkey (by omega)) ?_
       intro w4 hown4 hturn))
  go_ret
  exact ⟨rfl, ⟨heap_grown Ht2.out.blk hturn.grown (by simpa using Ht2.out.ne), hown4, Ht2.out.ne⟩, (grown_bel HB2.out).trans hturn.grown⟩
end Go.Proofs.Ytplemdgihlabgaa.Table
