/- Contracts of the package disk: Read. Conditions: at most 10^9 operations. -/
import Derived.Test.YtpbcmghfhflkbaaDisk3
import Derived.Deep.CutBlock
set_option linter.unusedVariables false
set_option linter.unusedSimpArgs false
namespace Go.Proofs.Ytpbcmghfhflkbaa.Disk
open Go.RowKit Tw Go.Maps Go.ChangeMaps
set_option maxHeartbeats 2000000
set_option maxRecDepth 100000

theorem results_cell2 {P : Program} {fn : Func} {p q : Tmp} {ty : TypeId} (h : fn.results = #[.cell p ty, .tmp q]) (tmps : Array Value) (w : World) (g : Nat) (t : TypeId) (cs : Array Value) (fr : Nat × Nat) (d : TypeDesc)
    (hp : tmps.getD p undef = .pointer (some ⟨g, 0, none⟩)) (hg : w.heap[g]? = some (.cells cs t fr))
    (hu : P.underlying ty = some d) (hd : (match d with | .struct _ | .array _ _ => true | _ => false) = true) (hi : (P.info? ty).map (·.size) = some cs.size) (v : Value) (hv : tmps.getD q undef = v) :
    (results fn tmps).run P w = .ok (.tuple #[.agg cs, v]) w := by
  have hp' : tmps[p]?.getD undef = .pointer (some ⟨g, 0, none⟩) := by simpa using hp
  have hv' : tmps[q]?.getD undef = v := by simpa using hv
  simp [results, h, hp', hv', asAddr, run_loadVar_row w g t ty cs fr d hg hu hd hi]
theorem wpL_load_rd {P : Program} {ops : Array Oper} {rest : List Oper} {w : World} {o : Oper} {a : Act} {Q : Exit → Act → World → Prop} (hgd : o.guard = none) (ty : TypeId) (x : Operand) (ho : o.op = .load ty x)
    (ad : Addr) (hx : a.eval x = .pointer (some ad)) (cs : List Value) (d : TypeDesc) (hc : ∀ j v, cs[j]? = some v → w.cell? (ad.add j) = some v)
    (hu : P.underlying ty = some d) (hd : d.isRow = true) (hi : (P.info? ty).map (·.size) = some cs.length) (h : wpList P ops Q rest (a.put o.dst (.agg cs.toArray)) w) : wpList P ops Q (o :: rest) a w :=
  wpList_plain hgd fun _ hK => wp_load_rd ty x ho ad hx cs d hc hu hd hi (hK _ _ h)
/-- a whole row stored -/
theorem wpL_store_all {P : Program} {ops : Array Oper} {rest : List Oper} {w : World} {o : Oper} {a : Act} {Q : Exit → Act → World → Prop} (hgd : o.guard = none) (hds : o.dst = none) (ty : TypeId) (x y : Operand)
    (ho : o.op = .store ty x y) (g : Nat) (hx : a.eval x = .pointer (some ⟨g, 0, none⟩)) (cs : Array Value) (hy : a.eval y = .agg cs) (t : TypeId) (old : Array Value) (hg : w.heap[g]? = some (.cells old t (0, 0)))
    (hi : (P.info? ty).map (·.size) = some cs.size) (hs : cs.size = old.size) (h1 : ∀ v ∈ cs, v.oneCell' = true)
    (h : ∀ w', w'.heap[g]? = some (.cells cs t (0, 0)) → w.grownBy w' (some g) → wpList P ops Q rest a w') : wpList P ops Q (o :: rest) a w := by
  refine wpList_store_row hgd ty x y ho g cs hx hy t old hg hi hs.symm (Array.all_eq_true_iff_forall_mem.2 h1) ?_
  rw [hds]
  exact h _ (setRow_heap _ _ _ _ _ _ hg) (grown_setRow _ _ _)
section
variable {w w' : World} {p g mb c : Nat} {d : Dsk}
theorem zeroE (w : World) : (zeroValue 35).run Try.prog w = .ok (secV zs) w := by kernel_rfl
theorem zcells : (bytesV zs).toArray = #[.int .u8 0, .int .u8 0, .int .u8 0, .int .u8 0, .int .u8 0, .int .u8 0, .int .u8 0, .int .u8 0, .int .u8 0, .int .u8 0, .int .u8 0, .int .u8 0, .int .u8 0, .int .u8 0, .int .u8 0, .int .u8 0] := by kernel_rfl
theorem read_len (h : d.Ok) (x : Int) : (d.read x).1.length = 16 := by
  unfold Dsk.read
  split
  · rename_i hh
    split
    · exact zs_len
    · exact h.view (cell_mem hh)
  · exact zs_len
theorem c_dRead (h : Dk w p g mb c d) (x : Int) (hx : -9223372036854775808 ≤ x ∧ x ≤ 9223372036854775807) :
    Calls Try.prog 181 #[.pointer (some ⟨p, 0, none⟩), .int .i64 x] w fun e w' => e = .returned (.tuple #[secV (d.read x).1, .int .i64 ((d.read x).2 : Int)]) ∧ Below w.heap.size w w' := by
  have HB := Lib.hid ((Below.refl w.heap.size w).alloc (Nat.le_refl _) (.cells #[.int .u8 0, .int .u8 0, .int .u8 0, .int .u8 0, .int .u8 0, .int .u8 0, .int .u8 0, .int .u8 0, .int .u8 0, .int .u8 0, .int .u8 0, .int .u8 0, .int .u8 0, .int .u8 0, .int .u8 0, .int .u8 0] 35))
  have H := Lib.hid (h.bel HB.out)
  have HX := Lib.hid (heap_alloc_new w (.cells #[.int .u8 0, .int .u8 0, .int .u8 0, .int .u8 0, .int .u8 0, .int .u8 0, .int .u8 0, .int .u8 0, .int .u8 0, .int .u8 0, .int .u8 0, .int .u8 0, .int .u8 0, .int .u8 0, .int .u8 0, .int .u8 0] 35))
  obtain ⟨k0, k1, k2, k3, k4⟩ := H.out.cells
  clear h
  by_cases hh : d.has x
  · obtain ⟨n, rfl⟩ : ∃ n : Nat, x = (n : Int) := ⟨x.toNat, by have := (has_iff d x).1 hh; omega⟩
    have hd := Lib.hid (decide_eq_true hh)
    cases hb : d.broken with
    | true =>
      have hw : Hid (d.read (n : Int) = (zs, 3)) := Lib.hid (by unfold Dsk.read; rw [if_pos hh, if_pos hb])
      rw [hb] at k3
      clear hh hb
      go_enter Try.func181, Try.ntmps181
      go_upto_block 0 with (fail)
      generalize (w.alloc (.cells #[.int .u8 0, .int .u8 0, .int .u8 0, .int .u8 0, .int .u8 0, .int .u8 0, .int .u8 0, .int .u8 0, .int .u8 0, .int .u8 0, .int .u8 0, .int .u8 0, .int .u8 0, .int .u8 0, .int .u8 0, .int .u8 0] 35)) = W1 at *
      go_wp2_with (first
        | (go_at_call 90
           (with_reducible refine (c_Made H.out).mono ?_)
           rintro e w' ⟨rfl, rfl⟩)
        | (go_at_call 102
           (with_reducible refine (c_has H.out _).mono ?_)
           rintro e w' ⟨rfl, rfl⟩
           rw [hd.out])
        | (refine wpL_store_all rfl rfl 35 (.tmp 4) (.tmp 24) rfl _ rfl _ rfl _ _ HX.out (by kernel_rfl) rfl (by simp [Value.oneCell']) ?_
           intro w2 x2 g2
           have HR := Lib.hid x2
           have HBR := Lib.hid (HB.out.grown g2 HB.out.size (by rintro k ⟨⟩; exact Nat.le_refl _))
           clear x2 g2))
      refine bodyPost_ret (results_cell2 rfl _ _ w.heap.size _ _ (0, 0) _ rfl HR.out Try.underlying35 rfl (by kernel_rfl) _ rfl) rfl ?_
      rw [hw.out]
      exact ⟨by first | rfl | (unfold secV; rw [zcells]; rfl), HBR.out⟩
    | false =>
      have hsz : Hid ((bytesV (view (d.cell (n : Int)))).toArray.size = 16) := Lib.hid (by simp [bytesV]; exact H.out.ok.view (cell_mem hh))
      have hw : Hid (d.read (n : Int) = (view (d.cell (n : Int)), 0)) := Lib.hid (by unfold Dsk.read; rw [if_pos hh, hb]; rfl)
      have hfr : d.fresh (n : Int) = (d.cell (n : Int)).2 := by unfold Dsk.fresh; rw [if_pos hh]
      obtain ⟨D, m, hm, hle, hi⟩ := H.out.map
      obtain ⟨hi1, hi2⟩ := hi (n : Int)
      rw [hfr] at hi1 hi2
      rw [hb] at k3
      have hsafe : ∀ j v, (bytesV (d.cell (n : Int)).1)[j]? = some v → (w.alloc (.cells #[.int .u8 0, .int .u8 0, .int .u8 0, .int .u8 0, .int .u8 0, .int .u8 0, .int .u8 0, .int .u8 0, .int .u8 0, .int .u8 0, .int .u8 0, .int .u8 0, .int .u8 0, .int .u8 0, .int .u8 0, .int .u8 0] 35)).cell? ((⟨g, n * 16, none⟩ : Addr).add j) = some v := fun j v hv => by
        have hj := (List.getElem?_eq_some_iff.1 hv).1
        rw [bytesV_length, H.out.ok.safe _ (cell_mem hh)] at hj
        have h1 : (bytesV (durable d))[n * 16 + j]? = some v := by
          have h2 := durable_get H.out.ok hh hj
          rw [Int.toNat_natCast] at h2
          simp only [bytesV, List.getElem?_map] at hv ⊢
          rw [h2, hv]
        have h3 := H.out.own.rd.cell _ rfl _ _ h1
        rw [Addr.add_mid, Nat.zero_add] at h3
        rw [Addr.add_mid]
        exact h3
      have hs16 : (bytesV (d.cell (n : Int)).1).length = 16 := by rw [bytesV_length]; exact H.out.ok.safe _ (cell_mem hh)
      have hx2 := (has_iff d (n : Int)).1 hh
      have hnn := H.out.ok.n
      have Hi1 := Lib.hid hi1
      have Hi2 := Lib.hid hi2
      have Hm := Lib.hid hm
      have Hsafe := Lib.hid hsafe
      have Hs16 := Lib.hid hs16
      have hnl : n < d.cells.length := by omega
      clear hx2
      cases hc : (d.cell (n : Int)).2 with
      | some s =>
        have hvs : Hid (view (d.cell (n : Int)) = s) := Lib.hid (by unfold view; rw [hc]; rfl)
        rw [hc] at Hi1 Hi2
        rw [hvs.out] at hsz hw
        clear hh hb hfr hi hi1 hi2 hm hsafe hs16 hc hvs Hsafe Hs16
        go_enter Try.func181, Try.ntmps181
        go_upto_block 0 with (fail)
        generalize (w.alloc (.cells #[.int .u8 0, .int .u8 0, .int .u8 0, .int .u8 0, .int .u8 0, .int .u8 0, .int .u8 0, .int .u8 0, .int .u8 0, .int .u8 0, .int .u8 0, .int .u8 0, .int .u8 0, .int .u8 0, .int .u8 0, .int .u8 0] 35)) = W1 at *
        have HX6 := Lib.hid (heap_alloc_new W1 (.cells #[.int .u8 0, .int .u8 0, .int .u8 0, .int .u8 0, .int .u8 0, .int .u8 0, .int .u8 0, .int .u8 0, .int .u8 0, .int .u8 0, .int .u8 0, .int .u8 0, .int .u8 0, .int .u8 0, .int .u8 0, .int .u8 0] 35))
        have HY := Lib.hid (((Below.refl _ _).alloc (Nat.le_refl W1.heap.size) (.cells #[.int .u8 0, .int .u8 0, .int .u8 0, .int .u8 0, .int .u8 0, .int .u8 0, .int .u8 0, .int .u8 0, .int .u8 0, .int .u8 0, .int .u8 0, .int .u8 0, .int .u8 0, .int .u8 0, .int .u8 0, .int .u8 0] 35)))
        go_wp2_with (first
          | (go_at_call 90
             (with_reducible refine (c_Made H.out).mono ?_)
             rintro e w' ⟨rfl, rfl⟩)
          | (go_at_call 102
             (with_reducible refine (c_has H.out _).mono ?_)
             rintro e w' ⟨rfl, rfl⟩
             rw [hd.out])
          | (at_lookup
             refine wpList_lookup_own_ok _ rfl _ _ 176 rfl 3 35 law Try.underlying176 R (zeroE _) (.held (secV zs)) [] rfl mb m D rfl Hm.out (.int .i64 (n : Int)) (kl n) rfl (hkey hx) ?_
             intro v ps hv
             obtain rfl : v = .agg (bytesV s).toArray := by
               rw [Hi2.out] at hv
               simp only [R, atOf, secV, Option.some.injEq, Prod.mk.injEq, DataW.held.injEq] at hv
               exact hv.1
             rw [Hi1.out]
             simp only [Option.isSome_some]
             clear hv)
          | (refine wpL_store_all rfl rfl 35 (.tmp 6) (.tmp 32) rfl _ rfl _ rfl _ _ HX6.out (by rw [hsz.out]; kernel_rfl) hsz.out (fun v hv => bytesV_one v (by simpa using hv)) ?_
             intro w2 x2 g2
             have HX2 := Lib.hid x2
             have HX := Lib.hid (heap_grown ((HY.out.block _ (heap_lt HX.out)).trans HX.out) g2 (by have := heap_lt HX.out; simp; omega))
             have HB := Lib.hid ((HB.out.trans (HY.out.mono HB.out.size)).grown g2 (by have := HB.out.size; simp; omega) (by rintro k ⟨⟩; exact HB.out.size))
             clear x2 g2)
          | (refine wpList_load_row rfl 35 (.tmp 6) rfl _ rfl _ _ _ _ HX2.out Try.underlying35 rfl (by rw [hsz.out]; kernel_rfl) ?_)
          | (refine wpL_store_all rfl rfl 35 (.tmp 4) (.tmp 35) rfl _ rfl _ rfl _ _ HX.out (by rw [hsz.out]; kernel_rfl) hsz.out (fun v hv => bytesV_one v (by simpa using hv)) ?_
             intro w3 x3 g3
             have HR := Lib.hid x3
             have HBR := Lib.hid (HB.out.grown g3 HB.out.size (by rintro k ⟨⟩; exact Nat.le_refl _))
             clear x3 g3))
        refine bodyPost_ret (results_cell2 rfl _ _ w.heap.size _ _ (0, 0) _ rfl HR.out Try.underlying35 rfl (by rw [hsz.out];kernel_rfl) _ rfl) rfl ?_
        rw [hw.out]
        exact ⟨by first | rfl | (unfold secV; rw [zcells]; rfl), HBR.out⟩
      | none =>
        have hvs : Hid (view (d.cell (n : Int)) = (d.cell (n : Int)).1) := Lib.hid (by unfold view; rw [hc]; rfl)
        rw [hc] at Hi1 Hi2
        rw [hvs.out] at hsz hw
        clear hh hb hfr hi hi1 hi2 hm hsafe hs16 hc hvs
        generalize (d.cell (n : Int)).1 = s at *
        go_enter Try.func181, Try.ntmps181
        go_upto_block 0 with (fail)
        generalize (w.alloc (.cells #[.int .u8 0, .int .u8 0, .int .u8 0, .int .u8 0, .int .u8 0, .int .u8 0, .int .u8 0, .int .u8 0, .int .u8 0, .int .u8 0, .int .u8 0, .int .u8 0, .int .u8 0, .int .u8 0, .int .u8 0, .int .u8 0] 35)) = W1 at *
        have HX6 := Lib.hid (heap_alloc_new W1 (.cells #[.int .u8 0, .int .u8 0, .int .u8 0, .int .u8 0, .int .u8 0, .int .u8 0, .int .u8 0, .int .u8 0, .int .u8 0, .int .u8 0, .int .u8 0, .int .u8 0, .int .u8 0, .int .u8 0, .int .u8 0, .int .u8 0] 35))
        have HY := Lib.hid (((Below.refl _ _).alloc (Nat.le_refl W1.heap.size) (.cells #[.int .u8 0, .int .u8 0, .int .u8 0, .int .u8 0, .int .u8 0, .int .u8 0, .int .u8 0, .int .u8 0, .int .u8 0, .int .u8 0, .int .u8 0, .int .u8 0, .int .u8 0, .int .u8 0, .int .u8 0, .int .u8 0] 35)))
        go_wp2_with (first
          | (go_at_call 90
             (with_reducible refine (c_Made H.out).mono ?_)
             rintro e w' ⟨rfl, rfl⟩)
          | (go_at_call 102
             (with_reducible refine (c_has H.out _).mono ?_)
             rintro e w' ⟨rfl, rfl⟩
             rw [hd.out])
          | (at_lookup
             refine wpList_lookup_own_ok _ rfl _ _ 176 rfl 3 35 law Try.underlying176 R (zeroE _) (.held (secV zs)) [] rfl mb m D rfl Hm.out (.int .i64 (n : Int)) (kl n) rfl (hkey hx) ?_
             intro v ps hv
             obtain rfl : v = .agg #[.int .u8 0, .int .u8 0, .int .u8 0, .int .u8 0, .int .u8 0, .int .u8 0, .int .u8 0, .int .u8 0, .int .u8 0, .int .u8 0, .int .u8 0, .int .u8 0, .int .u8 0, .int .u8 0, .int .u8 0, .int .u8 0] := by
               rw [Hi2.out] at hv
               simp only [R, atOf, secV, Option.some.injEq, Prod.mk.injEq, DataW.held.injEq] at hv
               rw [hv.1, zcells]
             rw [Hi1.out]
             simp only [Option.isSome_none]
             clear hv)
          | (refine wpL_store_all rfl rfl 35 (.tmp 6) (.tmp 32) rfl _ rfl _ rfl _ _ HX6.out (by kernel_rfl) rfl (by simp [Value.oneCell']) ?_
             intro w2 x2 g2
             have HX2 := Lib.hid x2
             have HX := Lib.hid (heap_grown ((HY.out.block _ (heap_lt HX.out)).trans HX.out) g2 (by have := heap_lt HX.out; simp; omega))
             have HB := Lib.hid ((HB.out.trans (HY.out.mono HB.out.size)).grown g2 (by have := HB.out.size; simp; omega) (by rintro k ⟨⟩; exact HB.out.size))
             have HW := (HY.out.grown g2 HY.out.size (by rintro k ⟨⟩; exact Nat.le_refl _))
             have Hsafe := Lib.hid (fun j v hv => (HW.cell (block_lt_of_cell (Hsafe.out j v hv))).trans (Hsafe.out j v hv))
             have kk0 := (HW.cell (block_lt_of_cell k0)).trans k0
             clear x2 g2 HW)
          | (refine wpL_load_rd rfl 35 (.tmp 41) rfl ⟨g, n * 16, none⟩ rfl (bytesV s) _ Hsafe.out Try.underlying35 rfl (by rw [Hs16.out]; kernel_rfl) ?_)
          | (refine wpL_store_all rfl rfl 35 (.tmp 4) (.tmp 42) rfl _ rfl _ rfl _ _ HX.out (by rw [hsz.out]; kernel_rfl) hsz.out (fun v hv => bytesV_one v (by simpa using hv)) ?_
             intro w3 x3 g3
             have HR := Lib.hid x3
             have HBR := Lib.hid (HB.out.grown g3 HB.out.size (by rintro k ⟨⟩; exact Nat.le_refl _))
             clear x3 g3))
        refine bodyPost_ret (results_cell2 rfl _ _ w.heap.size _ _ (0, 0) _ rfl HR.out Try.underlying35 rfl (by rw [hsz.out];kernel_rfl) _ rfl) rfl ?_
        rw [hw.out]
        exact ⟨by first | rfl | (unfold secV; rw [zcells]; rfl), HBR.out⟩
  · have hd := Lib.hid (decide_eq_false hh)
    have hw : Hid (d.read x = (zs, 13)) := Lib.hid (by unfold Dsk.read; rw [if_neg hh])
    clear hh
    go_enter Try.func181, Try.ntmps181
    go_upto_block 0 with (fail)
    generalize (w.alloc (.cells #[.int .u8 0, .int .u8 0, .int .u8 0, .int .u8 0, .int .u8 0, .int .u8 0, .int .u8 0, .int .u8 0, .int .u8 0, .int .u8 0, .int .u8 0, .int .u8 0, .int .u8 0, .int .u8 0, .int .u8 0, .int .u8 0] 35)) = W1 at *
    go_wp2_with (first
      | (go_at_call 90
         (with_reducible refine (c_Made H.out).mono ?_)
         rintro e w' ⟨rfl, rfl⟩)
      | (go_at_call 102
         (with_reducible refine (c_has H.out _).mono ?_)
         rintro e w' ⟨rfl, rfl⟩
         rw [hd.out])
      | (refine wpL_store_all rfl rfl 35 (.tmp 4) (.tmp 18) rfl _ rfl _ rfl _ _ HX.out (by kernel_rfl) rfl (by simp [Value.oneCell']) ?_
         intro w2 x2 g2
         have HR := Lib.hid x2
         have HBR := Lib.hid (HB.out.grown g2 HB.out.size (by rintro k ⟨⟩; exact Nat.le_refl _))
         clear x2 g2))
    refine bodyPost_ret (results_cell2 rfl _ _ w.heap.size _ _ (0, 0) _ rfl HR.out Try.underlying35 rfl (by kernel_rfl) _ rfl) rfl ?_
    rw [hw.out]
    exact ⟨by first | rfl | (unfold secV; rw [zcells]; rfl), HBR.out⟩
end
end Go.Proofs.Ytpbcmghfhflkbaa.Disk
