/- Contracts of the package table: Add, Get. Conditions: none. -/
import Derived.Test.YtplemdgihlabgaaTable2
set_option linter.unusedVariables false
set_option linter.unusedSimpArgs false
namespace Go.Proofs.Ytplemdgihlabgaa.Table
open Go.RowKit Tw Go.Maps Go.ChangeMaps
set_option maxHeartbeats 2000000
set_option maxRecDepth 100000

theorem zeroE (w : World) : (zeroValue 64).run Try.prog w = .ok (rq 0 0 0 none 0 0) w := by kernel_rfl
theorem Tab.grown {w w' : World} {tb mb : Nat} {most : Int} {n : Nat} {D : DataW Value} (h : Tab w tb mb most n D) (hb : w.grownBy w' none) : Tab w' tb mb most n D := h.bel (bel_grown hb)
theorem Tab.cell1 {w : World} {tb mb : Nat} {most : Int} {n : Nat} {D : DataW Value} (h : Tab w tb mb most n D) : w.cell? ⟨tb, 1, none⟩ = some (.map (some mb)) := by simp [World.cell?, h.blk]

theorem c_Add_ok {w : World} {tb mb : Nat} {most : Int} {n : Nat} {D : DataW Value} (h : Tab w tb mb most n D) (t : Int) (ht : 1 ≤ t ∧ t ≤ 9223372036854775807) (hhas : Maps.has D (kl t) = false) (hat : D.atKey (kl t) (.held (rq 0 0 0 none 0 0)) = .held (rq 0 0 0 none 0 0))
    (hsz : (Maps.size D : Int) < most) (hn : n < 1000) (k o l : Int) (A : Option Addr) (m c : Nat) (b : List UInt8) (hb : Byt w A m c b) (hm : m ≤ 140737488351232) :
    Calls Try.prog 32 #[.pointer (some ⟨tb, 0, none⟩), .int .i64 t, rq k o l A m c] w fun e w' => ∃ A2 c2, e = .returned (.int .i64 0) ∧ Tab w' tb mb most (n + 1) (D.put (kl t) (.held (rq k o l A2 m c2))) ∧ Tw.Own w' w.heap.size 5 1 A2 m c2 (bytesV b) ∧ w.grownBy w' (some mb) := by
  have hdec : decide (most ≤ (Maps.size D : Int)) = false := decide_eq_false (by omega)
  have Hdec := Lib.hid hdec
  have Hat := Lib.hid hat
  have Hhas := Lib.hid hhas
  have Ht0 := Lib.hid h
  have Hb := Lib.hid hb
  have hB1 : Below w.heap.size w (w.alloc (.cells #[.int .i64 k, .int .i64 o, .int .i64 l, .slice A m c] 64)) := (Below.refl _ _).alloc (Nat.le_refl _) _
  have hx1 : (w.alloc (.cells #[.int .i64 k, .int .i64 o, .int .i64 l, .slice A m c] 64)).heap[w.heap.size]? = some (.cells #[.int .i64 k, .int .i64 o, .int .i64 l, .slice A m c] 64 (0, 0)) := heap_alloc_new w _
  have HB1 := Lib.hid hB1
  have Hx1 := Lib.hid hx1
  have htl := heap_lt h.blk
  unfold rq
  clear hdec hat hhas h hb hB1 hx1
  go_enter Try.func32, Try.ntmps32
  go_wp2_with fail
  generalize (w.alloc (.cells #[.int .i64 k, .int .i64 o, .int .i64 l, .slice A m c] 64)) = W1 at *
  have Ht1 := Lib.hid (Ht0.out.bel HB1.out)
  have d1 := Ht1.out.cell1
  go_wp2_with (first
    | (go_at_call 93
       (with_reducible refine (c_is Ht1.out).mono ?_)
       rintro e w' ⟨rfl, rfl⟩)
    | (at_lookup
       refine wpList_lookup_own_ok _ rfl _ _ 68 rfl 185 64 law Try.underlying68 R (zeroE _) (.held (rq 0 0 0 none 0 0)) [] rfl mb n D rfl Ht1.out.own (.agg #[.int .i64 t]) (kl t) rfl (hkey (by omega)) ?_
       intro v ps hv
       obtain rfl : v = .agg #[.int .i64 0, .int .i64 0, .int .i64 0, .slice none 0 0] := by
         rw [Hat.out] at hv
         simp only [R, rq, Option.some.injEq, Prod.mk.injEq, DataW.held.injEq] at hv
         exact hv.1
       rw [Hhas.out]
       clear hv)
    | (go_at_call 35
       (with_reducible refine (c_Full (Ht1.out.bel ((Below.refl _ _).alloc (Nat.le_refl _) _))).mono ?_)
       rintro e w2 ⟨rfl, hb2⟩
       rw [Hdec.out]
       have B2 : Below w.heap.size w w2 := (bel_alloc HB1.out HB1.out.size _).trans (hb2.mono (size_alloc_le HB1.out.size _))
       have G2 : Below W1.heap.size W1 w2 := ((Below.refl _ _).alloc (Nat.le_refl _) _).trans (hb2.mono (size_alloc_le (Nat.le_refl _) _))
       have Ht2 := Lib.hid (Ht1.out.bel G2)
       have Hx2 := Lib.hid ((G2.block _ (heap_lt Hx1.out)).trans Hx1.out)
       have Hb2 := Lib.hid (Hb.out.bel B2)
       clear d1 hb2 G2))
  have hw2 := B2.size
  refine wp_region_phi (by kernel_rfl) 8 none (fun _ => false) (fun i_ v wz => match i_ with
    | 0 => v = .pointer (some ⟨tb, 0, none⟩)
    | 1 => v = .pointer (some ⟨tb, 0, none⟩)
    | 2 => v = .pointer (some ⟨tb, 1, none⟩)
    | 3 => v = .map (some mb)
    | 4 => v = .int .i64 t
    | 5 => v = .agg #[.int .i64 t]
    | 6 => v = .agg #[.int .i64 k, .int .i64 o, .int .i64 l, .slice A m c]
    | 7 => ∃ A2 c2, v = .agg #[.int .i64 k, .int .i64 o, .int .i64 l, .slice A2 m c2] ∧ Tw.Own wz w2.heap.size 5 1 A2 m c2 (bytesV b)
    | _ => True) (by kernel_rfl) ?_ ?_ ?_
  · (repeat' (first | exact allLt_zero | refine allLt_succ ?_ ?_))
    · exact fun _ _ _ h _ => h
    · exact fun _ _ _ h _ => h
    · exact fun _ _ _ h _ => h
    · exact fun _ _ _ h _ => h
    · exact fun _ _ _ h _ => h
    · exact fun _ _ _ h _ => h
    · exact fun _ _ _ h _ => h
    · intro v w1 w2 h hg
      rw [show kindRow _ _ = none from by kernel_rfl] at hg
      obtain ⟨A3, c3, rfl, hr⟩ := h
      exact ⟨A3, c3, rfl, Tw.Own.bel hr (bel_grown hg)⟩
  · (repeat' (first | exact allLt_zero | refine allLt_succ ?_ ?_))
    · intro a w' hf he
      have k0 : a.tmps.getD 0 undef = .pointer (some ⟨tb, 0, none⟩) := hf.var (by kernel_rfl) rfl
      refine wpOp_step rfl (fun K hK => ?_)
      go_simp
      exact hK _ _ ⟨_, rfl, rfl, World.grownBy.refl _ _⟩
    · intro a w' hf he
      have f0 : a.tmps.getD 29 undef = .pointer (some ⟨tb, 0, none⟩) := he 0 (by kernel_rfl)
      refine wpOp_step rfl (fun K hK => ?_)
      go_simp
      exact hK _ _ ⟨_, rfl, rfl, World.grownBy.refl _ _⟩
    · intro a w' hf he
      have f1 : a.tmps.getD 30 undef = .pointer (some ⟨tb, 0, none⟩) := he 1 (by kernel_rfl)
      refine wpOp_step rfl (fun K hK => ?_)
      go_simp
      exact hK _ _ ⟨_, rfl, rfl, World.grownBy.refl _ _⟩
    · intro a w' hf he
      have f2 : a.tmps.getD 31 undef = .pointer (some ⟨tb, 1, none⟩) := he 2 (by kernel_rfl)
      rw [show kindRow _ _ = none from by kernel_rfl] at hf
      have c1 := (Ht2.out.bel hf.bel).cell1
      refine wpOp_step rfl (fun K hK => ?_)
      go_simp
      exact hK _ _ ⟨_, rfl, rfl, World.grownBy.refl _ _⟩
    · intro a w' hf he
      have k1 : a.tmps.getD 1 undef = .int .i64 t := hf.var (by kernel_rfl) rfl
      refine wpOp_step rfl (fun K hK => ?_)
      go_simp
      exact hK _ _ ⟨_, rfl, rfl, World.grownBy.refl _ _⟩
    · intro a w' hf he
      have f4 : a.tmps.getD 33 undef = .int .i64 t := he 4 (by kernel_rfl)
      have e4 : a.tmps[33]?.getD undef = _ := Array.getD_eq_getD_getElem? .. ▸ f4
      refine wpOp_step rfl (fun K hK => ?_)
      go_simp
      exact hK _ _ ⟨_, rfl, rfl, World.grownBy.refl _ _⟩
    · intro a w' hf he
      have k5 : a.tmps.getD 5 undef = .pointer (some ⟨w.heap.size, 0, none⟩) := hf.var (by kernel_rfl) rfl
      rw [show kindRow _ _ = none from by kernel_rfl] at hf
      refine wpOp_step rfl (fun K hK => ?_)
      refine wp_load_rd 64 (.tmp 5) rfl ⟨w.heap.size, 0, none⟩ k5 [.int .i64 k, .int .i64 o, .int .i64 l, .slice A m c] _ ((rd_of_heap (n := 4) ((hf.bel.block _ (heap_lt Hx2.out)).trans Hx2.out) rfl (by simp [maxLen])).cell _ rfl) Try.underlying64 rfl (by kernel_rfl) ?_
      exact hK _ _ ⟨_, rfl, rfl, World.grownBy.refl _ _⟩
    · intro a w' hf he
      have f6 : a.tmps.getD 35 undef = .agg #[.int .i64 k, .int .i64 o, .int .i64 l, .slice A m c] := he 6 (by kernel_rfl)
      rw [show kindRow _ _ = none from by kernel_rfl] at hf
      refine wpOp_step rfl (fun K hK => ?_)
      go_simp
      refine (c_own k o l A m c b _ (Hb2.out.bel hf.bel) hm).mono ?_
      rintro e w3 ⟨A3, c3, rfl, hown, hb3⟩
      exact hK _ _ ⟨_, rfl, ⟨A3, c3, rfl, hown.mono hf.bel.size⟩, grown_bel hb3⟩
  · intro a w' hf he
    obtain ⟨u29, f0⟩ : ∃ u, a.tmps.getD 29 undef = u := ⟨_, rfl⟩
    obtain ⟨u30, f1⟩ : ∃ u, a.tmps.getD 30 undef = u := ⟨_, rfl⟩
    obtain ⟨u31, f2⟩ : ∃ u, a.tmps.getD 31 undef = u := ⟨_, rfl⟩
    have f3 : a.tmps.getD 32 undef = .map (some mb) := he 3 (by decide)
    obtain ⟨u33, f4⟩ : ∃ u, a.tmps.getD 33 undef = u := ⟨_, rfl⟩
    have f5 : a.tmps.getD 34 undef = .agg #[.int .i64 t] := he 5 (by decide)
    obtain ⟨u35, f6⟩ : ∃ u, a.tmps.getD 35 undef = u := ⟨_, rfl⟩
    obtain ⟨A7, c7, hv7, hr7⟩ := he 7 (by decide)
    have f7 : a.tmps.getD 36 undef = _ := hv7
    have hlit := hf.lit ((29, u29) :: (30, u30) :: (31, u31) :: (32, .map (some mb)) :: (33, u33) :: (34, .agg #[.int .i64 t]) :: (35, u35) :: (36, _) :: []) (by kernel_rfl) ⟨f0, f1, f2, f3, f4, f5, f6, f7, trivial⟩
    have hB := hf.bel
    clear he hf f0 f1 f2 f3 f4 f5 f6 f7 hv7
    subst hlit
    simp only [putAll_nil, putAll_cons, Act.put, List.setIfInBounds_toArray, List.set_cons_zero, List.set_cons_succ]
    simp only [List.drop_succ_cons, List.drop_zero]
    have Ht3 := Lib.hid (Ht2.out.bel hB)
    have B3 : Below w.heap.size w w' := B2.trans (hB.mono hw2)
    clear hB
    go_wp2_with (first
      | (at_mapUpdate
         refine wpList_mapUpdate_own _ rfl _ _ _ 68 rfl 185 64 law Try.underlying68 R mb n D rfl Ht3.out.own (by unfold maxLen; omega) (.agg #[.int .i64 t]) (.agg #[.int .i64 k, .int .i64 o, .int .i64 l, .slice A7 m c7]) (kl t) rfl rfl (hkey (by omega)) (.held (.agg #[.int .i64 k, .int .i64 o, .int .i64 l, .slice A7 m c7])) [] rfl ?_
         intro w4 hown4 hg4))
    go_ret
    exact ⟨A7, c7, rfl, ⟨(heap_grown Ht3.out.blk hg4 (by simpa using Ht3.out.ne)), hown4, Ht3.out.ne⟩, Tw.Own.mono (hr7.kept hg4 (own_apart hr7 (by rintro k ⟨⟩; have := Ht2.out.own.lt; omega))) hw2, (grown_bel B3).trans hg4⟩
end Go.Proofs.Ytplemdgihlabgaa.Table
