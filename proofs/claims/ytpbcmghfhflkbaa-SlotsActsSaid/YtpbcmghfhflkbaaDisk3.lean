/- Contracts of the package disk: Write. Conditions: at most 10^9 operations. -/
import Derived.Test.YtpbcmghfhflkbaaDisk2
set_option linter.unusedVariables false
set_option linter.unusedSimpArgs false
namespace Go.Proofs.Ytpbcmghfhflkbaa.Disk
open Go.RowKit Tw Go.Maps Go.ChangeMaps
set_option maxHeartbeats 2000000
set_option maxRecDepth 100000

section
variable {w w' : World} {p g mb c : Nat} {d : Dsk}
theorem kl_ne {x y : Int} (h : x ≠ y) : kl x ≠ kl y := fun e => by
  unfold kl at e
  injection e with _ e
  exact h e
theorem mapIs_cells {D : DataW Value} {d d' : Dsk} (h : MapIs D d) (hc : d'.cells = d.cells) : MapIs D d' := fun x => by
  have : d'.fresh x = d.fresh x := by simp [Dsk.fresh, Dsk.has, Dsk.cell, hc]
  rw [this]
  exact h x
theorem ownsMap_fr {w w' : World} {S : Nat → Prop} {mb m : Nat} {D : DataW Value} (h : w.ownsMap Try.prog 3 R mb m D) (hf : Fr S w w') (hs : ¬ S mb) : w'.ownsMap Try.prog 3 R mb m D := by
  obtain ⟨es, clock, hb, rest⟩ := h
  exact ⟨es, clock, heap_fr hb hf hs, rest⟩
theorem klKey (x : Int) : WideAt.IsKeyLit (kl x) := by simp [WideAt.IsKeyLit, kl]
theorem put_fresh (d : Dsk) {x : Int} (hx : d.has x) (s : Sec) (y : Int) : (d.put x s).fresh y = if y = x then some s else d.fresh y := by
  have hlen : (d.put x s).cells.length = d.cells.length := by simp [Dsk.put]
  have hh : ∀ z, (d.put x s).has z ↔ d.has z := fun z => by rw [has_iff, has_iff, hlen]
  have hx' := (has_iff d x).1 hx
  unfold Dsk.fresh
  by_cases hy : d.has y
  · rw [if_pos ((hh y).2 hy)]
    have hy' := (has_iff d y).1 hy
    have hc : (d.put x s).cell y = if y = x then ((d.cell x).1, some s) else d.cell y := by
      unfold Dsk.cell Dsk.put
      simp only [List.getD_eq_getElem?_getD]
      by_cases h : y = x
      · subst h
        rw [if_pos rfl, List.getElem?_set_self (by omega)]
        rfl
      · rw [if_neg h, List.getElem?_set_ne (by omega)]
    rw [hc, if_pos hy]
    split <;> rfl
  · rw [if_neg (fun h => hy ((hh y).1 h))]
    have : y ≠ x := fun e => hy (e ▸ hx)
    rw [if_neg this, if_neg hy]
theorem mapIs_put {D : DataW Value} (h : MapIs D d) (hD : IsMap D) {x : Int} (hx : d.has x) (s : Sec) : MapIs (D.put (kl x) (.held (secV s))) (d.put x s) := fun y => by
  rw [put_fresh d hx s y]
  by_cases hy : y = x
  · subst hy
    rw [if_pos rfl]
    exact ⟨has_put_same hD (klKey _) _, fun z => atKey_put_same hD (klKey _) _ _⟩
  · rw [if_neg hy]
    obtain ⟨h1, h2⟩ := h y
    exact ⟨(has_put_other (kl_ne hy) _).trans h1, fun z => (atKey_put_other (kl_ne hy) _ _).trans (h2 z)⟩
theorem durable_put (d : Dsk) {x : Int} (hx : d.has x) (s : Sec) : durable (d.put x s) = durable d := by
  unfold durable Dsk.put
  simp only
  have h := cell_get hx
  generalize d.cell x = c at *
  generalize x.toNat = i at *
  generalize d.cells = l at *
  induction l generalizing i with
  | nil => rfl
  | cons a l ih =>
    cases i with
    | zero =>
      simp at h
      subst h
      rfl
    | succ i =>
      rw [List.set_cons_succ, List.flatMap_cons, List.flatMap_cons, ih i (by simpa using h)]

theorem c_dWrite (h : Dk w p g mb c d) (ho : d.ops < 1000000000) (x : Int) (hx : -9223372036854775808 ≤ x ∧ x ≤ 9223372036854775807) (s : Sec) (hs : s.length = 16) :
    Calls Try.prog 24 #[.pointer (some ⟨p, 0, none⟩), .int .i64 x, secV s] w fun e w' => e = .returned (.int .i64 ((d.write x s).2 : Int)) ∧ Dk w' p g mb c (d.write x s).1 ∧ Fr (fun k => k = p ∨ k = mb) w w' := by
  unfold secV
  have hlt := h.lts
  have H := Lib.hid (h.bel ((Below.refl _ _).alloc (Nat.le_refl _) (.cells (bytesV s).toArray 35)))
  have HX := Lib.hid (heap_alloc_new w (.cells (bytesV s).toArray 35))
  have HF := Lib.hid (Fr.alloc (S := fun k => k = p ∨ k = mb) (w := w) (.cells (bytesV s).toArray 35))
  clear h
  by_cases hh : d.has x
  · have hd := Lib.hid (decide_eq_true hh)
    by_cases he : d.spend.2 = 0
    · have hw : Hid (d.write x s = (d.spend.1.put x s, 0)) := Lib.hid (by unfold Dsk.write; rw [if_pos hh, if_pos he])
      have He := Lib.hid he
      have Hh := Lib.hid hh
      clear hh he
      go_enter Try.func24, Try.ntmps24
      go_wp2_with (first
        | (go_at_call 90
           (with_reducible refine (c_Made H.out).mono ?_)
           rintro e w' ⟨rfl, rfl⟩)
        | (go_at_call 102
           (with_reducible refine (c_has H.out x).mono ?_)
           rintro e w' ⟨rfl, rfl⟩
           rw [hd.out])
        | (go_at_call 103
           (with_reducible refine (c_spend H.out ho).mono ?_)
           rintro e w2 ⟨rfl, h2, f2⟩
           rw [He.out]
           have H2 := Lib.hid h2
           have F2 := Lib.hid f2
           clear h2 f2))
      have HX2 := Lib.hid (heap_fr HX.out F2.out (by omega))
      refine wp_region_phi (by kernel_rfl) 6 none (fun _ => false) (fun i_ v wz => match i_ with
        | 0 => v = .pointer (some ⟨p, 0, none⟩)
        | 1 => v = .pointer (some ⟨p, 0, none⟩)
        | 2 => v = .pointer (some ⟨p, 1, none⟩)
        | 3 => v = .map (some mb)
        | 4 => v = .int .i64 x
        | 5 => v = .agg (bytesV s).toArray
        | _ => True) (by kernel_rfl) ?_ ?_ ?_
      · (repeat' (first | exact allLt_zero | refine allLt_succ ?_ ?_))
        · exact fun _ _ _ h _ => h
        · exact fun _ _ _ h _ => h
        · exact fun _ _ _ h _ => h
        · exact fun _ _ _ h _ => h
        · exact fun _ _ _ h _ => h
        · exact fun _ _ _ h _ => h
      · (repeat' (first | exact allLt_zero | refine allLt_succ ?_ ?_))
        · intro a w' hf he
          have k0 : a.tmps.getD 0 undef = .pointer (some ⟨p, 0, none⟩) := hf.var (by kernel_rfl) rfl
          refine wpOp_step rfl (fun K hK => ?_)
          go_simp
          exact hK _ _ ⟨_, rfl, rfl, World.grownBy.refl _ _⟩
        · intro a w' hf he
          have f0 : a.tmps.getD 22 undef = .pointer (some ⟨p, 0, none⟩) := he 0 (by kernel_rfl)
          refine wpOp_step rfl (fun K hK => ?_)
          go_simp
          exact hK _ _ ⟨_, rfl, rfl, World.grownBy.refl _ _⟩
        · intro a w' hf he
          have f1 : a.tmps.getD 23 undef = .pointer (some ⟨p, 0, none⟩) := he 1 (by kernel_rfl)
          refine wpOp_step rfl (fun K hK => ?_)
          go_simp
          exact hK _ _ ⟨_, rfl, rfl, World.grownBy.refl _ _⟩
        · intro a w' hf he
          have f2 : a.tmps.getD 24 undef = .pointer (some ⟨p, 1, none⟩) := he 2 (by kernel_rfl)
          rw [show kindRow _ _ = none from by kernel_rfl] at hf
          have dd := ((H2.out.bel hf.bel).cells).2.1
          refine wpOp_step rfl (fun K hK => ?_)
          go_simp
          exact hK _ _ ⟨_, rfl, rfl, World.grownBy.refl _ _⟩
        · intro a w' hf he
          have k1 : a.tmps.getD 1 undef = .int .i64 x := hf.var (by kernel_rfl) rfl
          refine wpOp_step rfl (fun K hK => ?_)
          go_simp
          exact hK _ _ ⟨_, rfl, rfl, World.grownBy.refl _ _⟩
        · intro a w' hf he
          have k5 : a.tmps.getD 5 undef = .pointer (some ⟨w.heap.size, 0, none⟩) := hf.var (by kernel_rfl) rfl
          rw [show kindRow _ _ = none from by kernel_rfl] at hf
          refine wpOp_step rfl (fun K hK => ?_)
          refine wp_load_rd 35 (.tmp 5) rfl ⟨w.heap.size, 0, none⟩ k5 (bytesV s) _ ((rd_of_heap (n := 16) ((hf.bel.block _ (heap_lt HX2.out)).trans HX2.out) (by rw [bytesV_length, hs]) (by simp [maxLen])).cell _ rfl) Try.underlying35 rfl (by rw [bytesV_length, hs]; kernel_rfl) ?_
          exact hK _ _ ⟨_, rfl, rfl, World.grownBy.refl _ _⟩
      · intro a w' hf he
        obtain ⟨u22, f0⟩ : ∃ u, a.tmps.getD 22 undef = u := ⟨_, rfl⟩
        obtain ⟨u23, f1⟩ : ∃ u, a.tmps.getD 23 undef = u := ⟨_, rfl⟩
        obtain ⟨u24, f2⟩ : ∃ u, a.tmps.getD 24 undef = u := ⟨_, rfl⟩
        have f3 : a.tmps.getD 25 undef = .map (some mb) := he 3 (by decide)
        have f4 : a.tmps.getD 26 undef = .int .i64 x := he 4 (by decide)
        have f5 : a.tmps.getD 27 undef = .agg (bytesV s).toArray := he 5 (by decide)
        have hlit := hf.lit ((22, u22) :: (23, u23) :: (24, u24) :: (25, .map (some mb)) :: (26, .int .i64 x) :: (27, .agg (bytesV s).toArray) :: []) (by kernel_rfl) ⟨f0, f1, f2, f3, f4, f5, trivial⟩
        have hB := hf.bel
        clear he hf f0 f1 f2 f3 f4 f5 
        subst hlit
        simp only [putAll_nil, putAll_cons, Act.put, List.setIfInBounds_toArray, List.set_cons_zero, List.set_cons_succ]
        simp only [List.drop_succ_cons, List.drop_zero]
        have H3 := Lib.hid (H2.out.bel hB)
        have F3 := Lib.hid ((HF.out.trans F2.out (fun _ _ e => .inl e)).trans (Fr.of_bel (S := fun k => k = p ∨ k = mb) hB) (fun _ _ e => e))
        obtain ⟨D, m, hm0, hle, hi⟩ := H.out.map
        have hsi := mapIs_cells hi (spend_cells d)
        have hops : d.spend.1.ops = d.ops + 1 := by
          have h9 := He.out
          unfold Dsk.spend at h9 ⊢
          split
          · rename_i hb
            rw [if_pos hb] at h9
            cases h9
          · rfl
        have hm : Hid (w'.ownsMap Try.prog 3 R mb m D) := Lib.hid (ownsMap_fr (ownsMap_fr hm0 F2.out (fun e => H.out.ne.2.1 e.symm)) (Fr.of_bel (S := fun _ => False) hB) (fun e => e))
        have Hi := Lib.hid hsi
        have Hops := Lib.hid hops
        clear hm0 hi hsi hops
        go_wp2_with (first
          | (at_mapUpdate
             refine wpList_mapUpdate_own _ rfl _ _ _ 176 rfl 3 35 law Try.underlying176 R mb m D rfl hm.out (by unfold maxLen; omega) _ _ (kl x) rfl rfl (hkey hx) _ [] rfl ?_
             intro w4 hown4 hg4))
        go_ret
        rw [hw.out]
        have h5 := H3.out
        have hne := h5.ne
        have hh2 := (spend_has d x).2 Hh.out
        refine ⟨rfl, ⟨put_ok h5.ok hh2 hs, ?_, ?_, ⟨_, m + 1, hown4, by show m + 1 ≤ d.spend.1.ops; rw [Hops.out]; omega, mapIs_put Hi.out hm.out.isMap hh2 s⟩, hne⟩, F3.out.trans (Fr.grown (S := fun k => k = p ∨ k = mb) hg4 (by rintro k ⟨⟩; exact .inr rfl)) (fun _ _ e => e)⟩
        · have h6 := heap_grown h5.blk hg4 (by simpa using hne.2.1)
          simpa [Dsk.put] using h6
        · rw [durable_put _ hh2]
          have h6 : Tw.Own w4 0 35 16 (some ⟨g, 0, none⟩) d.spend.1.cells.length c (bytesV (durable d.spend.1)) := h5.own.kept hg4 (by right; simpa [Value.ownBlock] using hne.2.2)
          simpa [Dsk.put] using h6
    · have hw : Hid (d.write x s = d.spend) := Lib.hid (by unfold Dsk.write; rw [if_pos hh, if_neg he])
      have He : Hid (d.spend.2 = 3) := Lib.hid ((spend_err d).resolve_left he)
      clear hh he
      go_enter Try.func24, Try.ntmps24
      go_wp2_with (first
        | (go_at_call 90
           (with_reducible refine (c_Made H.out).mono ?_)
           rintro e w' ⟨rfl, rfl⟩)
        | (go_at_call 102
           (with_reducible refine (c_has H.out x).mono ?_)
           rintro e w' ⟨rfl, rfl⟩
           rw [hd.out])
        | (go_at_call 103
           (with_reducible refine (c_spend H.out ho).mono ?_)
           rintro e w2 ⟨rfl, h2, f2⟩
           rw [He.out]
           have H2 := Lib.hid h2
           have F2 := Lib.hid f2
           clear h2 f2))
      go_ret
      rw [hw.out]
      exact ⟨by rw [He.out]; rfl, H2.out, HF.out.trans F2.out (fun _ _ e => .inl e)⟩
  · have hd := Lib.hid (decide_eq_false hh)
    have hw : Hid (d.write x s = (d, 13)) := Lib.hid (by unfold Dsk.write; rw [if_neg hh])
    clear hh
    go_enter Try.func24, Try.ntmps24
    go_wp2_with (first
      | (go_at_call 90
         (with_reducible refine (c_Made H.out).mono ?_)
         rintro e w' ⟨rfl, rfl⟩)
      | (go_at_call 102
         (with_reducible refine (c_has H.out x).mono ?_)
         rintro e w' ⟨rfl, rfl⟩
         rw [hd.out]))
    go_ret
    rw [hw.out]
    exact ⟨rfl, H.out, HF.out⟩
end
end Go.Proofs.Ytpbcmghfhflkbaa.Disk
