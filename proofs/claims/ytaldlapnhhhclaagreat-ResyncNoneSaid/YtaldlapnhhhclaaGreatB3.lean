/- Texts joined: what the disks, the rings and their reference do. Conditions: none. -/
import Derived.Test.YtaldlapnhhhclaaGreatB2
import Derived.Deep.CutBlock
import Derived.Maps.RangeWalk
import Derived.Deep.MidRow
import Derived.MapFrom
/- Contracts of the package disk: spend, Fuse, Write, Read. Conditions: at most 10^9 operations. -/
set_option linter.unusedVariables false
set_option linter.unusedSimpArgs false
namespace Go.Proofs.YtaldlapnhhhclaaGreat.Disk
open Go.RowKit Tw Go.Maps Go.ChangeMaps
set_option maxHeartbeats 2000000
set_option maxRecDepth 100000

section
variable {w w' : World} {p g mb c : Nat} {d : Dsk}
/-- the disk's struct written anew -/
theorem Dk.reset (h : Dk w p g mb c d) (hf : Fr (fun k => k = p) w w') {f : Int} {b : Bool} {o : Nat} (ho : d.ops ≤ o) (hok : ({ d with fuse := f, broken := b, ops := o } : Dsk).Ok)
    (hb : w'.heap[p]? = some (.cells #[.slice (some ⟨g, 0, none⟩) d.cells.length c, .map (some mb), .int .i64 f, .bool b, .int .i64 (o : Int)] 125 (0, 0))) : Dk w' p g mb c { d with fuse := f, broken := b, ops := o } := by
  have hne := h.ne
  obtain ⟨D, m, hm, hle, hi⟩ := h.map
  refine ⟨hok, hb, h.own.fr hf (fun ad e => by injection e with e; subst e; exact fun e => hne.1 e.symm), ⟨D, m, ?_, Nat.le_trans hle ho, hi⟩, hne⟩
  obtain ⟨es, clock, hb, rest⟩ := hm
  exact ⟨es, clock, heap_fr hb hf (fun e => hne.2.1 e.symm), rest⟩
theorem fr_set (w : World) (p i : Nat) (v : Value) : Fr (fun k => k = p) w (w.setCell ⟨p, i, none⟩ v) := Fr.setCell (S := fun k => k = p) (p := ⟨p, i, none⟩) rfl v
theorem Dk.frozen (h : Dk w p g mb c d) (i : Nat) : w.frozen? ⟨p, i, none⟩ = false := by simp [World.frozen?, h.blk]

theorem c_spend (h : Dk w p g mb c d) (ho : d.ops < 1000000000) : Calls Tryz.prog 129 #[.pointer (some ⟨p, 0, none⟩)] w fun e w' => e = .returned (.int .i64 (d.spend.2 : Int)) ∧ Dk w' p g mb c d.spend.1 ∧ Fr (fun k => k = p) w w' := by
  obtain ⟨k0, k1, k2, k3, k4⟩ := h.cells
  have q2 := h.frozen 2
  have q3 := h.frozen 3
  have q4 := h.frozen 4
  have hsp := spend_ok h.ok ho
  have hfu := h.ok.fuse
  have H := Lib.hid h
  have Hsp := Lib.hid hsp
  clear h hsp
  by_cases h0 : d.fuse = 0
  · have hs : d.spend = ({ d with fuse := 0, broken := true, ops := d.ops }, 3) := by
      unfold Dsk.spend Dsk.burn
      rw [if_pos h0]
      rw [if_pos rfl]
      simp [h0]
    have Hs := Lib.hid hs
    rw [h0] at k2
    clear h0 hs
    go_enter Tryz.func129, Tryz.ntmps129
    go_wp2_with fail
    go_ret
    have hs := Hs.out
    have hok := Hsp.out
    rw [hs] at hok ⊢
    refine ⟨rfl, H.out.reset (fr_set w p 3 _) (Nat.le_refl _) hok ?_, fr_set w p 3 _⟩
    rw [heap_setCell_same _ p 3 _ _ _ H.out.blk]
    have : d.fuse = 0 := by have h2 := H.out.cells.2.2.1; rw [k2] at h2; injection h2 with h2; injection h2 with _ h2; exact h2.symm
    simp [this]
  · by_cases hb : d.broken = true
    · have hs : d.spend = ({ d with fuse := d.fuse, broken := d.broken, ops := d.ops }, 3) := by
        unfold Dsk.spend Dsk.burn
        rw [if_neg h0, if_pos hb]
      have Hs := Lib.hid hs
      have h1 : (d.fuse == 0) = false := by simpa using h0
      have H1 := Lib.hid h0
      clear hs h0
      go_enter Tryz.func129, Tryz.ntmps129
      go_wp2_with fail
      go_ret
      have hs := Hs.out
      rw [hs]
      exact ⟨rfl, H.out, Fr.refl _ _⟩
    · have hb : d.broken = false := by simpa using hb
      have h1 : (d.fuse == 0) = false := by simpa using h0
      by_cases hp : 0 < d.fuse
      · have hs : d.spend = ({ d with fuse := d.fuse - 1, broken := d.broken, ops := d.ops + 1 }, 0) := by
          unfold Dsk.spend Dsk.burn
          rw [if_neg h0, hb, if_neg (by simp), if_pos hp]
        have Hs := Lib.hid hs
        clear hs h0
        go_enter Tryz.func129, Tryz.ntmps129
        go_wp2_with fail
        go_ret
        have hs := Hs.out
        have hok := Hsp.out
        rw [hs] at hok ⊢
        have hfr : Fr (fun k => k = p) w ((w.setCell ⟨p, 2, none⟩ (.int .i64 (d.fuse - 1))).setCell ⟨p, 4, none⟩ (.int .i64 ((d.ops : Int) + 1))) := (fr_set w p 2 _).trans (fr_set _ p 4 _) (fun _ _ e => e)
        refine ⟨rfl, H.out.reset hfr (Nat.le_succ _) hok ?_, hfr⟩
        rw [heap_setCell_same _ p 4 _ _ _ (heap_setCell_same _ p 2 _ _ _ H.out.blk)]
        simp
      · have hs : d.spend = ({ d with fuse := d.fuse, broken := d.broken, ops := d.ops + 1 }, 0) := by
          unfold Dsk.spend Dsk.burn
          rw [if_neg h0, hb, if_neg (by simp), if_neg hp]
        have Hs := Lib.hid hs
        have hp2 : decide (0 < d.fuse) = false := by simpa using hp
        clear hs h0
        go_enter Tryz.func129, Tryz.ntmps129
        go_wp2_with fail
        go_ret
        have hs := Hs.out
        have hok := Hsp.out
        rw [hs] at hok ⊢
        have hfr : Fr (fun k => k = p) w (w.setCell ⟨p, 4, none⟩ (.int .i64 ((d.ops : Int) + 1))) := fr_set w p 4 _
        refine ⟨rfl, H.out.reset hfr (Nat.le_succ _) hok ?_, hfr⟩
        rw [heap_setCell_same _ p 4 _ _ _ H.out.blk]
        simp
end
end Go.Proofs.YtaldlapnhhhclaaGreat.Disk
/- Contracts of the package disk: Write. Conditions: at most 10^9 operations. -/
namespace Go.Proofs.YtaldlapnhhhclaaGreat.Disk
open Go.RowKit Tw Go.Maps Go.ChangeMaps
set_option maxHeartbeats 2000000
set_option maxRecDepth 100000

section
variable {w w' : World} {p g mb c : Nat} {d : Dsk}
theorem kl_ne {x y : Int} (h : x ≠ y) : kl x ≠ kl y := fun e => by
  unfold kl at e
  injection e with _ e
  exact h e
theorem mapIs_cells {D : DataW Value} {d d' : Dsk} (h : MapIs D d) (hc : d'.cells = d.cells) : MapIs D d' := fun x => by
  have : d'.fresh x = d.fresh x := by simp [Dsk.fresh, Dsk.has, Dsk.cell, hc]
  rw [this]
  exact h x
theorem ownsMap_fr {w w' : World} {S : Nat → Prop} {mb m : Nat} {D : DataW Value} (h : w.ownsMap Tryz.prog 3 R mb m D) (hf : Fr S w w') (hs : ¬ S mb) : w'.ownsMap Tryz.prog 3 R mb m D := by
  obtain ⟨es, clock, hb, rest⟩ := h
  exact ⟨es, clock, heap_fr hb hf hs, rest⟩
theorem klKey (x : Int) : WideAt.IsKeyLit (kl x) := by simp [WideAt.IsKeyLit, kl]
theorem put_fresh (d : Dsk) {x : Int} (hx : d.has x) (s : Sec) (y : Int) : (d.put x s).fresh y = if y = x then some s else d.fresh y := by
  have hlen : (d.put x s).cells.length = d.cells.length := by simp [Dsk.put]
  have hh : ∀ z, (d.put x s).has z ↔ d.has z := fun z => by rw [has_iff, has_iff, hlen]
  have hx' := (has_iff d x).1 hx
  unfold Dsk.fresh
  by_cases hy : d.has y
  · rw [if_pos ((hh y).2 hy)]
    have hy' := (has_iff d y).1 hy
    have hc : (d.put x s).cell y = if y = x then ((d.cell x).1, some s) else d.cell y := by
      unfold Dsk.cell Dsk.put
      simp only [List.getD_eq_getElem?_getD]
      by_cases h : y = x
      · subst h
        rw [if_pos rfl, List.getElem?_set_self (by omega)]
        rfl
      · rw [if_neg h, List.getElem?_set_ne (by omega)]
    rw [hc, if_pos hy]
    split <;> rfl
  · rw [if_neg (fun h => hy ((hh y).1 h))]
    have : y ≠ x := fun e => hy (e ▸ hx)
    rw [if_neg this, if_neg hy]
theorem mapIs_put {D : DataW Value} (h : MapIs D d) (hD : IsMap D) {x : Int} (hx : d.has x) (s : Sec) : MapIs (D.put (kl x) (.held (secV s))) (d.put x s) := fun y => by
  rw [put_fresh d hx s y]
  by_cases hy : y = x
  · subst hy
    rw [if_pos rfl]
    exact ⟨has_put_same hD (klKey _) _, fun z => atKey_put_same hD (klKey _) _ _⟩
  · rw [if_neg hy]
    obtain ⟨h1, h2⟩ := h y
    exact ⟨(has_put_other (kl_ne hy) _).trans h1, fun z => (atKey_put_other (kl_ne hy) _ _).trans (h2 z)⟩
theorem durable_put (d : Dsk) {x : Int} (hx : d.has x) (s : Sec) : durable (d.put x s) = durable d := by
  unfold durable Dsk.put
  simp only
  have h := cell_get hx
  generalize d.cell x = c at *
  generalize x.toNat = i at *
  generalize d.cells = l at *
  induction l generalizing i with
  | nil => rfl
  | cons a l ih =>
    cases i with
    | zero =>
      simp at h
      subst h
      rfl
    | succ i =>
      rw [List.set_cons_succ, List.flatMap_cons, List.flatMap_cons, ih i (by simpa using h)]

theorem c_dWrite (h : Dk w p g mb c d) (ho : d.ops < 1000000000) (x : Int) (hx : -9223372036854775808 ≤ x ∧ x ≤ 9223372036854775807) (s : Sec) (hs : s.length = 16) :
    Calls Tryz.prog 128 #[.pointer (some ⟨p, 0, none⟩), .int .i64 x, secV s] w fun e w' => e = .returned (.int .i64 ((d.write x s).2 : Int)) ∧ Dk w' p g mb c (d.write x s).1 ∧ Fr (fun k => k = p ∨ k = mb) w w' := by
  unfold secV
  have hlt := h.lts
  have H := Lib.hid (h.bel ((Below.refl _ _).alloc (Nat.le_refl _) (.cells (bytesV s).toArray 127)))
  have HX := Lib.hid (heap_alloc_new w (.cells (bytesV s).toArray 127))
  have HF := Lib.hid (Fr.alloc (S := fun k => k = p ∨ k = mb) (w := w) (.cells (bytesV s).toArray 127))
  clear h
  by_cases hh : d.has x
  · have hd := Lib.hid (decide_eq_true hh)
    by_cases he : d.spend.2 = 0
    · have hw : Hid (d.write x s = (d.spend.1.put x s, 0)) := Lib.hid (by unfold Dsk.write; rw [if_pos hh, if_pos he])
      have He := Lib.hid he
      have Hh := Lib.hid hh
      clear hh he
      go_enter Tryz.func128, Tryz.ntmps128
      go_wp2_with (first
        | (go_at_call 62
           (with_reducible refine (c_Made H.out).mono ?_)
           rintro e w' ⟨rfl, rfl⟩)
        | (go_at_call 172
           (with_reducible refine (c_has H.out x).mono ?_)
           rintro e w' ⟨rfl, rfl⟩
           rw [hd.out])
        | (go_at_call 129
           (with_reducible refine (c_spend H.out ho).mono ?_)
           rintro e w2 ⟨rfl, h2, f2⟩
           rw [He.out]
           have H2 := Lib.hid h2
           have F2 := Lib.hid f2
           clear h2 f2))
      have HX2 := Lib.hid (heap_fr HX.out F2.out (by omega))
      refine wp_region_phi (by kernel_rfl) 6 none (fun _ => false) (fun i_ v wz => match i_ with
        | 0 => v = .pointer (some ⟨p, 0, none⟩)
        | 1 => v = .pointer (some ⟨p, 0, none⟩)
        | 2 => v = .pointer (some ⟨p, 1, none⟩)
        | 3 => v = .map (some mb)
        | 4 => v = .int .i64 x
        | 5 => v = .agg (bytesV s).toArray
        | _ => True) (by kernel_rfl) ?_ ?_ ?_
      · (repeat' (first | exact allLt_zero | refine allLt_succ ?_ ?_))
        · exact fun _ _ _ h _ => h
        · exact fun _ _ _ h _ => h
        · exact fun _ _ _ h _ => h
        · exact fun _ _ _ h _ => h
        · exact fun _ _ _ h _ => h
        · exact fun _ _ _ h _ => h
      · (repeat' (first | exact allLt_zero | refine allLt_succ ?_ ?_))
        · intro a w' hf he
          have k0 : a.tmps.getD 0 undef = .pointer (some ⟨p, 0, none⟩) := hf.var (by kernel_rfl) rfl
          refine wpOp_step rfl (fun K hK => ?_)
          go_simp
          exact hK _ _ ⟨_, rfl, rfl, World.grownBy.refl _ _⟩
        · intro a w' hf he
          have f0 : a.tmps.getD 22 undef = .pointer (some ⟨p, 0, none⟩) := he 0 (by kernel_rfl)
          refine wpOp_step rfl (fun K hK => ?_)
          go_simp
          exact hK _ _ ⟨_, rfl, rfl, World.grownBy.refl _ _⟩
        · intro a w' hf he
          have f1 : a.tmps.getD 23 undef = .pointer (some ⟨p, 0, none⟩) := he 1 (by kernel_rfl)
          refine wpOp_step rfl (fun K hK => ?_)
          go_simp
          exact hK _ _ ⟨_, rfl, rfl, World.grownBy.refl _ _⟩
        · intro a w' hf he
          have f2 : a.tmps.getD 24 undef = .pointer (some ⟨p, 1, none⟩) := he 2 (by kernel_rfl)
          rw [show kindRow _ _ = none from by kernel_rfl] at hf
          have dd := ((H2.out.bel hf.bel).cells).2.1
          refine wpOp_step rfl (fun K hK => ?_)
          go_simp
          exact hK _ _ ⟨_, rfl, rfl, World.grownBy.refl _ _⟩
        · intro a w' hf he
          have k1 : a.tmps.getD 1 undef = .int .i64 x := hf.var (by kernel_rfl) rfl
          refine wpOp_step rfl (fun K hK => ?_)
          go_simp
          exact hK _ _ ⟨_, rfl, rfl, World.grownBy.refl _ _⟩
        · intro a w' hf he
          have k5 : a.tmps.getD 5 undef = .pointer (some ⟨w.heap.size, 0, none⟩) := hf.var (by kernel_rfl) rfl
          rw [show kindRow _ _ = none from by kernel_rfl] at hf
          refine wpOp_step rfl (fun K hK => ?_)
          refine wp_load_rd 127 (.tmp 5) rfl ⟨w.heap.size, 0, none⟩ k5 (bytesV s) _ ((rd_of_heap (n := 16) ((hf.bel.block _ (heap_lt HX2.out)).trans HX2.out) (by rw [bytesV_length, hs]) (by simp [maxLen])).cell _ rfl) Tryz.underlying127 rfl (by rw [bytesV_length, hs]; kernel_rfl) ?_
          exact hK _ _ ⟨_, rfl, rfl, World.grownBy.refl _ _⟩
      · intro a w' hf he
        obtain ⟨u22, f0⟩ : ∃ u, a.tmps.getD 22 undef = u := ⟨_, rfl⟩
        obtain ⟨u23, f1⟩ : ∃ u, a.tmps.getD 23 undef = u := ⟨_, rfl⟩
        obtain ⟨u24, f2⟩ : ∃ u, a.tmps.getD 24 undef = u := ⟨_, rfl⟩
        have f3 : a.tmps.getD 25 undef = .map (some mb) := he 3 (by decide)
        have f4 : a.tmps.getD 26 undef = .int .i64 x := he 4 (by decide)
        have f5 : a.tmps.getD 27 undef = .agg (bytesV s).toArray := he 5 (by decide)
        have hlit := hf.lit ((22, u22) :: (23, u23) :: (24, u24) :: (25, .map (some mb)) :: (26, .int .i64 x) :: (27, .agg (bytesV s).toArray) :: []) (by kernel_rfl) ⟨f0, f1, f2, f3, f4, f5, trivial⟩
        have hB := hf.bel
        clear he hf f0 f1 f2 f3 f4 f5 
        subst hlit
        simp only [putAll_nil, putAll_cons, Act.put, List.setIfInBounds_toArray, List.set_cons_zero, List.set_cons_succ]
        simp only [List.drop_succ_cons, List.drop_zero]
        have H3 := Lib.hid (H2.out.bel hB)
        have F3 := Lib.hid ((HF.out.trans F2.out (fun _ _ e => .inl e)).trans (Fr.of_bel (S := fun k => k = p ∨ k = mb) hB) (fun _ _ e => e))
        obtain ⟨D, m, hm0, hle, hi⟩ := H.out.map
        have hsi := mapIs_cells hi (spend_cells d)
        have hops : d.spend.1.ops = d.ops + 1 := by
          have h9 := He.out
          unfold Dsk.spend at h9 ⊢
          split
          · rename_i hb
            rw [if_pos hb] at h9
            cases h9
          · rfl
        have hm : Hid (w'.ownsMap Tryz.prog 3 R mb m D) := Lib.hid (ownsMap_fr (ownsMap_fr hm0 F2.out (fun e => H.out.ne.2.1 e.symm)) (Fr.of_bel (S := fun _ => False) hB) (fun e => e))
        have Hi := Lib.hid hsi
        have Hops := Lib.hid hops
        clear hm0 hi hsi hops
        go_wp2_with (first
          | (at_mapUpdate
             refine wpList_mapUpdate_own _ rfl _ _ _ 123 rfl 3 127 law Tryz.underlying123 R mb m D rfl hm.out (by unfold maxLen; omega) _ _ (kl x) rfl rfl (hkey hx) _ [] rfl ?_
             intro w4 hown4 hg4))
        go_ret
        rw [hw.out]
        have h5 := H3.out
        have hne := h5.ne
        have hh2 := (spend_has d x).2 Hh.out
        refine ⟨rfl, ⟨put_ok h5.ok hh2 hs, ?_, ?_, ⟨_, m + 1, hown4, by show m + 1 ≤ d.spend.1.ops; rw [Hops.out]; omega, mapIs_put Hi.out hm.out.isMap hh2 s⟩, hne⟩, F3.out.trans (Fr.grown (S := fun k => k = p ∨ k = mb) hg4 (by rintro k ⟨⟩; exact .inr rfl)) (fun _ _ e => e)⟩
        · have h6 := heap_grown h5.blk hg4 (by simpa using hne.2.1)
          simpa [Dsk.put] using h6
        · rw [durable_put _ hh2]
          have h6 : Tw.Own w4 0 127 16 (some ⟨g, 0, none⟩) d.spend.1.cells.length c (bytesV (durable d.spend.1)) := h5.own.kept hg4 (by right; simpa [Value.ownBlock] using hne.2.2)
          simpa [Dsk.put] using h6
    · have hw : Hid (d.write x s = d.spend) := Lib.hid (by unfold Dsk.write; rw [if_pos hh, if_neg he])
      have He : Hid (d.spend.2 = 3) := Lib.hid ((spend_err d).resolve_left he)
      clear hh he
      go_enter Tryz.func128, Tryz.ntmps128
      go_wp2_with (first
        | (go_at_call 62
           (with_reducible refine (c_Made H.out).mono ?_)
           rintro e w' ⟨rfl, rfl⟩)
        | (go_at_call 172
           (with_reducible refine (c_has H.out x).mono ?_)
           rintro e w' ⟨rfl, rfl⟩
           rw [hd.out])
        | (go_at_call 129
           (with_reducible refine (c_spend H.out ho).mono ?_)
           rintro e w2 ⟨rfl, h2, f2⟩
           rw [He.out]
           have H2 := Lib.hid h2
           have F2 := Lib.hid f2
           clear h2 f2))
      go_ret
      rw [hw.out]
      exact ⟨by rw [He.out]; rfl, H2.out, HF.out.trans F2.out (fun _ _ e => .inl e)⟩
  · have hd := Lib.hid (decide_eq_false hh)
    have hw : Hid (d.write x s = (d, 13)) := Lib.hid (by unfold Dsk.write; rw [if_neg hh])
    clear hh
    go_enter Tryz.func128, Tryz.ntmps128
    go_wp2_with (first
      | (go_at_call 62
         (with_reducible refine (c_Made H.out).mono ?_)
         rintro e w' ⟨rfl, rfl⟩)
      | (go_at_call 172
         (with_reducible refine (c_has H.out x).mono ?_)
         rintro e w' ⟨rfl, rfl⟩
         rw [hd.out]))
    go_ret
    rw [hw.out]
    exact ⟨rfl, H.out, HF.out⟩
end
end Go.Proofs.YtaldlapnhhhclaaGreat.Disk
/- Contracts of the package disk: Read. Conditions: at most 10^9 operations. -/
namespace Go.Proofs.YtaldlapnhhhclaaGreat.Disk
open Go.RowKit Tw Go.Maps Go.ChangeMaps
set_option maxHeartbeats 2000000
set_option maxRecDepth 100000

theorem results_cell2 {P : Program} {fn : Func} {p q : Tmp} {ty : TypeId} (h : fn.results = #[.cell p ty, .tmp q]) (tmps : Array Value) (w : World) (g : Nat) (t : TypeId) (cs : Array Value) (fr : Nat × Nat) (d : TypeDesc)
    (hp : tmps.getD p undef = .pointer (some ⟨g, 0, none⟩)) (hg : w.heap[g]? = some (.cells cs t fr))
    (hu : P.underlying ty = some d) (hd : (match d with | .struct _ | .array _ _ => true | _ => false) = true) (hi : (P.info? ty).map (·.size) = some cs.size) (v : Value) (hv : tmps.getD q undef = v) :
    (results fn tmps).run P w = .ok (.tuple #[.agg cs, v]) w := by
  have hp' : tmps[p]?.getD undef = .pointer (some ⟨g, 0, none⟩) := by simpa using hp
  have hv' : tmps[q]?.getD undef = v := by simpa using hv
  simp [results, h, hp', hv', asAddr, run_loadVar_row w g t ty cs fr d hg hu hd hi]
theorem wpL_load_rd {P : Program} {ops : Array Oper} {rest : List Oper} {w : World} {o : Oper} {a : Act} {Q : Exit → Act → World → Prop} (hgd : o.guard = none) (ty : TypeId) (x : Operand) (ho : o.op = .load ty x)
    (ad : Addr) (hx : a.eval x = .pointer (some ad)) (cs : List Value) (d : TypeDesc) (hc : ∀ j v, cs[j]? = some v → w.cell? (ad.add j) = some v)
    (hu : P.underlying ty = some d) (hd : d.isRow = true) (hi : (P.info? ty).map (·.size) = some cs.length) (h : wpList P ops Q rest (a.put o.dst (.agg cs.toArray)) w) : wpList P ops Q (o :: rest) a w :=
  wpList_plain hgd fun _ hK => wp_load_rd ty x ho ad hx cs d hc hu hd hi (hK _ _ h)
/-- a whole row stored -/
theorem wpL_store_all {P : Program} {ops : Array Oper} {rest : List Oper} {w : World} {o : Oper} {a : Act} {Q : Exit → Act → World → Prop} (hgd : o.guard = none) (hds : o.dst = none) (ty : TypeId) (x y : Operand)
    (ho : o.op = .store ty x y) (g : Nat) (hx : a.eval x = .pointer (some ⟨g, 0, none⟩)) (cs : Array Value) (hy : a.eval y = .agg cs) (t : TypeId) (old : Array Value) (hg : w.heap[g]? = some (.cells old t (0, 0)))
    (hi : (P.info? ty).map (·.size) = some cs.size) (hs : cs.size = old.size) (h1 : ∀ v ∈ cs, v.oneCell' = true)
    (h : ∀ w', w'.heap[g]? = some (.cells cs t (0, 0)) → w.grownBy w' (some g) → wpList P ops Q rest a w') : wpList P ops Q (o :: rest) a w := by
  refine wpList_store_row hgd ty x y ho g cs hx hy t old hg hi hs.symm (Array.all_eq_true_iff_forall_mem.2 h1) ?_
  rw [hds]
  exact h _ (setRow_heap _ _ _ _ _ _ hg) (grown_setRow _ _ _)
section
variable {w w' : World} {p g mb c : Nat} {d : Dsk}
theorem zeroE (w : World) : (zeroValue 127).run Tryz.prog w = .ok (secV zs) w := by kernel_rfl
theorem zcells : (bytesV zs).toArray = #[.int .u8 0, .int .u8 0, .int .u8 0, .int .u8 0, .int .u8 0, .int .u8 0, .int .u8 0, .int .u8 0, .int .u8 0, .int .u8 0, .int .u8 0, .int .u8 0, .int .u8 0, .int .u8 0, .int .u8 0, .int .u8 0] := by kernel_rfl
theorem read_len (h : d.Ok) (x : Int) : (d.read x).1.length = 16 := by
  unfold Dsk.read
  split
  · rename_i hh
    split
    · exact zs_len
    · exact h.view (cell_mem hh)
  · exact zs_len
theorem c_dRead (h : Dk w p g mb c d) (x : Int) (hx : -9223372036854775808 ≤ x ∧ x ≤ 9223372036854775807) :
    Calls Tryz.prog 130 #[.pointer (some ⟨p, 0, none⟩), .int .i64 x] w fun e w' => e = .returned (.tuple #[secV (d.read x).1, .int .i64 ((d.read x).2 : Int)]) ∧ Below w.heap.size w w' := by
  have HB := Lib.hid ((Below.refl w.heap.size w).alloc (Nat.le_refl _) (.cells #[.int .u8 0, .int .u8 0, .int .u8 0, .int .u8 0, .int .u8 0, .int .u8 0, .int .u8 0, .int .u8 0, .int .u8 0, .int .u8 0, .int .u8 0, .int .u8 0, .int .u8 0, .int .u8 0, .int .u8 0, .int .u8 0] 127))
  have H := Lib.hid (h.bel HB.out)
  have HX := Lib.hid (heap_alloc_new w (.cells #[.int .u8 0, .int .u8 0, .int .u8 0, .int .u8 0, .int .u8 0, .int .u8 0, .int .u8 0, .int .u8 0, .int .u8 0, .int .u8 0, .int .u8 0, .int .u8 0, .int .u8 0, .int .u8 0, .int .u8 0, .int .u8 0] 127))
  obtain ⟨k0, k1, k2, k3, k4⟩ := H.out.cells
  clear h
  by_cases hh : d.has x
  · obtain ⟨n, rfl⟩ : ∃ n : Nat, x = (n : Int) := ⟨x.toNat, by have := (has_iff d x).1 hh; omega⟩
    have hd := Lib.hid (decide_eq_true hh)
    cases hb : d.broken with
    | true =>
      have hw : Hid (d.read (n : Int) = (zs, 3)) := Lib.hid (by unfold Dsk.read; rw [if_pos hh, if_pos hb])
      rw [hb] at k3
      clear hh hb
      go_enter Tryz.func130, Tryz.ntmps130
      go_upto_block 0 with (fail)
      generalize (w.alloc (.cells #[.int .u8 0, .int .u8 0, .int .u8 0, .int .u8 0, .int .u8 0, .int .u8 0, .int .u8 0, .int .u8 0, .int .u8 0, .int .u8 0, .int .u8 0, .int .u8 0, .int .u8 0, .int .u8 0, .int .u8 0, .int .u8 0] 127)) = W1 at *
      go_wp2_with (first
        | (go_at_call 62
           (with_reducible refine (c_Made H.out).mono ?_)
           rintro e w' ⟨rfl, rfl⟩)
        | (go_at_call 172
           (with_reducible refine (c_has H.out _).mono ?_)
           rintro e w' ⟨rfl, rfl⟩
           rw [hd.out])
        | (refine wpL_store_all rfl rfl 127 (.tmp 4) (.tmp 24) rfl _ rfl _ rfl _ _ HX.out (by kernel_rfl) rfl (by simp [Value.oneCell']) ?_
           intro w2 x2 g2
           have HR := Lib.hid x2
           have HBR := Lib.hid (HB.out.grown g2 HB.out.size (by rintro k ⟨⟩; exact Nat.le_refl _))
           clear x2 g2))
      refine bodyPost_ret (results_cell2 rfl _ _ w.heap.size _ _ (0, 0) _ rfl HR.out Tryz.underlying127 rfl (by kernel_rfl) _ rfl) rfl ?_
      rw [hw.out]
      exact ⟨by first | rfl | (unfold secV; rw [zcells]; rfl), HBR.out⟩
    | false =>
      have hsz : Hid ((bytesV (view (d.cell (n : Int)))).toArray.size = 16) := Lib.hid (by simp [bytesV]; exact H.out.ok.view (cell_mem hh))
      have hw : Hid (d.read (n : Int) = (view (d.cell (n : Int)), 0)) := Lib.hid (by unfold Dsk.read; rw [if_pos hh, hb]; rfl)
      have hfr : d.fresh (n : Int) = (d.cell (n : Int)).2 := by unfold Dsk.fresh; rw [if_pos hh]
      obtain ⟨D, m, hm, hle, hi⟩ := H.out.map
      obtain ⟨hi1, hi2⟩ := hi (n : Int)
      rw [hfr] at hi1 hi2
      rw [hb] at k3
      have hsafe : ∀ j v, (bytesV (d.cell (n : Int)).1)[j]? = some v → (w.alloc (.cells #[.int .u8 0, .int .u8 0, .int .u8 0, .int .u8 0, .int .u8 0, .int .u8 0, .int .u8 0, .int .u8 0, .int .u8 0, .int .u8 0, .int .u8 0, .int .u8 0, .int .u8 0, .int .u8 0, .int .u8 0, .int .u8 0] 127)).cell? ((⟨g, n * 16, none⟩ : Addr).add j) = some v := fun j v hv => by
        have hj := (List.getElem?_eq_some_iff.1 hv).1
        rw [bytesV_length, H.out.ok.safe _ (cell_mem hh)] at hj
        have h1 : (bytesV (durable d))[n * 16 + j]? = some v := by
          have h2 := durable_get H.out.ok hh hj
          rw [Int.toNat_natCast] at h2
          simp only [bytesV, List.getElem?_map] at hv ⊢
          rw [h2, hv]
        have h3 := H.out.own.rd.cell _ rfl _ _ h1
        rw [Addr.add_mid, Nat.zero_add] at h3
        rw [Addr.add_mid]
        exact h3
      have hs16 : (bytesV (d.cell (n : Int)).1).length = 16 := by rw [bytesV_length]; exact H.out.ok.safe _ (cell_mem hh)
      have hx2 := (has_iff d (n : Int)).1 hh
      have hnn := H.out.ok.n
      have Hi1 := Lib.hid hi1
      have Hi2 := Lib.hid hi2
      have Hm := Lib.hid hm
      have Hsafe := Lib.hid hsafe
      have Hs16 := Lib.hid hs16
      have hnl : n < d.cells.length := by omega
      clear hx2
      cases hc : (d.cell (n : Int)).2 with
      | some s =>
        have hvs : Hid (view (d.cell (n : Int)) = s) := Lib.hid (by unfold view; rw [hc]; rfl)
        rw [hc] at Hi1 Hi2
        rw [hvs.out] at hsz hw
        clear hh hb hfr hi hi1 hi2 hm hsafe hs16 hc hvs Hsafe Hs16
        go_enter Tryz.func130, Tryz.ntmps130
        go_upto_block 0 with (fail)
        generalize (w.alloc (.cells #[.int .u8 0, .int .u8 0, .int .u8 0, .int .u8 0, .int .u8 0, .int .u8 0, .int .u8 0, .int .u8 0, .int .u8 0, .int .u8 0, .int .u8 0, .int .u8 0, .int .u8 0, .int .u8 0, .int .u8 0, .int .u8 0] 127)) = W1 at *
        have HX6 := Lib.hid (heap_alloc_new W1 (.cells #[.int .u8 0, .int .u8 0, .int .u8 0, .int .u8 0, .int .u8 0, .int .u8 0, .int .u8 0, .int .u8 0, .int .u8 0, .int .u8 0, .int .u8 0, .int .u8 0, .int .u8 0, .int .u8 0, .int .u8 0, .int .u8 0] 127))
        have HY := Lib.hid (((Below.refl _ _).alloc (Nat.le_refl W1.heap.size) (.cells #[.int .u8 0, .int .u8 0, .int .u8 0, .int .u8 0, .int .u8 0, .int .u8 0, .int .u8 0, .int .u8 0, .int .u8 0, .int .u8 0, .int .u8 0, .int .u8 0, .int .u8 0, .int .u8 0, .int .u8 0, .int .u8 0] 127)))
        go_wp2_with (first
          | (go_at_call 62
             (with_reducible refine (c_Made H.out).mono ?_)
             rintro e w' ⟨rfl, rfl⟩)
          | (go_at_call 172
             (with_reducible refine (c_has H.out _).mono ?_)
             rintro e w' ⟨rfl, rfl⟩
             rw [hd.out])
          | (at_lookup
             refine wpList_lookup_own_ok _ rfl _ _ 123 rfl 3 127 law Tryz.underlying123 R (zeroE _) (.held (secV zs)) [] rfl mb m D rfl Hm.out (.int .i64 (n : Int)) (kl n) rfl (hkey hx) ?_
             intro v ps hv
             obtain rfl : v = .agg (bytesV s).toArray := by
               rw [Hi2.out] at hv
               simp only [R, atOf, secV, Option.some.injEq, Prod.mk.injEq, DataW.held.injEq] at hv
               exact hv.1
             rw [Hi1.out]
             simp only [Option.isSome_some]
             clear hv)
          | (refine wpL_store_all rfl rfl 127 (.tmp 6) (.tmp 32) rfl _ rfl _ rfl _ _ HX6.out (by rw [hsz.out]; kernel_rfl) hsz.out (fun v hv => bytesV_one v (by simpa using hv)) ?_
             intro w2 x2 g2
             have HX2 := Lib.hid x2
             have HX := Lib.hid (heap_grown ((HY.out.block _ (heap_lt HX.out)).trans HX.out) g2 (by have := heap_lt HX.out; simp; omega))
             have HB := Lib.hid ((HB.out.trans (HY.out.mono HB.out.size)).grown g2 (by have := HB.out.size; simp; omega) (by rintro k ⟨⟩; exact HB.out.size))
             clear x2 g2)
          | (refine wpList_load_row rfl 127 (.tmp 6) rfl _ rfl _ _ _ _ HX2.out Tryz.underlying127 rfl (by rw [hsz.out]; kernel_rfl) ?_)
          | (refine wpL_store_all rfl rfl 127 (.tmp 4) (.tmp 35) rfl _ rfl _ rfl _ _ HX.out (by rw [hsz.out]; kernel_rfl) hsz.out (fun v hv => bytesV_one v (by simpa using hv)) ?_
             intro w3 x3 g3
             have HR := Lib.hid x3
             have HBR := Lib.hid (HB.out.grown g3 HB.out.size (by rintro k ⟨⟩; exact Nat.le_refl _))
             clear x3 g3))
        refine bodyPost_ret (results_cell2 rfl _ _ w.heap.size _ _ (0, 0) _ rfl HR.out Tryz.underlying127 rfl (by rw [hsz.out];kernel_rfl) _ rfl) rfl ?_
        rw [hw.out]
        exact ⟨by first | rfl | (unfold secV; rw [zcells]; rfl), HBR.out⟩
      | none =>
        have hvs : Hid (view (d.cell (n : Int)) = (d.cell (n : Int)).1) := Lib.hid (by unfold view; rw [hc]; rfl)
        rw [hc] at Hi1 Hi2
        rw [hvs.out] at hsz hw
        clear hh hb hfr hi hi1 hi2 hm hsafe hs16 hc hvs
        generalize (d.cell (n : Int)).1 = s at *
        go_enter Tryz.func130, Tryz.ntmps130
        go_upto_block 0 with (fail)
        generalize (w.alloc (.cells #[.int .u8 0, .int .u8 0, .int .u8 0, .int .u8 0, .int .u8 0, .int .u8 0, .int .u8 0, .int .u8 0, .int .u8 0, .int .u8 0, .int .u8 0, .int .u8 0, .int .u8 0, .int .u8 0, .int .u8 0, .int .u8 0] 127)) = W1 at *
        have HX6 := Lib.hid (heap_alloc_new W1 (.cells #[.int .u8 0, .int .u8 0, .int .u8 0, .int .u8 0, .int .u8 0, .int .u8 0, .int .u8 0, .int .u8 0, .int .u8 0, .int .u8 0, .int .u8 0, .int .u8 0, .int .u8 0, .int .u8 0, .int .u8 0, .int .u8 0] 127))
        have HY := Lib.hid (((Below.refl _ _).alloc (Nat.le_refl W1.heap.size) (.cells #[.int .u8 0, .int .u8 0, .int .u8 0, .int .u8 0, .int .u8 0, .int .u8 0, .int .u8 0, .int .u8 0, .int .u8 0, .int .u8 0, .int .u8 0, .int .u8 0, .int .u8 0, .int .u8 0, .int .u8 0, .int .u8 0] 127)))
        go_wp2_with (first
          | (go_at_call 62
             (with_reducible refine (c_Made H.out).mono ?_)
             rintro e w' ⟨rfl, rfl⟩)
          | (go_at_call 172
             (with_reducible refine (c_has H.out _).mono ?_)
             rintro e w' ⟨rfl, rfl⟩
             rw [hd.out])
          | (at_lookup
             refine wpList_lookup_own_ok _ rfl _ _ 123 rfl 3 127 law Tryz.underlying123 R (zeroE _) (.held (secV zs)) [] rfl mb m D rfl Hm.out (.int .i64 (n : Int)) (kl n) rfl (hkey hx) ?_
             intro v ps hv
             obtain rfl : v = .agg #[.int .u8 0, .int .u8 0, .int .u8 0, .int .u8 0, .int .u8 0, .int .u8 0, .int .u8 0, .int .u8 0, .int .u8 0, .int .u8 0, .int .u8 0, .int .u8 0, .int .u8 0, .int .u8 0, .int .u8 0, .int .u8 0] := by
               rw [Hi2.out] at hv
               simp only [R, atOf, secV, Option.some.injEq, Prod.mk.injEq, DataW.held.injEq] at hv
               rw [hv.1, zcells]
             rw [Hi1.out]
             simp only [Option.isSome_none]
             clear hv)
          | (refine wpL_store_all rfl rfl 127 (.tmp 6) (.tmp 32) rfl _ rfl _ rfl _ _ HX6.out (by kernel_rfl) rfl (by simp [Value.oneCell']) ?_
             intro w2 x2 g2
             have HX2 := Lib.hid x2
             have HX := Lib.hid (heap_grown ((HY.out.block _ (heap_lt HX.out)).trans HX.out) g2 (by have := heap_lt HX.out; simp; omega))
             have HB := Lib.hid ((HB.out.trans (HY.out.mono HB.out.size)).grown g2 (by have := HB.out.size; simp; omega) (by rintro k ⟨⟩; exact HB.out.size))
             have HW := (HY.out.grown g2 HY.out.size (by rintro k ⟨⟩; exact Nat.le_refl _))
             have Hsafe := Lib.hid (fun j v hv => (HW.cell (block_lt_of_cell (Hsafe.out j v hv))).trans (Hsafe.out j v hv))
             have kk0 := (HW.cell (block_lt_of_cell k0)).trans k0
             clear x2 g2 HW)
          | (refine wpL_load_rd rfl 127 (.tmp 41) rfl ⟨g, n * 16, none⟩ rfl (bytesV s) _ Hsafe.out Tryz.underlying127 rfl (by rw [Hs16.out]; kernel_rfl) ?_)
          | (refine wpL_store_all rfl rfl 127 (.tmp 4) (.tmp 42) rfl _ rfl _ rfl _ _ HX.out (by rw [hsz.out]; kernel_rfl) hsz.out (fun v hv => bytesV_one v (by simpa using hv)) ?_
             intro w3 x3 g3
             have HR := Lib.hid x3
             have HBR := Lib.hid (HB.out.grown g3 HB.out.size (by rintro k ⟨⟩; exact Nat.le_refl _))
             clear x3 g3))
        refine bodyPost_ret (results_cell2 rfl _ _ w.heap.size _ _ (0, 0) _ rfl HR.out Tryz.underlying127 rfl (by rw [hsz.out];kernel_rfl) _ rfl) rfl ?_
        rw [hw.out]
        exact ⟨by first | rfl | (unfold secV; rw [zcells]; rfl), HBR.out⟩
  · have hd := Lib.hid (decide_eq_false hh)
    have hw : Hid (d.read x = (zs, 13)) := Lib.hid (by unfold Dsk.read; rw [if_neg hh])
    clear hh
    go_enter Tryz.func130, Tryz.ntmps130
    go_upto_block 0 with (fail)
    generalize (w.alloc (.cells #[.int .u8 0, .int .u8 0, .int .u8 0, .int .u8 0, .int .u8 0, .int .u8 0, .int .u8 0, .int .u8 0, .int .u8 0, .int .u8 0, .int .u8 0, .int .u8 0, .int .u8 0, .int .u8 0, .int .u8 0, .int .u8 0] 127)) = W1 at *
    go_wp2_with (first
      | (go_at_call 62
         (with_reducible refine (c_Made H.out).mono ?_)
         rintro e w' ⟨rfl, rfl⟩)
      | (go_at_call 172
         (with_reducible refine (c_has H.out _).mono ?_)
         rintro e w' ⟨rfl, rfl⟩
         rw [hd.out])
      | (refine wpL_store_all rfl rfl 127 (.tmp 4) (.tmp 18) rfl _ rfl _ rfl _ _ HX.out (by kernel_rfl) rfl (by simp [Value.oneCell']) ?_
         intro w2 x2 g2
         have HR := Lib.hid x2
         have HBR := Lib.hid (HB.out.grown g2 HB.out.size (by rintro k ⟨⟩; exact Nat.le_refl _))
         clear x2 g2))
    refine bodyPost_ret (results_cell2 rfl _ _ w.heap.size _ _ (0, 0) _ rfl HR.out Tryz.underlying127 rfl (by kernel_rfl) _ rfl) rfl ?_
    rw [hw.out]
    exact ⟨by first | rfl | (unfold secV; rw [zcells]; rfl), HBR.out⟩
end
end Go.Proofs.YtaldlapnhhhclaaGreat.Disk
/- Contracts of the package disk: Flush, Fuse. Conditions: at most 10^9 operations. -/
namespace Go.Proofs.YtaldlapnhhhclaaGreat.Disk
open Go.RowKit Tw Go.Maps Go.ChangeMaps
set_option maxHeartbeats 4000000
set_option maxRecDepth 100000

theorem run_clear_map {P : Program} {w : World} {k e t : TypeId} {b n : Nat} {D : DataW Value} {RR : Value → Option (DataW Value × List MemPlace)} (h : w.ownsMap P k RR b n D) (ht : P.underlying t = some (.map k e)) (ty : TypeId) :
    ∃ w', (Builtin.clear_ #[t] ty #[.map (some b)]).run P w = .ok (.tuple #[]) w' ∧ w'.ownsMap P k RR b 0 (.map []) ∧ w.grownBy w' (some b) := by
  obtain ⟨es, clock, hb, F, hs, hD⟩ := h
  have hrun : (Builtin.clear_ #[t] ty #[.map (some b)]).run P w = .ok (.tuple #[]) { w with heap := w.heap.setIfInBounds b (.map #[] clock) } := by
    simp [Builtin.clear_, run_underlying ht, MapKept.run_getObj_map hb, MapKept.run_setObj_map _ hb, Result.andThen]
  have h2 := MapKept.heap_set (o' := .map #[] clock) hb
  exact ⟨_, hrun, ⟨#[], clock, h2.1, ⟨by simp, MapKept.stamped_empty clock, by simp⟩, Nat.le_refl _, rfl⟩, ⟨rfl, rfl, rfl, by simp, fun k _ hn => h2.2 k (fun e => hn (by rw [e]))⟩⟩

theorem splice_cons (l : List Value) (o : Nat) (v : Value) (r : List Value) (h : o + (r.length + 1) ≤ l.length) : splice (l.set o v) (o + 1) r = splice l o (v :: r) := by
  unfold splice
  rw [List.length_cons]
  have h1 : (l.set o v).take (o + 1) = l.take o ++ [v] := by
    rw [List.take_set, List.take_succ_eq_append_getElem (by omega)]
    rw [List.set_append_right _ _ (by simp; omega)]
    simp [Nat.min_eq_left (show o ≤ l.length by omega)]
  have h2 : (l.set o v).drop (o + 1 + r.length) = l.drop (o + (r.length + 1)) := by
    rw [List.drop_set_of_lt (by omega)]
    congr 1
    omega
  rw [h1, h2]
  simp
theorem heap_setCells (g : Nat) (t : TypeId) : ∀ (vs : List Value) (w : World) (o : Nat) (cur : Array Value), w.heap[g]? = some (.cells cur t (0, 0)) → o + vs.length ≤ cur.size →
    ∃ cur', (w.setCells g o vs).heap[g]? = some (.cells cur' t (0, 0)) ∧ cur'.toList = splice cur.toList o vs ∧ cur'.size = cur.size ∧ w.grownBy (w.setCells g o vs) (some g)
  | [], w, o, cur, h, _ => ⟨cur, h, by simp [splice], rfl, World.grownBy.refl _ _⟩
  | v :: vs, w, o, cur, h, hl => by
    rw [List.length_cons] at hl
    have h1 := heap_setCell_same w g o cur t v h
    obtain ⟨cur', h2, h3, h4, h5⟩ := heap_setCells g t vs (w.setCell ⟨g, o, none⟩ v) (o + 1) _ h1 (by simp; omega)
    refine ⟨cur', h2, ?_, by simpa using h4, (grown_setCell w g o v).trans h5⟩
    rw [h3, Array.toList_setIfInBounds, splice_cons _ _ _ _ (by simpa using hl)]
/-- an element of several cells stored into a row of the call's own -/
theorem wpL_store_elem {P : Program} {ops : Array Oper} {rest : List Oper} {w : World} {o : Oper} {a : Act} {Q : Exit → Act → World → Prop} (hgd : o.guard = none) (hds : o.dst = none) (ty : TypeId) (x y : Operand)
    (ho : o.op = .store ty x y) (base : Nat) (e : TypeId) (sz g i n c : Nat) (hx : a.eval x = .pointer (some ⟨g, i * sz, none⟩)) (cs : List Value) (hcs : cs.length = sz) (hy : a.eval y = .agg cs.toArray) (hi : (P.info? ty).map (·.size) = some sz)
    (xs : List Value) (hown : Own w base e sz (some ⟨g, 0, none⟩) n c xs) (hin : i < n) (h1 : ∀ v ∈ cs, v.oneCell' = true) (ys : List Value) (hys : splice xs (i * sz) cs = ys)
    (h : ∀ w', Own w' base e sz (some ⟨g, 0, none⟩) n c ys → w.grownBy w' (some g) → wpList P ops Q rest a w') : wpList P ops Q (o :: rest) a w := by
  subst hys
  rcases hown.2 with ⟨hv, _⟩ | ⟨g', cap, cur, hv, hb, hh, hnc, hcm, hs, ht⟩
  · injection hv with h1
    cases h1
  · injection hv with h2 _ h3
    injection h2 with h2
    injection h2 with h2
    subst h2 h3
    have hle : i * sz + sz ≤ n * sz := by rw [← Nat.succ_mul]; exact Nat.mul_le_mul_right _ hin
    have hle2 : n * sz ≤ c * sz := Nat.mul_le_mul_right _ hnc
    have hthere : w.there g (i * sz) cs.toArray.size := fun j hj => ⟨by simp [World.cell?, hh]; simp at hj; omega, by simp [World.frozen?, hh]⟩
    refine wpList_store_mid hgd ty x y ho g (i * sz) cs.toArray hx hy hthere (by simpa [hcs] using hi) (Array.all_eq_true_iff_forall_mem.2 fun v hv => h1 v (by simpa using hv)) ?_
    rw [hds]
    obtain ⟨cur', q1, q2, q3, q4⟩ := heap_setCells g e cs w (i * sz) cur hh (by omega)
    refine h _ ⟨?_, .inr ⟨g, c, cur', rfl, hb, q1, hnc, hcm, q3.trans hs, ?_⟩⟩ q4
    · have := hown.1
      unfold splice
      simp
      omega
    · have hcl : cur.toList.length = c * sz := by simpa using hs
      rw [q2, ← ht]
      unfold splice
      rw [hcs]
      have e1 : ((cur.toList.take (n * sz)).take (i * sz)) = cur.toList.take (i * sz) := by rw [List.take_take, Nat.min_eq_left (by omega)]
      rw [e1, ← List.append_assoc, ← List.append_assoc, List.take_append, List.take_of_length_le (by simp; omega), List.drop_take]
      congr 2
      simp
      omega

/-- sectors one behind the other -/
def catS (f : Nat → Sec) (m : Nat) : List UInt8 := (List.range m).flatMap f
theorem catS_succ (f : Nat → Sec) (m : Nat) : catS f (m + 1) = catS f m ++ f m := by simp [catS, List.range_succ]
theorem catS_len {f : Nat → Sec} {m : Nat} (h : ∀ i, i < m → (f i).length = 16) : (catS f m).length = m * 16 := by
  induction m with
  | zero => rfl
  | succ m ih => rw [catS_succ, List.length_append, ih fun i hi => h i (by omega), h m (by omega)]; omega
theorem catS_congr {f g : Nat → Sec} {m : Nat} (h : ∀ i, i < m → f i = g i) : catS f m = catS g m := by
  induction m with
  | zero => rfl
  | succ m ih => rw [catS_succ, catS_succ, ih fun i hi => h i (by omega), h m (by omega)]
/-- one sector put in -/
theorem catS_put {f g : Nat → Sec} {m x : Nat} (hx : x < m) (hf : ∀ i, i < m → (f i).length = 16) (hs : (g x).length = 16) (h : ∀ i, i < m → i ≠ x → g i = f i) : splice (bytesV (catS f m)) (x * 16) (bytesV (g x)) = bytesV (catS g m) := by
  have key : (catS f m).take (x * 16) ++ (g x ++ (catS f m).drop (x * 16 + 16)) = catS g m := by
    induction m with
    | zero => omega
    | succ m ih =>
      have hl := catS_len (f := f) (m := m) (fun i hi => hf i (by omega))
      rw [catS_succ, catS_succ]
      by_cases hxm : x = m
      · subst hxm
        rw [List.take_left' hl, List.drop_append, hl, List.drop_eq_nil_of_le (by omega), List.nil_append, List.drop_eq_nil_of_le (by have := hf x (by omega); omega), List.append_nil]
        rw [catS_congr fun i hi => (h i (by omega) (by omega)).symm]
      · rw [List.take_append_of_le_length (by omega), List.drop_append_of_le_length (by omega), h m (by omega) (by omega)]
        rw [← ih (by omega) (fun i hi => hf i (by omega)) (fun i hi hn => h i (by omega) hn)]
        simp
  rw [← key]
  unfold splice
  simp only [bytesV_append, bytesV_length, hs, bytesV_take, bytesV_drop]
def cellAt (d : Dsk) (i : Nat) : Cl := d.cells.getD i c0
theorem flat_catS (l : List Cl) (f : Cl → Sec) : l.flatMap f = catS (fun i => f (l.getD i c0)) l.length := by
  have h : l = (List.range l.length).map (fun i => l.getD i c0) := List.ext_getElem (by simp) (fun i h1 h2 => by simp [List.getD_eq_getElem?_getD, h1])
  have h2 : l.flatMap f = ((List.range l.length).map (fun i => l.getD i c0)).flatMap f := by rw [← h]
  rw [h2, List.flatMap_map]
  rfl
end Go.Proofs.YtaldlapnhhhclaaGreat.Disk
/- Contracts of the package disk: Flush. Conditions: at most 10^9 operations. -/
namespace Go.Proofs.YtaldlapnhhhclaaGreat.Disk
open Go.RowKit Tw Go.Maps Go.ChangeMaps
set_option maxHeartbeats 4000000
set_option maxRecDepth 100000

theorem ranges_fr {w w' : World} {S : Nat → Prop} {mb r m cnt : Nat} {D : DataW Value} {left : Lit → Bool} (h : w.ranges Tryz.prog 3 R mb r m D left cnt) (hf : Fr S w w') (h1 : ¬ S mb) (h2 : ¬ S r) : w'.ranges Tryz.prog 3 R mb r m D left cnt := by
  obtain ⟨es, clock, since, seen, c0, q1, q2, q3, q4, q5, q6⟩ := h
  exact ⟨es, clock, since, seen, c0, heap_fr q1 hf h1, q2, q3, q4, heap_fr q5 hf h2, q6⟩
/-- the step of a range over a map of sectors -/
theorem wpL_next {ops : Array Oper} {rest : List Oper} {w : World} {o : Oper} {a : Act} {Q : Exit → Act → World → Prop} (hg : o.guard = none) (it : Operand) (hop : o.op = Op.next it false) (b r n : Nat) (D : DataW Value) (left : Lit → Bool) (cnt : Nat)
    (hit : a.eval it = .pointer (some ⟨r, 0, none⟩)) (h : w.ranges Tryz.prog 3 R b r n D left cnt)
    (hDone : (∀ z, left z = false) → wpList Tryz.prog ops Q rest (a.put o.dst (.tuple #[.bool false])) w)
    (hMore : ∀ (x : Int) (v : Value) (w' : World) (cnt' : Nat), left (kl x) = true → (∀ zd, D.atKey (kl x) zd = .held v) → w'.ranges Tryz.prog 3 R b r n D (fun z => left z && !z.sameKey (kl x)) cnt' → cnt' < w.rangeLeft b r → w.grownBy w' (some r) → w'.heap.size = w.heap.size →
      (Instr.entry (.pointer (some ⟨r, 0, none⟩))).run Tryz.prog w' = .ok (.tuple #[.int .i64 x, v]) w' → wpList Tryz.prog ops Q rest (a.put o.dst (.tuple #[.bool true, .int .i64 x, v])) w') :
    wpList Tryz.prog ops Q (o :: rest) a w :=
  wpList_next_ranges w hg it hop 3 law R (Value.int .i64) (fun v : Value => v) (fun key k hkey => by obtain ⟨x, rfl, _⟩ := Maps.keyOf_int_inv Tryz.underlying3 hkey; exact ⟨x, rfl⟩) (fun v y hv => ⟨v, rfl⟩)
    b r n D left cnt hit h (fun _ hl => hDone hl) (fun x c k y w' cnt' hkey hlk hv hat hrg hlt hgr hsz hen => by
      obtain ⟨x', ex, rfl, hwx⟩ := Maps.keyOf_int_inv Tryz.underlying3 hkey
      cases ex
      simp only [R, Option.some.injEq] at hv
      subst hv
      exact hMore x c w' cnt' hlk hat hrg (by rw [h.left_eq]; exact hlt) hgr hsz hen)

/-- what is written of the sectors, as long as some are still to come -/
def mix (d : Dsk) (left : Lit → Bool) (i : Nat) : Sec := if left (kl (i : Int)) then (cellAt d i).1 else view (cellAt d i)
theorem cellAt_cell (d : Dsk) (i : Nat) : d.cell (i : Int) = cellAt d i := rfl
theorem fresh_at {d : Dsk} {i : Nat} (h : i < d.cells.length) : d.fresh (i : Int) = (cellAt d i).2 := by
  unfold Dsk.fresh
  rw [if_pos ((has_iff d _).2 (by omega))]
  rfl
theorem cellAt_mem {d : Dsk} {i : Nat} (h : i < d.cells.length) : cellAt d i ∈ d.cells := cell_mem (d := d) (at_ := (i : Int)) ((has_iff d _).2 (by omega))
theorem mix_len {d : Dsk} (h : d.Ok) (left : Lit → Bool) {i : Nat} (hi : i < d.cells.length) : (mix d left i).length = 16 := by
  unfold mix
  split
  · exact h.safe _ (cellAt_mem hi)
  · exact h.view (cellAt_mem hi)
theorem mix_start {d : Dsk} {D : DataW Value} (h : MapIs D d) : catS (mix d (Maps.has D)) d.cells.length = durable d := by
  unfold durable
  rw [flat_catS]
  refine catS_congr fun i hi => ?_
  unfold mix
  rw [(h i).1, fresh_at hi]
  split
  · rfl
  · rename_i hn
    have : (cellAt d i).2 = none := by simpa using hn
    unfold view
    rw [this]
    rfl
theorem mix_done {d : Dsk} {left : Lit → Bool} (h : ∀ z, left z = false) : catS (mix d left) d.cells.length = durable d.allSafe := by
  unfold durable Dsk.allSafe
  simp only [List.flatMap_map]
  rw [flat_catS]
  refine catS_congr fun i hi => ?_
  unfold mix
  rw [h]
  rfl
theorem sameKey_kl {x y : Int} : (kl y).sameKey (kl x) = decide (y = x) := by
  by_cases h : y = x
  · subst h
    rw [WideAt.sameKey_self (klKey _), decide_eq_true rfl]
  · rw [decide_eq_false h]
    cases hs : (kl y).sameKey (kl x)
    · rfl
    · exact absurd (WideAt.sameKey_eq hs) (kl_ne h)
theorem mix_step {d : Dsk} (hd : d.Ok) {D : DataW Value} (h : MapIs D d) {left : Lit → Bool} (hl : ∀ z, left z = true → Maps.has D z = true) {x : Int} (hx : left (kl x) = true) {v : Value} (hv : ∀ zd, D.atKey (kl x) zd = .held v) :
    ∃ (i : Nat) (s : Sec), x = (i : Int) ∧ i < d.cells.length ∧ v = .agg (bytesV s).toArray ∧ s.length = 16 ∧ splice (bytesV (catS (mix d left) d.cells.length)) (i * 16) (bytesV s) = bytesV (catS (mix d (fun z => left z && !z.sameKey (kl x))) d.cells.length) := by
  have h1 := hl _ hx
  obtain ⟨h2, h3⟩ := h x
  rw [h2] at h1
  obtain ⟨s, hs⟩ := Option.isSome_iff_exists.1 h1
  have hhas : d.has x := by
    unfold Dsk.fresh at hs
    split at hs
    · assumption
    · cases hs
  obtain ⟨i, rfl⟩ : ∃ i : Nat, x = (i : Int) := ⟨x.toNat, by have := (has_iff d x).1 hhas; omega⟩
  have hi : i < d.cells.length := by have := (has_iff d (i : Int)).1 hhas; omega
  have h4 := h3 (.held v)
  rw [hv, hs] at h4
  simp only [atOf, DataW.held.injEq] at h4
  rw [fresh_at hi] at hs
  have hsl : s.length = 16 := hd.fresh _ (cellAt_mem hi) s hs
  have hm : mix d (fun z => left z && !z.sameKey (kl (i : Int))) i = s := by
    unfold mix
    simp only [sameKey_kl]
    simp [view, hs]
  refine ⟨i, s, rfl, hi, h4, hsl, ?_⟩
  have := catS_put (f := mix d left) (g := mix d (fun z => left z && !z.sameKey (kl (i : Int)))) hi (fun j hj => mix_len hd left hj) (by rw [hm]; exact hsl) (fun j hj hne => by
    unfold mix
    simp only [sameKey_kl]
    rw [decide_eq_false (by omega)]
    simp)
  rw [hm] at this
  exact this
theorem mapIs_safe (d : Dsk) : MapIs (.map []) d.allSafe := fun x => by
  have h : d.allSafe.fresh x = none := by
    unfold Dsk.fresh
    split
    · rename_i hx
      have h1 := cell_mem hx
      obtain ⟨c, _, hc⟩ := List.mem_map.1 h1
      rw [← hc]
    · rfl
  rw [h]
  exact ⟨rfl, fun z => rfl⟩

section
variable {w w' : World} {p g mb c : Nat} {d : Dsk}
theorem c_Flush (h : Dk w p g mb c d) (ho : d.ops < 1000000000) : Calls Tryz.prog 71 #[.pointer (some ⟨p, 0, none⟩)] w fun e w' => e = .returned (.int .i64 (d.flush.2 : Int)) ∧ Dk w' p g mb c d.flush.1 ∧ Fr (fun k => k = p ∨ k = g ∨ k = mb) w w' := by
  have H := Lib.hid h
  have hlt := h.lts
  have hne := h.ne
  clear h
  by_cases he : d.spend.2 = 0
  · have hw : Hid (d.flush = (d.spend.1.allSafe, 0)) := Lib.hid (by unfold Dsk.flush; rw [if_pos he])
    have He := Lib.hid he
    have Hok := Lib.hid (spend_ok H.out.ok ho)
    obtain ⟨d1, hd1⟩ : ∃ x, d.spend.1 = x := ⟨_, rfl⟩
    have Hd1 := Lib.hid hd1
    rw [hd1] at hw Hok
    clear he hd1
    go_enter Tryz.func71, Tryz.ntmps71
    go_upto_region 6 with (first
      | (go_at_call 62
         (with_reducible refine (c_Made H.out).mono ?_)
         rintro e w' ⟨rfl, rfl⟩)
      | (go_at_call 129
         (with_reducible refine (c_spend H.out ho).mono ?_)
         rintro e w2 ⟨rfl, h2, f2⟩
         rw [He.out]
         rw [Hd1.out] at h2
         have hlt2 := h2.lts
         have hcl := h2.cells
         have H2 := Lib.hid h2
         have F2 := Lib.hid f2
         clear h2 f2))
    obtain ⟨D, m, hm, hle, hi⟩ := H2.out.map
    obtain ⟨k0, k1, k2, k3, k4⟩ := hcl
    have Hm := Lib.hid hm
    have Hi := Lib.hid hi
    have Hle := Lib.hid hle
    clear hm hle hi
    go_wp2_with (first
      | (at_range
         refine wpList_range_own _ rfl _ 123 rfl 3 127 law Tryz.underlying123 R mb m D rfl Hm.out ?_
         intro w3 hrg0 hg0 hs0))
    obtain ⟨n, hn⟩ : ∃ n, d1.cells.length = n := ⟨_, rfl⟩
    have Hn := Lib.hid hn
    rw [hn] at k0
    obtain ⟨r, hr⟩ : ∃ r, w2.heap.size = r := ⟨_, rfl⟩
    have hblk := H2.out.blk
    have hown := H2.out.own
    rw [hn] at hblk hown
    rw [← mix_start Hi.out, hn] at hown
    have Hblk3 := Lib.hid (heap_grown hblk hg0 (by simp))
    have Hown3 := Lib.hid (hown.kept hg0 (by right; simp [Value.ownBlock]))
    have F3 := Lib.hid ((F2.out.mono (S1 := fun k => k = p ∨ k = g ∨ k = mb) (fun _ _ e => .inl e)).trans (Fr.grown (S := fun _ => False) hg0 (by simp)) (fun _ _ e => e.elim))
    rw [hr] at hrg0 hs0 ⊢
    have Hrg3 := Lib.hid hrg0
    have Hlt3 : Hid (p < r ∧ g < r ∧ mb < r ∧ w.heap.size ≤ r) := Lib.hid (by have := F2.out.size; omega)
    clear hblk hown hg0 hn hrg0 hs0 k1 k2 k3 k4 hlt2 hr
    go_frame
    go_loopw [4] (fun v wr => ∃ (left : Lit → Bool) (cnt : Nat), Hid (wr.ranges Tryz.prog 3 R mb r m D left cnt) ∧ Hid (∀ z, left z = true → Maps.has D z = true) ∧ Hid (Tw.Own wr 0 127 16 (some ⟨g, 0, none⟩) n c (bytesV (catS (mix d1 left) n))) ∧ Hid (wr.heap[p]? = some (.cells #[.slice (some ⟨g, 0, none⟩) n c, .map (some mb), .int .i64 d1.fuse, .bool d1.broken, .int .i64 (d1.ops : Int)] 125 (0, 0))) ∧ Hid (Fr (fun k => k = p ∨ k = g ∨ k = mb) w wr)) (fun _ wr => wr.rangeLeft mb r)
    case atStart => exact ⟨_, _, Hrg3, Lib.hid (fun _ h => h), Hown3, Hblk3, F3⟩
    case round =>
      clear Hrg3 Hown3 Hblk3 F3 H2 F2 Hm k0
      obtain ⟨left, cnt, Hrg, Hl, Hown, Hblk, HF⟩ := hrel
      go_wp2_with (first
        | (at_next
           refine wpL_next rfl _ rfl mb r m D left cnt rfl Hrg.out ?_ ?_))
      · intro hl0
        obtain ⟨w9, hrun, hown9, hg9⟩ := run_clear_map Hrg.out.owns Tryz.underlying123 0
        have k1 : wr.cell? ⟨p, 1, none⟩ = some (.map (some mb)) := by simp [World.cell?, Hblk.out]
        have Hown9 := Lib.hid hown9
        have Hg9 := Lib.hid hg9
        have HO := Lib.hid (mix_done (d := d1) hl0)
        clear hl0 hown9 hg9
        go_wp2_with fail
        go_ret
        rw [hw.out]
        have hw2 : ∀ (l : List Cl), l.length = n → (l.map fun c => (view c, (none : Option Sec))).length = n := fun l h => by simpa using h
        have hl : d1.allSafe.cells.length = n := hw2 _ Hn.out
        refine ⟨rfl, ⟨allSafe_ok Hok.out, ?_, ?_, ⟨.map [], 0, Hown9.out, Nat.zero_le _, mapIs_safe d1⟩, hne⟩, HF.out.trans (Fr.grown (S := fun k => k = mb) Hg9.out (by simp)) (fun _ _ e => .inr (.inr e))⟩
        · rw [hl]
          exact heap_grown Hblk.out Hg9.out (by simp; omega)
        · rw [hl]
          have h9 := Hown.out.kept Hg9.out (by right; simp [Value.ownBlock]; omega)
          rw [← Hn.out, HO.out, Hn.out] at h9
          exact h9
      · intro x v w4 cnt4 hx hv hrg4 hlt4 hg4 hs4 hen
        obtain ⟨i, s, rfl, hi, rfl, hs, hput⟩ := mix_step Hok.out Hi.out Hl.out hx hv
        rw [Hn.out] at hi hput
        have hrlt := hrg4.lt
        have hrp := Hlt3.out
        have Hrg4 := Lib.hid hrg4
        have Hown4 := Lib.hid (Hown.out.kept hg4 (by right; simp [Value.ownBlock]; omega))
        have Hblk4 := Lib.hid (heap_grown Hblk.out hg4 (by simp; omega))
        have F4 := Lib.hid (Fr.grown (S := fun k => k = r) hg4 (by simp))
        have Hlt4 := Lib.hid hlt4
        have Hput := Lib.hid hput
        have Hs := Lib.hid hs
        have hsz : Hid ((bytesV s).toArray.size = 16) := Lib.hid (by rw [List.size_toArray, bytesV_length]; exact hs)
        have HX4 := Lib.hid (heap_alloc_new w4 (.cells #[.int .u8 0, .int .u8 0, .int .u8 0, .int .u8 0, .int .u8 0, .int .u8 0, .int .u8 0, .int .u8 0, .int .u8 0, .int .u8 0, .int .u8 0, .int .u8 0, .int .u8 0, .int .u8 0, .int .u8 0, .int .u8 0] 127))
        have Hl4 : Hid (∀ z, (left z && !z.sameKey (kl (i : Int))) = true → Maps.has D z = true) := Lib.hid (fun z h => Hl.out z (by simp at h; exact h.1))
        have hkl : kl (i : Int) = .int .i64 (i : Int) := rfl
        have Hs4 := Lib.hid hs4
        clear hs4 hx hv hrg4 hlt4 hg4 hput hs Hl Hrg Hown Hblk hkl
        go_wp2_with (first
          | (refine wpL_store_all rfl rfl 127 (.tmp 5) (.tmp 23) rfl _ rfl _ rfl _ _ HX4.out (by rw [hsz.out]; kernel_rfl) hsz.out (fun v hv => bytesV_one v (by simpa using hv)) ?_
             intro w5 x5 g5
             have HX5 := Lib.hid x5
             have F5 := Lib.hid ((Fr.alloc (S := fun k => False) (w := w4) (.cells #[.int .u8 0, .int .u8 0, .int .u8 0, .int .u8 0, .int .u8 0, .int .u8 0, .int .u8 0, .int .u8 0, .int .u8 0, .int .u8 0, .int .u8 0, .int .u8 0, .int .u8 0, .int .u8 0, .int .u8 0, .int .u8 0] 127)).trans (Fr.grown (S := fun k => k = w4.heap.size) g5 (by simp)) (fun b hb e => absurd e (by omega)))
             clear x5 g5))
        refine wp_region_phi (by kernel_rfl) 7 none (fun _ => false) (fun i_ v wz => match i_ with
          | 0 => v = .pointer (some ⟨p, 0, none⟩)
          | 1 => v = .pointer (some ⟨p, 0, none⟩)
          | 2 => v = .pointer (some ⟨p, 0, none⟩)
          | 3 => v = .slice (some ⟨g, 0, none⟩) n c
          | 4 => v = .int .i64 (i : Int)
          | 5 => v = .agg (bytesV s).toArray
          | 6 => v = .pointer (some ⟨g, i * 16, none⟩)
          | _ => True) (by kernel_rfl) ?_ ?_ ?_
        · (repeat' (first | exact allLt_zero | refine allLt_succ ?_ ?_))
          · exact fun _ _ _ h _ => h
          · exact fun _ _ _ h _ => h
          · exact fun _ _ _ h _ => h
          · exact fun _ _ _ h _ => h
          · exact fun _ _ _ h _ => h
          · exact fun _ _ _ h _ => h
          · exact fun _ _ _ h _ => h
        · (repeat' (first | exact allLt_zero | refine allLt_succ ?_ ?_))
          · intro a w' hf he
            have k0 : a.tmps.getD 0 undef = .pointer (some ⟨p, 0, none⟩) := hf.var (by kernel_rfl) rfl
            refine wpOp_step rfl (fun K hK => ?_)
            go_simp
            exact hK _ _ ⟨_, rfl, rfl, World.grownBy.refl _ _⟩
          · intro a w' hf he
            have f0 : a.tmps.getD 24 undef = .pointer (some ⟨p, 0, none⟩) := he 0 (by kernel_rfl)
            refine wpOp_step rfl (fun K hK => ?_)
            go_simp
            exact hK _ _ ⟨_, rfl, rfl, World.grownBy.refl _ _⟩
          · intro a w' hf he
            have f1 : a.tmps.getD 25 undef = .pointer (some ⟨p, 0, none⟩) := he 1 (by kernel_rfl)
            refine wpOp_step rfl (fun K hK => ?_)
            go_simp
            exact hK _ _ ⟨_, rfl, rfl, World.grownBy.refl _ _⟩
          · intro a w' hf he
            have f2 : a.tmps.getD 26 undef = .pointer (some ⟨p, 0, none⟩) := he 2 (by kernel_rfl)
            rw [show kindRow _ _ = none from by kernel_rfl] at hf
            have d0 := heap_fr (heap_fr Hblk4.out F5.out (fun e => e)) (Fr.of_bel (S := fun _ => False) hf.bel) (fun e => e)
            have dd : w'.cell? ⟨p, 0, none⟩ = some (.slice (some ⟨g, 0, none⟩) n c) := by simp [World.cell?, d0]
            clear d0
            refine wpOp_step rfl (fun K hK => ?_)
            go_simp
            exact hK _ _ ⟨_, rfl, rfl, World.grownBy.refl _ _⟩
          · intro a w' hf he
            have k4 : a.tmps.getD 4 undef = .int .i64 (i : Int) := hf.var (by kernel_rfl) rfl
            refine wpOp_step rfl (fun K hK => ?_)
            go_simp
            exact hK _ _ ⟨_, rfl, rfl, World.grownBy.refl _ _⟩
          · intro a w' hf he
            have k5 : a.tmps.getD 5 undef = .pointer (some ⟨w4.heap.size, 0, none⟩) := hf.var (by kernel_rfl) rfl
            rw [show kindRow _ _ = none from by kernel_rfl] at hf
            refine wpOp_step rfl (fun K hK => ?_)
            refine wp_load_rd 127 (.tmp 5) rfl ⟨w4.heap.size, 0, none⟩ k5 (bytesV s) _ ((rd_of_heap (n := 16) ((hf.bel.block _ (heap_lt HX5.out)).trans HX5.out) (by rw [bytesV_length, Hs.out]) (by simp [maxLen])).cell _ rfl) Tryz.underlying127 rfl (by rw [bytesV_length, Hs.out]; kernel_rfl) ?_
            exact hK _ _ ⟨_, rfl, rfl, World.grownBy.refl _ _⟩
          · intro a w' hf he
            have f3 : a.tmps.getD 27 undef = .slice (some ⟨g, 0, none⟩) n c := he 3 (by kernel_rfl)
            have f4 : a.tmps.getD 28 undef = .int .i64 (i : Int) := he 4 (by kernel_rfl)
            rw [show kindRow _ _ = none from by kernel_rfl] at hf
            refine wpOp_step rfl (fun K hK => ?_)
            go_simp
            exact hK _ _ ⟨_, rfl, rfl, World.grownBy.refl _ _⟩
        · intro a w' hf he
          obtain ⟨u24, f0⟩ : ∃ u, a.tmps.getD 24 undef = u := ⟨_, rfl⟩
          obtain ⟨u25, f1⟩ : ∃ u, a.tmps.getD 25 undef = u := ⟨_, rfl⟩
          obtain ⟨u26, f2⟩ : ∃ u, a.tmps.getD 26 undef = u := ⟨_, rfl⟩
          obtain ⟨u27, f3⟩ : ∃ u, a.tmps.getD 27 undef = u := ⟨_, rfl⟩
          obtain ⟨u28, f4⟩ : ∃ u, a.tmps.getD 28 undef = u := ⟨_, rfl⟩
          have f5 : a.tmps.getD 29 undef = .agg (bytesV s).toArray := he 5 (by decide)
          have f6 : a.tmps.getD 30 undef = .pointer (some ⟨g, i * 16, none⟩) := he 6 (by decide)
          have hlit := hf.lit ((24, u24) :: (25, u25) :: (26, u26) :: (27, u27) :: (28, u28) :: (29, .agg (bytesV s).toArray) :: (30, .pointer (some ⟨g, i * 16, none⟩)) :: []) (by kernel_rfl) ⟨f0, f1, f2, f3, f4, f5, f6, trivial⟩
          have hB := hf.bel
          clear he hf f0 f1 f2 f3 f4 f5 f6 
          subst hlit
          simp only [putAll_nil, putAll_cons, Act.put, List.setIfInBounds_toArray, List.set_cons_zero, List.set_cons_succ]
          simp only [List.drop_succ_cons, List.drop_zero]
          have Hsb := Lib.hid hB.size
          have F6 := Lib.hid (F5.out.trans (Fr.of_bel (S := fun _ => False) hB) (fun _ _ e => e))
          have Hown6 := Lib.hid (Tw.Own.fr (S := fun _ => False) Hown4.out F6.out (fun _ _ e => e))
          clear hB
          go_wp2_with (first
            | (refine wpL_store_elem rfl rfl 127 (.tmp 30) (.tmp 29) rfl 0 127 16 g i n c rfl (bytesV s) (by rw [bytesV_length, Hs.out]) rfl (by kernel_rfl) _ Hown6.out (by omega) bytesV_one _ Hput.out ?_
               intro w7 hown7 hg7
               have Hown7 := Lib.hid hown7
               have F7 := Lib.hid ((F6.out.mono (S1 := fun k => k = g) (fun _ _ e => e.elim)).trans (Fr.grown (S := fun k => k = g) hg7 (by simp)) (fun _ _ e => e))
               clear hown7 hg7))
          go_roundw
          case rel => exact ⟨_, cnt4, Lib.hid (ranges_fr Hrg4.out F7.out (fun e => hne.2.2 e.symm) (by omega)), Hl4, Hown7, Lib.hid (heap_fr Hblk4.out F7.out hne.1), Lib.hid ((HF.out.trans F4.out (fun b hb e => by omega)).trans F7.out (fun _ _ e => .inr (.inl e)))⟩
          case measure =>
            rw [(ranges_fr Hrg4.out F7.out (fun e => hne.2.2 e.symm) (by omega)).left_eq]
            exact Hlt4.out
  · have He := Lib.hid ((spend_err d).resolve_left he)
    have hw : Hid (d.flush = d.spend) := Lib.hid (by unfold Dsk.flush; rw [if_neg he])
    clear he
    go_enter Tryz.func71, Tryz.ntmps71
    go_wp2_with (first
      | (go_at_call 62
         (with_reducible refine (c_Made H.out).mono ?_)
         rintro e w' ⟨rfl, rfl⟩)
      | (go_at_call 129
         (with_reducible refine (c_spend H.out ho).mono ?_)
         rintro e w2 ⟨rfl, h2, f2⟩
         rw [He.out]
         have H2 := Lib.hid h2
         have F2 := Lib.hid f2
         clear h2 f2))
    go_ret
    rw [hw.out]
    exact ⟨by rw [He.out]; rfl, H2.out, F2.out.mono (fun _ _ e => .inl e)⟩
end
end Go.Proofs.YtaldlapnhhhclaaGreat.Disk
