/- The reference's disk: Write, Read, Durable. Conditions: at most 10^9 operations. -/
import Derived.Test.YtpbcmghfhflkbaaRef1
set_option linter.unusedVariables false
set_option linter.unusedSimpArgs false
namespace Go.Proofs.Ytpbcmghfhflkbaa.Disk
open Go.RowKit Tw
set_option maxHeartbeats 4000000
set_option maxRecDepth 100000

/-- some cells stored into a row of the call's own -/
theorem wpL_store_part {P : Program} {ops : Array Oper} {rest : List Oper} {w : World} {o : Oper} {a : Act} {Q : Exit → Act → World → Prop} (hgd : o.guard = none) (hds : o.dst = none) (ty : TypeId) (x y : Operand)
    (ho : o.op = .store ty x y) (base : Nat) (e : TypeId) (sz g i n c : Nat) (hx : a.eval x = .pointer (some ⟨g, i, none⟩)) (cs : List Value) (hy : a.eval y = .agg cs.toArray) (hi : (P.info? ty).map (·.size) = some cs.length)
    (xs : List Value) (hown : Own w base e sz (some ⟨g, 0, none⟩) n c xs) (hin : i + cs.length ≤ n * sz) (h1 : ∀ v ∈ cs, v.oneCell' = true) (ys : List Value) (hys : splice xs i cs = ys)
    (h : ∀ w', Own w' base e sz (some ⟨g, 0, none⟩) n c ys → w.grownBy w' (some g) → wpList P ops Q rest a w') : wpList P ops Q (o :: rest) a w := by
  subst hys
  rcases hown.2 with ⟨hv, _⟩ | ⟨g', cap, cur, hv, hb, hh, hnc, hcm, hs, ht⟩
  · injection hv with h1
    cases h1
  · injection hv with h2 _ h3
    injection h2 with h2
    injection h2 with h2
    subst h2 h3
    have hle2 : n * sz ≤ c * sz := Nat.mul_le_mul_right _ hnc
    have hthere : w.there g i cs.toArray.size := fun j hj => ⟨by simp [World.cell?, hh]; simp at hj; omega, by simp [World.frozen?, hh]⟩
    refine wpList_store_mid hgd ty x y ho g i cs.toArray hx hy hthere (by simpa using hi) (Array.all_eq_true_iff_forall_mem.2 fun v hv => h1 v (by simpa using hv)) ?_
    rw [hds]
    obtain ⟨cur', q1, q2, q3, q4⟩ := heap_setCells g e cs w i cur hh (by omega)
    refine h _ ⟨?_, .inr ⟨g, c, cur', rfl, hb, q1, hnc, hcm, q3.trans hs, ?_⟩⟩ q4
    · have := hown.1
      unfold splice
      simp
      omega
    · have hcl : cur.toList.length = c * sz := by simpa using hs
      rw [q2, ← ht]
      unfold splice
      have e1 : ((cur.toList.take (n * sz)).take i) = cur.toList.take i := by rw [List.take_take, Nat.min_eq_left (by omega)]
      rw [e1, ← List.append_assoc, ← List.append_assoc, List.take_append, List.take_of_length_le (by simp; omega), List.drop_take]
      congr 2
      simp
      omega
/-- one cell stored into a row of the call's own -/
theorem wpL_store_one {P : Program} {ops : Array Oper} {rest : List Oper} {w : World} {o : Oper} {a : Act} {Q : Exit → Act → World → Prop} (hgd : o.guard = none) (hds : o.dst = none) (ty : TypeId) (x y : Operand)
    (ho : o.op = .store ty x y) (base : Nat) (e : TypeId) (sz g i n c : Nat) (hx : a.eval x = .pointer (some ⟨g, i, none⟩)) (v : Value) (hy : a.eval y = v) (hv : v.cells = #[v]) (hi : (P.info? ty).map (·.size) = some 1)
    (xs : List Value) (hown : Own w base e sz (some ⟨g, 0, none⟩) n c xs) (hin : i < n * sz) (h1 : v.oneCell' = true) (ys : List Value) (hys : splice xs i [v] = ys)
    (h : ∀ w', Own w' base e sz (some ⟨g, 0, none⟩) n c ys → w.grownBy w' (some g) → wpList P ops Q rest a w') : wpList P ops Q (o :: rest) a w := by
  subst hys
  rcases hown.2 with ⟨hv', _⟩ | ⟨g', cap, cur, hv', hb, hh, hnc, hcm, hs, ht⟩
  · injection hv' with h1
    cases h1
  · injection hv' with h2 _ h3
    injection h2 with h2
    injection h2 with h2
    subst h2 h3
    have hle2 : n * sz ≤ c * sz := Nat.mul_le_mul_right _ hnc
    have hxl := hown.1
    have hset : splice xs i [v] = xs.set i v := by
      unfold splice
      rw [List.set_eq_take_append_cons_drop, if_pos (by omega)]
      rfl
    refine wpList_plain hgd fun _ hK => ?_
    have hc : (w.cell? ⟨g, i, none⟩).isSome = true := by simp [World.cell?, hh]; omega
    have hf : w.frozen? ⟨g, i, none⟩ = false := by simp [World.frozen?, hh]
    cases hq : P.info? ty with
    | none => simp [hq] at hi
    | some inf =>
      have hs2 : inf.size = 1 := by simpa [hq] using hi
      have hrun := run_storeCells_cells (P := P) g i [v] 0 w (fun j hj => by simp at hj; subst hj; simpa using hc) (fun j hj => by simp at hj; subst hj; simpa using hf) (by simp [h1])
      simp only [Nat.add_zero] at hrun
      unfold Oper.wp execOp
      simp [ho, hx, hy, Instr.storeAt, Instr.sureAddr, Sem.run_bind, Sem.run_pure, Result.andThen_ok, storeVar, sizeOf, typeInfo, hq, hv, hs2, hrun]
      refine hK (a.put o.dst undef) _ ?_
      rw [hds]
      refine h _ ⟨by rw [hset]; simpa using hxl, .inr ⟨g, c, _, rfl, hb, heap_setCell_same w g i cur e _ hh, hnc, hcm, by simpa using hs, ?_⟩⟩ (grown_setCell w g i _)
      rw [hset, ← ht, Array.toList_setIfInBounds, List.take_set]
/-- rows one behind the other -/
abbrev cat (l : List (List Value)) : List Value := l.flatMap id
theorem rrow_cat (l : List Cl) : rrow l = cat (l.map rcell) := by
  unfold rrow cat
  rw [List.flatMap_map]
  rfl
theorem cat_set {l : List (List Value)} {i o : Nat} {a : List Value} {cs : List Value} (hl : ∀ a ∈ l, a.length = 33) (h : l[i]? = some a) (ho : o + cs.length ≤ 33) : splice (cat l) (i * 33 + o) cs = cat (l.set i (splice a o cs)) :=
  flat_set (F := id) (b := splice a o cs) hl h ho rfl
theorem splice_len {l : List Value} {o : Nat} {cs : List Value} (h : o + cs.length ≤ l.length) : (splice l o cs).length = l.length := by
  unfold splice
  simp
  omega
theorem rcell_fresh {c : Cl} (h : CellOk c) (s : Sec) (hs : s.length = 16) : splice (splice (rcell c) 16 (bytesV s)) 32 [.bool true] = rcell (c.1, some s) := by
  have h1 : (bytesV c.1).length = 16 := by rw [bytesV_length]; exact h.1
  have h2 : (bytesV (c.2.getD zs)).length = 16 := by
    rw [bytesV_length]
    cases hc : c.2 with
    | none => exact zs_len
    | some s => exact h.2 s hc
  have h3 : (bytesV s).length = 16 := by rw [bytesV_length]; exact hs
  have e1 : splice (rcell c) 16 (bytesV s) = bytesV c.1 ++ (bytesV s ++ [.bool c.2.isSome]) := by
    unfold rcell
    have := splice_right (a := bytesV c.1) (r := bytesV (c.2.getD zs) ++ [Value.bool c.2.isSome]) (o := 0) (cs := bytesV s)
    rw [h1] at this
    rw [this, splice_left (by omega)]
    congr 2
    unfold splice
    rw [List.take_zero, List.nil_append, List.drop_eq_nil_of_le (by omega), List.append_nil]
  rw [e1]
  have := splice_right (a := bytesV c.1 ++ bytesV s) (r := [Value.bool c.2.isSome]) (o := 0) (cs := [Value.bool true])
  rw [List.length_append, h1, h3, List.append_assoc] at this
  rw [this, List.append_assoc]
  rfl
section
variable {w w' : World} {q r c : Nat} {d : Dsk}
theorem Rk.own_cat (h : Rk w q r c d) : Tw.Own w 0 180 33 (some ⟨r, 0, none⟩) d.cells.length c (cat (d.cells.map rcell)) := by rw [← rrow_cat]; exact h.own
theorem Rk.wide (h : Rk w q r c d) : ∀ a ∈ d.cells.map rcell, a.length = 33 := fun a ha => by
  obtain ⟨b, hb, rfl⟩ := List.mem_map.1 ha
  exact rcell_len (h.ok.cell_ok b hb)
theorem Rk.row (h : Rk w q r c d) {n : Nat} (hn : n < d.cells.length) : (d.cells.map rcell)[n]? = some (rcell (d.cell (n : Int))) := by
  have := cell_get ((has_iff d (n : Int)).2 (by omega))
  rw [Int.toNat_natCast] at this
  rw [List.getElem?_map, this]
  rfl
theorem r_Write (h : Rk w q r c d) (ho : d.ops < 1000000000) (x : Int) (s : Sec) (hs : s.length = 16) : Calls Try.prog 25 #[.pointer (some ⟨q, 0, none⟩), .int .i64 x, .agg (bytesV s).toArray] w fun e w' => e = .returned (.int .i64 ((d.write x s).2 : Int)) ∧ Rk w' q r c (d.write x s).1 ∧ Fr (fun k => k = q ∨ k = r) w w' := by
  have hlt := h.lts
  have H := Lib.hid (h.bel ((Below.refl _ _).alloc (Nat.le_refl _) (.cells (bytesV s).toArray 35)))
  have HX := Lib.hid (heap_alloc_new w (.cells (bytesV s).toArray 35))
  have HF := Lib.hid (Fr.alloc (S := fun k => k = q ∨ k = r) (w := w) (.cells (bytesV s).toArray 35))
  clear h
  by_cases hh : d.has x
  · have hd := Lib.hid (decide_eq_true hh)
    by_cases he : d.spend.2 = 0
    · obtain ⟨n, rfl⟩ : ∃ n : Nat, x = (n : Int) := ⟨x.toNat, by have := (has_iff d x).1 hh; omega⟩
      have hw : Hid (d.write (n : Int) s = (d.spend.1.put (n : Int) s, 0)) := Lib.hid (by unfold Dsk.write; rw [if_pos hh, if_pos he])
      have He : Hid (decide (d.spend.2 = 3) = false) := Lib.hid (by rw [he]; rfl)
      have hnl : n < d.spend.1.cells.length := by rw [spend_cells]; have := (has_iff d (n : Int)).1 hh; omega
      have hnn : d.spend.1.cells.length ≤ 1024 := by rw [spend_cells]; exact H.out.ok.n.2
      clear hh he
      go_enter Try.func25, Try.ntmps25
      go_upto_region 5 with (first
        | (go_at_call 104
           (with_reducible refine (r_in H.out _).mono ?_)
           rintro e w' ⟨rfl, rfl⟩
           rw [hd.out])
        | (go_at_call 105
           (with_reducible refine (r_burns H.out ho).mono ?_)
           rintro e w2 ⟨rfl, h2, f2⟩
           rw [He.out]
           have H2 := Lib.hid h2
           have F2 := Lib.hid f2
           clear h2 f2))
      have HX2 := Lib.hid (heap_fr HX.out F2.out (by omega))
      have HF2 := Lib.hid (HF.out.trans F2.out (fun _ _ e => .inl e))
      generalize d.spend.1 = d1 at *
      refine wp_region_phi (by kernel_rfl) 8 none (fun _ => false) (fun i_ v wz => match i_ with
        | 0 => v = .pointer (some ⟨q, 0, none⟩)
        | 1 => v = .pointer (some ⟨q, 0, none⟩)
        | 2 => v = .pointer (some ⟨q, 0, none⟩)
        | 3 => v = .slice (some ⟨r, 0, none⟩) d1.cells.length c
        | 4 => v = .int .i64 (n : Int)
        | 5 => v = .agg (bytesV s).toArray
        | 6 => v = .pointer (some ⟨r, n * 33, none⟩)
        | 7 => v = .pointer (some ⟨r, n * 33 + 16, none⟩)
        | _ => True) (by kernel_rfl) ?_ ?_ ?_
      · (repeat' (first | exact allLt_zero | refine allLt_succ ?_ ?_))
        · exact fun _ _ _ h _ => h
        · exact fun _ _ _ h _ => h
        · exact fun _ _ _ h _ => h
        · exact fun _ _ _ h _ => h
        · exact fun _ _ _ h _ => h
        · exact fun _ _ _ h _ => h
        · exact fun _ _ _ h _ => h
        · exact fun _ _ _ h _ => h
      · (repeat' (first | exact allLt_zero | refine allLt_succ ?_ ?_))
        · intro a w' hf he
          have k0 : a.tmps.getD 0 undef = .pointer (some ⟨q, 0, none⟩) := hf.var (by kernel_rfl) rfl
          refine wpOp_step rfl (fun K hK => ?_)
          go_simp
          exact hK _ _ ⟨_, rfl, rfl, World.grownBy.refl _ _⟩
        · intro a w' hf he
          have f0 : a.tmps.getD 13 undef = .pointer (some ⟨q, 0, none⟩) := he 0 (by kernel_rfl)
          refine wpOp_step rfl (fun K hK => ?_)
          go_simp
          exact hK _ _ ⟨_, rfl, rfl, World.grownBy.refl _ _⟩
        · intro a w' hf he
          have f1 : a.tmps.getD 14 undef = .pointer (some ⟨q, 0, none⟩) := he 1 (by kernel_rfl)
          rw [show kindRow _ _ = none from by kernel_rfl] at hf
          refine wpOp_step rfl (fun K hK => ?_)
          go_simp
          exact hK _ _ ⟨_, rfl, rfl, World.grownBy.refl _ _⟩
        · intro a w' hf he
          have f2 : a.tmps.getD 15 undef = .pointer (some ⟨q, 0, none⟩) := he 2 (by kernel_rfl)
          rw [show kindRow _ _ = none from by kernel_rfl] at hf
          have dd := ((H2.out.bel hf.bel).cells).1
          refine wpOp_step rfl (fun K hK => ?_)
          go_simp
          exact hK _ _ ⟨_, rfl, rfl, World.grownBy.refl _ _⟩
        · intro a w' hf he
          have k1 : a.tmps.getD 1 undef = .int .i64 (n : Int) := hf.var (by kernel_rfl) rfl
          refine wpOp_step rfl (fun K hK => ?_)
          go_simp
          exact hK _ _ ⟨_, rfl, rfl, World.grownBy.refl _ _⟩
        · intro a w' hf he
          have k5 : a.tmps.getD 5 undef = .pointer (some ⟨w.heap.size, 0, none⟩) := hf.var (by kernel_rfl) rfl
          rw [show kindRow _ _ = none from by kernel_rfl] at hf
          refine wpOp_step rfl (fun K hK => ?_)
          refine wp_load_rd 35 (.tmp 5) rfl ⟨w.heap.size, 0, none⟩ k5 (bytesV s) _ ((rd_of_heap (n := 16) ((hf.bel.block _ (heap_lt HX2.out)).trans HX2.out) (by rw [bytesV_length, hs]) (by simp [maxLen])).cell _ rfl) Try.underlying35 rfl (by rw [bytesV_length, hs]; kernel_rfl) ?_
          exact hK _ _ ⟨_, rfl, rfl, World.grownBy.refl _ _⟩
        · intro a w' hf he
          have f3 : a.tmps.getD 16 undef = .slice (some ⟨r, 0, none⟩) d1.cells.length c := he 3 (by kernel_rfl)
          have f4 : a.tmps.getD 17 undef = .int .i64 (n : Int) := he 4 (by kernel_rfl)
          rw [show kindRow _ _ = none from by kernel_rfl] at hf
          refine wpOp_step rfl (fun K hK => ?_)
          go_simp
          exact hK _ _ ⟨_, rfl, rfl, World.grownBy.refl _ _⟩
        · intro a w' hf he
          have f6 : a.tmps.getD 19 undef = .pointer (some ⟨r, n * 33, none⟩) := he 6 (by kernel_rfl)
          rw [show kindRow _ _ = none from by kernel_rfl] at hf
          refine wpOp_step rfl (fun K hK => ?_)
          go_simp
          exact hK _ _ ⟨_, rfl, rfl, World.grownBy.refl _ _⟩
      · intro a w' hf he
        obtain ⟨u13, f0⟩ : ∃ u, a.tmps.getD 13 undef = u := ⟨_, rfl⟩
        obtain ⟨u14, f1⟩ : ∃ u, a.tmps.getD 14 undef = u := ⟨_, rfl⟩
        obtain ⟨u15, f2⟩ : ∃ u, a.tmps.getD 15 undef = u := ⟨_, rfl⟩
        obtain ⟨u16, f3⟩ : ∃ u, a.tmps.getD 16 undef = u := ⟨_, rfl⟩
        obtain ⟨u17, f4⟩ : ∃ u, a.tmps.getD 17 undef = u := ⟨_, rfl⟩
        have f5 : a.tmps.getD 18 undef = .agg (bytesV s).toArray := he 5 (by decide)
        obtain ⟨u19, f6⟩ : ∃ u, a.tmps.getD 19 undef = u := ⟨_, rfl⟩
        have f7 : a.tmps.getD 20 undef = .pointer (some ⟨r, n * 33 + 16, none⟩) := he 7 (by decide)
        have hlit := hf.lit ((13, u13) :: (14, u14) :: (15, u15) :: (16, u16) :: (17, u17) :: (18, .agg (bytesV s).toArray) :: (19, u19) :: (20, .pointer (some ⟨r, n * 33 + 16, none⟩)) :: []) (by kernel_rfl) ⟨f0, f1, f2, f3, f4, f5, f6, f7, trivial⟩
        have hB := hf.bel
        clear he hf f0 f1 f2 f3 f4 f5 f6 f7 
        subst hlit
        simp only [putAll_nil, putAll_cons, Act.put, List.setIfInBounds_toArray, List.set_cons_zero, List.set_cons_succ]
        simp only [List.drop_succ_cons, List.drop_zero]
        have H3 := Lib.hid (H2.out.bel hB)
        have F3 := Lib.hid (HF2.out.trans (Fr.of_bel (S := fun k => k = q ∨ k = r) hB) (fun _ _ e => e))
        have hwd := H3.out.wide
        have hrw := H3.out.row hnl
        have hrl := hwd _ (List.mem_of_getElem? hrw)
        have hp1 := cat_set (cs := bytesV s) (o := 16) hwd hrw (by rw [bytesV_length, hs]; omega)
        have hsl : (bytesV s).length = 16 := by rw [bytesV_length, hs]
        have hwd2 : ∀ a ∈ (d1.cells.map rcell).set n (splice (rcell (d1.cell (n : Int))) 16 (bytesV s)), a.length = 33 := fun a ha => by
          rcases List.mem_or_eq_of_mem_set ha with ha | rfl
          · exact hwd a ha
          · rw [splice_len (by omega)]; exact hrl
        have hrw2 : ((d1.cells.map rcell).set n (splice (rcell (d1.cell (n : Int))) 16 (bytesV s)))[n]? = some (splice (rcell (d1.cell (n : Int))) 16 (bytesV s)) := List.getElem?_set_self (by simpa using hnl)
        have hp2 := cat_set (cs := [.bool true]) (o := 32) hwd2 hrw2 (by simp)
        have hcm := cell_mem ((has_iff d1 (n : Int)).2 (by omega))
        rw [List.set_set, rcell_fresh (H3.out.ok.cell_ok _ hcm) s hs] at hp2
        have P1 := Lib.hid hp1
        have P2 := Lib.hid hp2
        have O3 := Lib.hid H3.out.own_cat
        have Hsl := Lib.hid hsl
        have B3 := Lib.hid H3.out.blk
        have hne := H3.out.ne
        have Hns : Hid (n * 33 + 33 ≤ d1.cells.length * 33) := Lib.hid (by omega)
        clear hwd hrw hrl hp1 hsl hwd2 hrw2 hp2 hcm hB H2 HX2 HF2
        go_wp2_with (first
          | (refine wpL_store_part rfl rfl 35 (.tmp 20) (.tmp 18) rfl 0 180 33 r (n * 33 + 16) d1.cells.length c rfl (bytesV s) rfl (by rw [Hsl.out]; kernel_rfl) _ O3.out (by rw [Hsl.out]; have := Hns.out; omega) bytesV_one _ P1.out ?_
             intro w4 o4 g4
             have O4 := Lib.hid o4
             have B4 := Lib.hid (heap_grown B3.out g4 (by simpa using hne))
             have F4 := Lib.hid (F3.out.trans (Fr.grown (S := fun k => k = r) g4 (by simp)) (fun _ _ e => .inr e))
             have b4 := B4.out
             have dd : w4.cell? ⟨q, 0, none⟩ = some (.slice (some ⟨r, 0, none⟩) d1.cells.length c) := by simp [World.cell?, b4]
             clear o4 g4 b4 O3 B3)
          | (refine wpL_store_one rfl rfl 4 (.tmp 27) (.const (.bool true)) rfl 0 180 33 r (n * 33 + 32) d1.cells.length c rfl _ rfl rfl (by kernel_rfl) _ O4.out (by have := Hns.out; omega) rfl _ P2.out ?_
             intro w5 o5 g5
             have O5 := Lib.hid o5
             have B5 := Lib.hid (heap_grown B4.out g5 (by simpa using hne))
             have F5 := Lib.hid (F4.out.trans (Fr.grown (S := fun k => k = r) g5 (by simp)) (fun _ _ e => .inr e))
             clear o5 g5 dd))
        go_ret
        rw [hw.out]
        have hok := put_ok H3.out.ok ((has_iff d1 (n : Int)).2 (by omega)) hs
        have hset : ((d1.cells.map rcell).set n (rcell ((d1.cell (n : Int)).1, some s))) = (d1.put (n : Int) s).cells.map rcell := by
          simp [Dsk.put, List.map_set]
        have ho5 := O5.out
        rw [hset, ← rrow_cat] at ho5
        exact ⟨rfl, H3.out.recell (B5.out.trans H3.out.blk.symm) (by simp) hok ho5, F5.out⟩
    · have hw : Hid (d.write x s = d.spend) := Lib.hid (by unfold Dsk.write; rw [if_pos hh, if_neg he])
      have He3 : d.spend.2 = 3 := (spend_err d).resolve_left he
      have He : Hid (decide (d.spend.2 = 3) = true) := Lib.hid (by rw [He3]; rfl)
      have HE3 := Lib.hid He3
      clear hh he He3
      go_enter Try.func25, Try.ntmps25
      go_wp2_with (first
        | (go_at_call 104
           (with_reducible refine (r_in H.out _).mono ?_)
           rintro e w' ⟨rfl, rfl⟩
           rw [hd.out])
        | (go_at_call 105
           (with_reducible refine (r_burns H.out ho).mono ?_)
           rintro e w2 ⟨rfl, h2, f2⟩
           rw [He.out]
           have H2 := Lib.hid h2
           have F2 := Lib.hid f2
           clear h2 f2))
      go_ret
      rw [hw.out]
      exact ⟨by rw [HE3.out]; rfl, H2.out, HF.out.trans F2.out (fun _ _ e => .inl e)⟩
  · have hd := Lib.hid (decide_eq_false hh)
    have hw : Hid (d.write x s = (d, 13)) := Lib.hid (by unfold Dsk.write; rw [if_neg hh])
    clear hh
    go_enter Try.func25, Try.ntmps25
    go_wp2_with (first
      | (go_at_call 104
         (with_reducible refine (r_in H.out _).mono ?_)
         rintro e w' ⟨rfl, rfl⟩
         rw [hd.out]))
    go_ret
    rw [hw.out]
    exact ⟨rfl, H.out, HF.out⟩
end
end Go.Proofs.Ytpbcmghfhflkbaa.Disk
