/- Texts joined: what the disks, the rings and their reference do. Conditions: none. -/
import Derived.Test.YtaldlapnhhhclaaGreatB12
import Derived.Test.YtaldlapnhhhclaaGreatB15
import Derived.Test.YtaldlapnhhhclaaGreatB2
import Derived.Test.YtaldlapnhhhclaaGreatB1
/- Contracts of the package resync: what a resync is in memory; is, Source, Over, Left, end, ends, step. Conditions: none. -/
set_option linter.unusedVariables false
set_option linter.unusedSimpArgs false
namespace Go.Proofs.YtaldlapnhhhclaaGreat.Rsy
open Go.RowKit Tw Bt Disk Copying
set_option maxHeartbeats 4000000
set_option maxRecDepth 100000
theorem wpL_store_cellR {P : Program} {ops : Array Oper} {rest : List Oper} {w : World} {o : Oper} {a : Act} {Q : Exit → Act → World → Prop} (hgd : o.guard = none) (hds : o.dst = none) (ty : TypeId) (x y : Operand)
    (ho : o.op = .store ty x y) (g i : Nat) (hx : a.eval x = .pointer (some ⟨g, i, none⟩)) (v : Value) (hy : a.eval y = v) (hv : v.cells = #[v]) (h1 : v.oneCell' = true) (hi : (P.info? ty).map (·.size) = some 1)
    (t : TypeId) (cs : Array Value) (hg : w.heap[g]? = some (.cells cs t (0, 0))) (hlt : i < cs.size)
    (h : ∀ w', w'.heap[g]? = some (.cells (cs.setIfInBounds i v) t (0, 0)) → w.grownBy w' (some g) → wpList P ops Q rest a w') : wpList P ops Q (o :: rest) a w := by
  refine wpList_plain hgd fun _ hK => ?_
  have hc : (w.cell? ⟨g, i, none⟩).isSome = true := by simp [World.cell?, hg, hlt]
  have hf : w.frozen? ⟨g, i, none⟩ = false := by simp [World.frozen?, hg]
  cases hq : P.info? ty with
  | none => simp [hq] at hi
  | some inf =>
    have hs : inf.size = 1 := by simpa [hq] using hi
    have hrun := run_storeCells_cells (P := P) g i [v] 0 w (fun j hj => by simp at hj; subst hj; simpa using hc) (fun j hj => by simp at hj; subst hj; simpa using hf) (by simp [h1])
    simp only [Nat.add_zero] at hrun
    unfold Oper.wp execOp
    simp [ho, hx, hy, Instr.storeAt, Instr.sureAddr, Sem.run_bind, Sem.run_pure, Result.andThen_ok, storeVar, sizeOf, typeInfo, hq, hv, hs, hrun]
    exact hK (a.put o.dst undef) _ (by rw [hds]; exact h _ (heap_setCell_same w g i cs t _ hg) (grown_setCell w g i _))
/-- a resync: does its node give, the set, what is left, is it over -/
structure Rs where
  src : Bool
  mask : Nat
  left : Nat
  over : Bool
/-- a resync in memory -/
structure RAt (w : World) (br bp p g mb c : Nat) (R : Rs) (D : Dsk) : Prop where
  dk : Dk w p g mb c D
  rb : w.heap[br]? = some (.cells #[.pointer (some ⟨bp, 0, none⟩), .pointer (some ⟨p, 0, none⟩), .bool R.src, .bool R.over] 31 (0, 0))
  pb : Pln.At w bp R.mask R.left
  ne : br ≠ bp ∧ (br ≠ p ∧ br ≠ g ∧ br ≠ mb) ∧ (bp ≠ p ∧ bp ≠ g ∧ bp ≠ mb)
  lt : R.mask < 18446744073709551616 ∧ R.left < 18446744073709551616
/-- all that a resync's calls may turn -/
def RS (br bp p g mb k : Nat) : Prop := k = p ∨ k = g ∨ k = mb ∨ k = br ∨ k = bp
section
variable {w w' : World} {br bp p g mb c : Nat} {R : Rs} {D : Dsk}
theorem RAt.bel (h : RAt w br bp p g mb c R D) (hb : Below w.heap.size w w') : RAt w' br bp p g mb c R D :=
  ⟨h.dk.bel hb, (hb.block _ (heap_lt h.rb)).trans h.rb, h.pb.bel hb, h.ne, h.lt⟩
theorem RAt.cells (h : RAt w br bp p g mb c R D) : w.cell? ⟨br, 0, none⟩ = some (.pointer (some ⟨bp, 0, none⟩)) ∧ w.cell? ⟨br, 1, none⟩ = some (.pointer (some ⟨p, 0, none⟩)) ∧ w.cell? ⟨br, 2, none⟩ = some (.bool R.src) ∧ w.cell? ⟨br, 3, none⟩ = some (.bool R.over) := by
  simp [World.cell?, h.rb]
theorem RAt.fr {S : Nat → Prop} (h : RAt w br bp p g mb c R D) (hf : Fr S w w') (hs : ∀ k, RS br bp p g mb k → ¬ S k) : RAt w' br bp p g mb c R D :=
  ⟨h.dk.fr hf (hs _ (.inl rfl)) (hs _ (.inr (.inl rfl))) (hs _ (.inr (.inr (.inl rfl)))), heap_fr h.rb hf (hs _ (.inr (.inr (.inr (.inl rfl))))), h.pb.fr hf (hs _ (.inr (.inr (.inr (.inr rfl))))), h.ne, h.lt⟩
/-- the disk went on -/
theorem RAt.disk {D' : Dsk} (h : RAt w br bp p g mb c R D) (hd : Dk w' p g mb c D') (hf : Fr (fun k => k = p ∨ k = g ∨ k = mb) w w') : RAt w' br bp p g mb c R D' :=
  ⟨hd, heap_fr h.rb hf (by have := h.ne; omega), h.pb.fr hf (by have := h.ne; omega), h.ne, h.lt⟩
/-- the plan went on -/
theorem RAt.plan {l : Nat} (h : RAt w br bp p g mb c R D) (hp : Pln.At w' bp R.mask l) (hl : l < 18446744073709551616) (hf : Fr (fun k => k = bp) w w') : RAt w' br bp p g mb c { R with left := l } D :=
  ⟨h.dk.fr hf (by have := h.ne; omega) (by have := h.ne; omega) (by have := h.ne; omega), heap_fr h.rb hf (by have := h.ne; omega), hp, h.ne, h.lt.1, hl⟩
theorem RAt.lts (h : RAt w br bp p g mb c R D) : br < w.heap.size ∧ bp < w.heap.size ∧ p < w.heap.size ∧ g < w.heap.size ∧ mb < w.heap.size := ⟨heap_lt h.rb, heap_lt h.pb, h.dk.lts⟩
theorem c_is (h : RAt w br bp p g mb c R D) : Calls Tryz.prog 51 #[.pointer (some ⟨br, 0, none⟩)] w fun e w' => e = .returned (.bool true) ∧ w = w' := by
  obtain ⟨k0, k1, k2, k3⟩ := h.cells
  go_enter Tryz.func51, Tryz.ntmps51
  go_wp2_with fail
  go_ret
  exact ⟨rfl, rfl⟩
theorem c_Source (h : RAt w br bp p g mb c R D) : Calls Tryz.prog 12 #[.pointer (some ⟨br, 0, none⟩)] w fun e w' => e = .returned (.bool R.src) ∧ w = w' := by
  obtain ⟨k0, k1, k2, k3⟩ := h.cells
  have H := Lib.hid h
  clear h
  go_enter Tryz.func12, Tryz.ntmps12
  go_wp2_with (first
    | (go_at_call 51
       (with_reducible refine (c_is H.out).mono ?_)
       rintro e w1 ⟨rfl, rfl⟩))
  go_ret
  exact ⟨rfl, rfl⟩
theorem c_Over (h : RAt w br bp p g mb c R D) : Calls Tryz.prog 13 #[.pointer (some ⟨br, 0, none⟩)] w fun e w' => e = .returned (.bool R.over) ∧ w = w' := by
  obtain ⟨k0, k1, k2, k3⟩ := h.cells
  have H := Lib.hid h
  clear h
  go_enter Tryz.func13, Tryz.ntmps13
  go_wp2_with (first
    | (go_at_call 51
       (with_reducible refine (c_is H.out).mono ?_)
       rintro e w1 ⟨rfl, rfl⟩))
  go_ret
  exact ⟨rfl, rfl⟩
theorem c_Left (h : RAt w br bp p g mb c R D) : Calls Tryz.prog 14 #[.pointer (some ⟨br, 0, none⟩)] w fun e w' => e = .returned (.int .u64 (R.left : Int)) ∧ w = w' := by
  obtain ⟨k0, k1, k2, k3⟩ := h.cells
  have H := Lib.hid h
  clear h
  go_enter Tryz.func14, Tryz.ntmps14
  go_wp2_with (first
    | (go_at_call 51
       (with_reducible refine (c_is H.out).mono ?_)
       rintro e w1 ⟨rfl, rfl⟩)
    | (go_at_call 53
       (with_reducible refine (Pln.c_Left H.out.pb).mono ?_)
       rintro e w1 ⟨rfl, rfl⟩))
  go_ret
  exact ⟨rfl, rfl⟩
/-- the last message -/
def last : Outs.M := ⟨8, 0, [], none, 0⟩
theorem c_end (h : RAt w br bp p g mb c R D) : Calls Tryz.prog 111 #[.pointer (some ⟨br, 0, none⟩)] w fun e w' => e = .returned (.agg last.row.toArray) ∧ RAt w' br bp p g mb c { R with over := true } D ∧ Fr (fun k => k = br) w w' := by
  have hB := (Below.refl w.heap.size w).alloc (Nat.le_refl _) (.cells m0 25)
  have HX := Lib.hid (heap_alloc_new w (.cells m0 25))
  have HF := Lib.hid (Fr.of_bel (S := fun k => k = br) hB)
  have H := Lib.hid (h.bel hB)
  have hlt := h.lts
  unfold m0 at HX H HF
  clear h hB
  go_enter Tryz.func111, Tryz.ntmps111
  go_upto_region 1 with (fail)
  generalize w.alloc (.cells #[.int .i64 0, .int .i64 0, .int .i64 0, .int .u64 0, .bool false, .slice none 0 0] 25) = W1 at *
  go_wp2_with (first
    | (refine wpL_store_cellR rfl rfl 4 (.tmp 5) (.const (.bool true)) rfl br 3 rfl (.bool true) rfl rfl rfl (by kernel_rfl) _ _ H.out.rb (by simp) ?_
       intro w9 x9 g9
       have f9 := Fr.grown (S := fun k => k = br) g9 (by rintro k ⟨⟩; rfl)
       have HR : Hid (RAt w9 br bp p g mb c { R with over := true } D) := Lib.hid ⟨H.out.dk.fr f9 (by have := H.out.ne; omega) (by have := H.out.ne; omega) (by have := H.out.ne; omega), x9, H.out.pb.fr f9 (by have := H.out.ne; omega), H.out.ne, H.out.lt⟩
       have HX9 := Lib.hid (heap_fr HX.out f9 (by omega))
       have HF9 := Lib.hid (HF.out.trans f9 (fun _ _ e => e))
       clear x9 g9 f9)
    | (refine wpL_store_all rfl rfl 25 (.tmp 2) (.tmp 6) rfl _ rfl _ rfl _ _ HX9.out (by kernel_rfl) rfl (by simp [Value.oneCell']) ?_
       intro w8 x8 g8
       have f8 := Fr.grown (S := fun k => k = w.heap.size) g8 (by rintro k ⟨⟩; rfl)
       have HX8 := Lib.hid x8
       have HR8 := Lib.hid (HR.out.fr f8 (fun k hk e => by have e2 : k = w.heap.size := e; unfold RS at hk; omega))
       have HF8 := Lib.hid (HF9.out.trans f8 (fun k hk e => by omega))
       clear x8 g8 f8))
  refine bodyPost_ret (results_cell_row rfl _ _ w.heap.size _ _ (0, 0) _ rfl HX8.out Tryz.underlying25 rfl (by kernel_rfl)) rfl ?_
  exact ⟨rfl, HR8.out, HF8.out⟩
/-- what a message's kind does -/
def stepOf (R : Rs) (k : Int) : Value :=
  if R.over = true then .nilFunc else if R.src = true then (if k = 7 then .func (.func 100) #[] #[] else .nilFunc)
  else if k = 6 then .func (.func 101) #[] #[] else if k = 8 then .func (.func 102) #[] #[] else .nilFunc
theorem c_step (h : RAt w br bp p g mb c R D) (k : Int) : Calls Tryz.prog 52 #[.pointer (some ⟨br, 0, none⟩), .int .i64 k] w fun e w' => e = .returned (stepOf R k) ∧ w = w' := by
  obtain ⟨k0, k1, k2, k3⟩ := h.cells
  unfold stepOf
  clear h
  cases hs : R.src <;> cases ho : R.over <;> rw [hs] at k2 <;> rw [ho] at k3
  all_goals
    clear hs ho
    by_cases h6 : k = 6
    · subst h6
      go_enter Tryz.func52, Tryz.ntmps52
      go_wp2_with fail
      go_ret
      exact ⟨rfl, rfl⟩
    · by_cases h7 : k = 7
      · subst h7
        go_enter Tryz.func52, Tryz.ntmps52
        go_wp2_with fail
        go_ret
        exact ⟨rfl, rfl⟩
      · by_cases h8 : k = 8
        · subst h8
          go_enter Tryz.func52, Tryz.ntmps52
          go_wp2_with fail
          go_ret
          exact ⟨rfl, rfl⟩
        · have q6 : (k == 6) = false := by simpa using h6
          have q7 : (k == 7) = false := by simpa using h7
          have q8 : (k == 8) = false := by simpa using h8
          simp only [if_neg h6, if_neg h7, if_neg h8]
          clear h6 h7 h8
          go_enter Tryz.func52, Tryz.ntmps52
          go_wp2_with fail
          go_ret
          exact ⟨rfl, rfl⟩
end
end Go.Proofs.YtaldlapnhhhclaaGreat.Rsy
/- Contracts of the package resync: what a message does (have, gets, ends). Conditions: at most 10^9 operations. -/
namespace Go.Proofs.YtaldlapnhhhclaaGreat.Rsy
open Go.RowKit Tw Bt Disk Slots Copying Go.Proofs.YtaldlapnhhhclaaGreat.Data
set_option maxHeartbeats 4000000
set_option maxRecDepth 100000
abbrev OM := Int × Int × List UInt8
/-- the target has an extent -/
def rhave (D : Dsk) (R : Rs) (x : Int) : Dsk × Rs × List OM × Nat :=
  if has R.left x = true then
    if (ctold D x).2.2 = 0 then
      if without R.left x = 0 then ((ctold D x).1, { R with left := without R.left x, over := true }, [(8, 0, [])], 0)
      else ((ctold D x).1, { R with left := without R.left x }, [], 0)
    else ((ctold D x).1, R, [], (ctold D x).2.2)
  else (D, R, [], 0)
/-- an extent comes -/
def rgets (D : Dsk) (R : Rs) (k i x : Int) (m : Nat) (wb : Bool) (n : Nat) (b : List UInt8) : Dsk × Rs × List OM × Nat :=
  if (cputM D k i x m wb n b).2 = 0 then ((cputM D k i x m wb n b).1, { R with left := without R.left x }, [(7, x, [])], 0) else ((cputM D k i x m wb n b).1, R, [], (cputM D k i x m wb n b).2)
theorem rhave_no {D : Dsk} {R : Rs} {x : Int} (hb : has R.left x = false) : rhave D R x = (D, R, [], 0) := if_neg (by rw [hb]; simp)
theorem rhave_err {D D1 : Dsk} {R : Rs} {x : Int} {q E : Nat} (hb : has R.left x = true) (hD : ctold D x = (D1, q, E)) (hE : E ≠ 0) : rhave D R x = (D1, R, [], E) := by
  unfold rhave
  rw [if_pos hb, hD]
  exact if_neg hE
theorem rhave_end {D D1 : Dsk} {R : Rs} {x : Int} {q : Nat} (hb : has R.left x = true) (hD : ctold D x = (D1, q, 0)) (hz : without R.left x = 0) : rhave D R x = (D1, { R with left := without R.left x, over := true }, [(8, 0, [])], 0) := by
  unfold rhave
  rw [if_pos hb, hD]
  exact (if_pos rfl).trans (if_pos hz)
theorem rhave_go {D D1 : Dsk} {R : Rs} {x : Int} {q : Nat} (hb : has R.left x = true) (hD : ctold D x = (D1, q, 0)) (hz : without R.left x ≠ 0) : rhave D R x = (D1, { R with left := without R.left x }, [], 0) := by
  unfold rhave
  rw [if_pos hb, hD]
  exact (if_pos rfl).trans (if_neg hz)
theorem msc {W : World} {g : Nat} {k i o : Int} {m : Nat} {wb : Bool} {A : Option Addr} {n cb : Nat} {t : TypeId} (h : W.heap[g]? = some (.cells (msV k i o m wb A n cb).toArray t (0, 0))) :
    W.cell? ⟨g, 0, none⟩ = some (.int .i64 k) ∧ W.cell? ⟨g, 2, none⟩ = some (.int .i64 o) ∧ W.cell? ⟨g, 3, none⟩ = some (.int .u64 (m : Int)) ∧ W.cell? ⟨g, 4, none⟩ = some (.bool wb) :=
  ⟨cells_of h 0 _ rfl, cells_of h 2 _ rfl, cells_of h 3 _ rfl, cells_of h 4 _ rfl⟩
section
variable {w w' : World} {br bp p g mb c : Nat} {R : Rs} {D : Dsk}
theorem c_ends (h : RAt w br bp p g mb c R D) (k i x : Int) (m : Nat) (wb : Bool) (A : Option Addr) (n cb : Nat) :
    Calls Tryz.prog 102 #[.pointer (some ⟨br, 0, none⟩), .agg (msV k i x m wb A n cb).toArray] w fun e w' => e = .returned (.tuple #[.slice none 0 0, .int .i64 0]) ∧ RAt w' br bp p g mb c { R with over := true } D ∧ Fr (RS br bp p g mb) w w' := by
  have hB0 := (Below.refl w.heap.size w).alloc (Nat.le_refl _) (.cells (msV k i x m wb A n cb).toArray 25)
  have HX := Lib.hid (heap_alloc_new w (.cells (msV k i x m wb A n cb).toArray 25))
  have HF := Lib.hid (Fr.of_bel (S := RS br bp p g mb) hB0)
  have H := Lib.hid (h.bel hB0)
  have hlt := h.lts
  clear h hB0
  go_enter Tryz.func102, Tryz.ntmps102
  go_upto_region 1 with (fail)
  generalize w.alloc (.cells (msV k i x m wb A n cb).toArray 25) = W1 at *
  go_wp2_with (first
    | (refine wpL_store_cellR rfl rfl 4 (.tmp 8) (.const (.bool true)) rfl br 3 rfl (.bool true) rfl rfl rfl (by kernel_rfl) _ _ H.out.rb (by simp) ?_
       intro w9 x9 g9
       have f9 := Fr.grown (S := fun k => k = br) g9 (by rintro k ⟨⟩; rfl)
       have HR : Hid (RAt w9 br bp p g mb c { R with over := true } D) := Lib.hid ⟨H.out.dk.fr f9 (by have := H.out.ne; omega) (by have := H.out.ne; omega) (by have := H.out.ne; omega), x9, H.out.pb.fr f9 (by have := H.out.ne; omega), H.out.ne, H.out.lt⟩
       have HF9 := Lib.hid (HF.out.trans f9 (fun z _ e => by have e2 : z = br := e; unfold RS; omega))
       clear x9 g9 f9))
  go_ret2
  exact ⟨rfl, HR.out, HF9.out⟩
theorem c_have (h : RAt w br bp p g mb c R D) (ho : D.ops + 1 < 1000000000) (k i x : Int) (m : Nat) (wb : Bool) (A : Option Addr) (n cb : Nat) :
    Calls Tryz.prog 100 #[.pointer (some ⟨br, 0, none⟩), .agg (msV k i x m wb A n cb).toArray] w fun e w' => ∃ A' n' c', e = .returned (.tuple #[.slice A' n' c', .int .i64 ((rhave D R x).2.2.2 : Int)]) ∧ Outs.Out w' w.heap.size A' n' c' (rhave D R x).2.2.1 ∧ RAt w' br bp p g mb c (rhave D R x).2.1 (rhave D R x).1 ∧ Fr (RS br bp p g mb) w w' := by
  have hB0 := (Below.refl w.heap.size w).alloc (Nat.le_refl _) (.cells (msV k i x m wb A n cb).toArray 25)
  have HX := Lib.hid (heap_alloc_new w (.cells (msV k i x m wb A n cb).toArray 25))
  have HF := Lib.hid (Fr.of_bel (S := RS br bp p g mb) hB0)
  have H := Lib.hid (h.bel hB0)
  have hlt := h.lts
  have hct := fun W (hd : Dk W p g mb c D) => c_ToldE hd ho x
  have hll := H.out.lt.2
  have hwl := without_lt hll x
  clear h hB0
  cases hb : has R.left x with
  | false =>
    have Hb := Lib.hid hb
    clear hb hct
    go_enter Tryz.func100, Tryz.ntmps100
    go_upto_region 1 with (fail)
    generalize w.alloc (.cells (msV k i x m wb A n cb).toArray 25) = W1 at *
    refine wp_region_phi (by kernel_rfl) 6 none (fun _ => false) (fun i_ v wz => match i_ with
      | 0 => v = .pointer (some ⟨br, 0, none⟩)
      | 1 => v = .int .u64 (R.left : Int)
      | 2 => v = .pointer (some ⟨w.heap.size, 2, none⟩)
      | 3 => v = .int .i64 x
      | 4 => v = .bool false
      | 5 => v = .bool true
      | _ => True) (by kernel_rfl) ?_ ?_ ?_
    · (repeat' (first | exact allLt_zero | refine allLt_succ ?_ ?_))
      · exact fun _ _ _ h _ => h
      · exact fun _ _ _ h _ => h
      · exact fun _ _ _ h _ => h
      · exact fun _ _ _ h _ => h
      · exact fun _ _ _ h _ => h
      · exact fun _ _ _ h _ => h
    · (repeat' (first | exact allLt_zero | refine allLt_succ ?_ ?_))
      · intro a w' hf he
        have k0 : a.tmps.getD 0 undef = .pointer (some ⟨br, 0, none⟩) := hf.var (by kernel_rfl) rfl
        refine wpOp_step rfl (fun K hK => ?_)
        go_simp
        exact hK _ _ ⟨_, rfl, rfl, World.grownBy.refl _ _⟩
      · intro a w' hf he
        have f0 : a.tmps.getD 8 undef = .pointer (some ⟨br, 0, none⟩) := he 0 (by kernel_rfl)
        rw [show kindRow _ _ = none from by kernel_rfl] at hf
        refine wpOp_step rfl (fun K hK => ?_)
        go_simp
        refine (c_Left (H.out.bel hf.bel)).mono ?_
        rintro e w2 ⟨rfl, rfl⟩
        exact hK _ _ ⟨_, rfl, rfl, World.grownBy.refl _ _⟩
      · intro a w' hf he
        have k3 : a.tmps.getD 3 undef = .pointer (some ⟨w.heap.size, 0, none⟩) := hf.var (by kernel_rfl) rfl
        refine wpOp_step rfl (fun K hK => ?_)
        go_simp
        exact hK _ _ ⟨_, rfl, rfl, World.grownBy.refl _ _⟩
      · intro a w' hf he
        have f2 : a.tmps.getD 10 undef = .pointer (some ⟨w.heap.size, 2, none⟩) := he 2 (by kernel_rfl)
        rw [show kindRow _ _ = none from by kernel_rfl] at hf
        have dd := (msc ((hf.bel.block _ (heap_lt HX.out)).trans HX.out)).2.1
        refine wpOp_step rfl (fun K hK => ?_)
        go_simp
        exact hK _ _ ⟨_, rfl, rfl, World.grownBy.refl _ _⟩
      · intro a w' hf he
        have f1 : a.tmps.getD 9 undef = .int .u64 (R.left : Int) := he 1 (by kernel_rfl)
        have f3 : a.tmps.getD 11 undef = .int .i64 x := he 3 (by kernel_rfl)
        rw [show kindRow _ _ = none from by kernel_rfl] at hf
        refine wpOp_step rfl (fun K hK => ?_)
        go_simp
        refine (c_HasE R.left hll x _).mono ?_
        rintro e w2 ⟨rfl, rfl⟩
        rw [Hb.out]
        exact hK _ _ ⟨_, rfl, rfl, World.grownBy.refl _ _⟩
      · intro a w' hf he
        have f4 : a.tmps.getD 12 undef = .bool false := he 4 (by kernel_rfl)
        refine wpOp_step rfl (fun K hK => ?_)
        go_simp
        exact hK _ _ ⟨_, rfl, rfl, World.grownBy.refl _ _⟩
    · intro a w' hf he
      obtain ⟨u8, f0⟩ : ∃ u, a.tmps.getD 8 undef = u := ⟨_, rfl⟩
      obtain ⟨u9, f1⟩ : ∃ u, a.tmps.getD 9 undef = u := ⟨_, rfl⟩
      obtain ⟨u10, f2⟩ : ∃ u, a.tmps.getD 10 undef = u := ⟨_, rfl⟩
      obtain ⟨u11, f3⟩ : ∃ u, a.tmps.getD 11 undef = u := ⟨_, rfl⟩
      obtain ⟨u12, f4⟩ : ∃ u, a.tmps.getD 12 undef = u := ⟨_, rfl⟩
      have f5 : a.tmps.getD 13 undef = .bool true := he 5 (by decide)
      have hlit := hf.lit ((8, u8) :: (9, u9) :: (10, u10) :: (11, u11) :: (12, u12) :: (13, .bool true) :: []) (by kernel_rfl) ⟨f0, f1, f2, f3, f4, f5, trivial⟩
      have hB := hf.bel
      clear he hf f0 f1 f2 f3 f4 f5 
      subst hlit
      simp only [putAll_nil, putAll_cons, Act.put, List.setIfInBounds_toArray, List.set_cons_zero, List.set_cons_succ]
      simp only [List.drop_succ_cons, List.drop_zero]
      have HX := Lib.hid ((hB.block _ (heap_lt HX.out)).trans HX.out)
      have H := Lib.hid (H.out.bel hB)
      have HF := Lib.hid (HF.out.trans (Fr.of_bel (S := RS br bp p g mb) hB) (fun _ _ e => e))
      have hsz := HF.out.size
      clear hB
      go_wp2_with fail
      go_ret2
      rw [rhave_no Hb.out]
      exact ⟨none, 0, 0, rfl, Outs.Out.nil _ _, H.out, HF.out⟩
  | true =>
    have Hb := Lib.hid hb
    clear hb
    obtain ⟨⟨D1, q, E⟩, hD⟩ : ∃ r, ctold D x = r := ⟨_, rfl⟩
    rw [hD] at hct
    simp only at hct
    have HD := Lib.hid hD
    clear hD
    go_enter Tryz.func100, Tryz.ntmps100
    go_upto_region 1 with (fail)
    generalize w.alloc (.cells (msV k i x m wb A n cb).toArray 25) = W1 at *
    refine wp_region_phi (by kernel_rfl) 6 none (fun _ => false) (fun i_ v wz => match i_ with
      | 0 => v = .pointer (some ⟨br, 0, none⟩)
      | 1 => v = .int .u64 (R.left : Int)
      | 2 => v = .pointer (some ⟨w.heap.size, 2, none⟩)
      | 3 => v = .int .i64 x
      | 4 => v = .bool true
      | 5 => v = .bool false
      | _ => True) (by kernel_rfl) ?_ ?_ ?_
    · (repeat' (first | exact allLt_zero | refine allLt_succ ?_ ?_))
      · exact fun _ _ _ h _ => h
      · exact fun _ _ _ h _ => h
      · exact fun _ _ _ h _ => h
      · exact fun _ _ _ h _ => h
      · exact fun _ _ _ h _ => h
      · exact fun _ _ _ h _ => h
    · (repeat' (first | exact allLt_zero | refine allLt_succ ?_ ?_))
      · intro a w' hf he
        have k0 : a.tmps.getD 0 undef = .pointer (some ⟨br, 0, none⟩) := hf.var (by kernel_rfl) rfl
        refine wpOp_step rfl (fun K hK => ?_)
        go_simp
        exact hK _ _ ⟨_, rfl, rfl, World.grownBy.refl _ _⟩
      · intro a w' hf he
        have f0 : a.tmps.getD 8 undef = .pointer (some ⟨br, 0, none⟩) := he 0 (by kernel_rfl)
        rw [show kindRow _ _ = none from by kernel_rfl] at hf
        refine wpOp_step rfl (fun K hK => ?_)
        go_simp
        refine (c_Left (H.out.bel hf.bel)).mono ?_
        rintro e w2 ⟨rfl, rfl⟩
        exact hK _ _ ⟨_, rfl, rfl, World.grownBy.refl _ _⟩
      · intro a w' hf he
        have k3 : a.tmps.getD 3 undef = .pointer (some ⟨w.heap.size, 0, none⟩) := hf.var (by kernel_rfl) rfl
        refine wpOp_step rfl (fun K hK => ?_)
        go_simp
        exact hK _ _ ⟨_, rfl, rfl, World.grownBy.refl _ _⟩
      · intro a w' hf he
        have f2 : a.tmps.getD 10 undef = .pointer (some ⟨w.heap.size, 2, none⟩) := he 2 (by kernel_rfl)
        rw [show kindRow _ _ = none from by kernel_rfl] at hf
        have dd := (msc ((hf.bel.block _ (heap_lt HX.out)).trans HX.out)).2.1
        refine wpOp_step rfl (fun K hK => ?_)
        go_simp
        exact hK _ _ ⟨_, rfl, rfl, World.grownBy.refl _ _⟩
      · intro a w' hf he
        have f1 : a.tmps.getD 9 undef = .int .u64 (R.left : Int) := he 1 (by kernel_rfl)
        have f3 : a.tmps.getD 11 undef = .int .i64 x := he 3 (by kernel_rfl)
        rw [show kindRow _ _ = none from by kernel_rfl] at hf
        refine wpOp_step rfl (fun K hK => ?_)
        go_simp
        refine (c_HasE R.left hll x _).mono ?_
        rintro e w2 ⟨rfl, rfl⟩
        rw [Hb.out]
        exact hK _ _ ⟨_, rfl, rfl, World.grownBy.refl _ _⟩
      · intro a w' hf he
        have f4 : a.tmps.getD 12 undef = .bool true := he 4 (by kernel_rfl)
        refine wpOp_step rfl (fun K hK => ?_)
        go_simp
        exact hK _ _ ⟨_, rfl, rfl, World.grownBy.refl _ _⟩
    · intro a w' hf he
      obtain ⟨u8, f0⟩ : ∃ u, a.tmps.getD 8 undef = u := ⟨_, rfl⟩
      obtain ⟨u9, f1⟩ : ∃ u, a.tmps.getD 9 undef = u := ⟨_, rfl⟩
      obtain ⟨u10, f2⟩ : ∃ u, a.tmps.getD 10 undef = u := ⟨_, rfl⟩
      obtain ⟨u11, f3⟩ : ∃ u, a.tmps.getD 11 undef = u := ⟨_, rfl⟩
      obtain ⟨u12, f4⟩ : ∃ u, a.tmps.getD 12 undef = u := ⟨_, rfl⟩
      have f5 : a.tmps.getD 13 undef = .bool false := he 5 (by decide)
      have hlit := hf.lit ((8, u8) :: (9, u9) :: (10, u10) :: (11, u11) :: (12, u12) :: (13, .bool false) :: []) (by kernel_rfl) ⟨f0, f1, f2, f3, f4, f5, trivial⟩
      have hB := hf.bel
      clear he hf f0 f1 f2 f3 f4 f5 
      subst hlit
      simp only [putAll_nil, putAll_cons, Act.put, List.setIfInBounds_toArray, List.set_cons_zero, List.set_cons_succ]
      simp only [List.drop_succ_cons, List.drop_zero]
      have HX := Lib.hid ((hB.block _ (heap_lt HX.out)).trans HX.out)
      have H := Lib.hid (H.out.bel hB)
      have HF := Lib.hid (HF.out.trans (Fr.of_bel (S := RS br bp p g mb) hB) (fun _ _ e => e))
      have hsz := HF.out.size
      clear hB
      go_upto_region 3 with (fail)
      refine wp_region_fr (by kernel_rfl) 12 (fun i_ => match i_ with | 6 => 1 | _ => 0) (fun c_ => match c_ with | 1 => fun k => k = p ∨ k = g ∨ k = mb | _ => fun _ => False) (fun i_ => match i_ with | 0 => [1] | 1 => [1] | 2 => [1] | 3 => [1] | 4 => [1] | 5 => [1] | _ => []) (fun i_ => match i_ with | 7 => [1] | 8 => [1] | 9 => [1] | 10 => [1] | 11 => [1] | _ => []) [1] (fun i_ v wz => match i_ with
        | 0 => v = .pointer (some ⟨br, 0, none⟩)
        | 1 => v = .pointer (some ⟨br, 0, none⟩)
        | 2 => v = .pointer (some ⟨br, 1, none⟩)
        | 3 => v = .pointer (some ⟨p, 0, none⟩)
        | 4 => v = .pointer (some ⟨w.heap.size, 2, none⟩)
        | 5 => v = .int .i64 x
        | 6 => v = .tuple #[.int .u64 (q : Int), .int .i64 (E : Int)] ∧ Dk wz p g mb c D1
        | 7 => v = .tuple #[.int .u64 (q : Int), .int .i64 (E : Int)] ∧ Dk wz p g mb c D1
        | 8 => v = .int .u64 (q : Int)
        | 9 => v = .int .i64 (E : Int)
        | 10 => v = .int .u64 (q : Int)
        | 11 => v = .int .i64 (E : Int)
        | _ => True) (by kernel_rfl) (by kernel_rfl) ?_ ?_ ?_
      · (repeat' (first | exact allLt_zero | refine allLt_succ ?_ ?_))
        · exact fun _ _ _ h _ => h
        · exact fun _ _ _ h _ => h
        · exact fun _ _ _ h _ => h
        · exact fun _ _ _ h _ => h
        · exact fun _ _ _ h _ => h
        · exact fun _ _ _ h _ => h
        · intro v w1 w2 h hg
          replace hg : Fr (fun k => False) w1 w2 := hg
          exact ⟨h.1, h.2.fr hg (fun e => e) (fun e => e) (fun e => e)⟩
        · intro v w1 w2 h hg
          replace hg : Fr (fun k => False) w1 w2 := hg
          exact ⟨h.1, h.2.fr hg (fun e => e) (fun e => e) (fun e => e)⟩
        · exact fun _ _ _ h _ => h
        · exact fun _ _ _ h _ => h
        · exact fun _ _ _ h _ => h
        · exact fun _ _ _ h _ => h
      · (repeat' (first | exact allLt_zero | refine allLt_succ ?_ ?_))
        · intro a w' hf he
          have k0 : a.tmps.getD 0 undef = .pointer (some ⟨br, 0, none⟩) := hf.var (by kernel_rfl) rfl
          refine wpOp_step rfl (fun K hK => ?_)
          go_simp
          exact hK _ _ ⟨_, rfl, rfl, Fr.refl _ _⟩
        · intro a w' hf he
          have f0 : a.tmps.getD 15 undef = .pointer (some ⟨br, 0, none⟩) := he 0 (by kernel_rfl)
          refine wpOp_step rfl (fun K hK => ?_)
          go_simp
          exact hK _ _ ⟨_, rfl, rfl, Fr.refl _ _⟩
        · intro a w' hf he
          have f1 : a.tmps.getD 16 undef = .pointer (some ⟨br, 0, none⟩) := he 1 (by kernel_rfl)
          refine wpOp_step rfl (fun K hK => ?_)
          go_simp
          exact hK _ _ ⟨_, rfl, rfl, Fr.refl _ _⟩
        · intro a w' hf he
          have f2 : a.tmps.getD 17 undef = .pointer (some ⟨br, 1, none⟩) := he 2 (by kernel_rfl)
          have hfr : Fr (fun k => False) _ w' := hf.of_start
          have hx := heap_fr H.out.rb hfr (fun e => e)
          have dd : w'.cell? ⟨br, 1, none⟩ = some (.pointer (some ⟨p, 0, none⟩)) := by simp [World.cell?, hx]
          clear hx
          refine wpOp_step rfl (fun K hK => ?_)
          go_simp
          exact hK _ _ ⟨_, rfl, rfl, Fr.refl _ _⟩
        · intro a w' hf he
          have k3 : a.tmps.getD 3 undef = .pointer (some ⟨w.heap.size, 0, none⟩) := hf.var (by kernel_rfl) rfl
          refine wpOp_step rfl (fun K hK => ?_)
          go_simp
          exact hK _ _ ⟨_, rfl, rfl, Fr.refl _ _⟩
        · intro a w' hf he
          have f4 : a.tmps.getD 19 undef = .pointer (some ⟨w.heap.size, 2, none⟩) := he 4 (by kernel_rfl)
          have hfr : Fr (fun k => False) _ w' := hf.of_start
          have dd := (msc (heap_fr HX.out hfr (fun e => e))).2.1
          refine wpOp_step rfl (fun K hK => ?_)
          go_simp
          exact hK _ _ ⟨_, rfl, rfl, Fr.refl _ _⟩
        · intro a w' hf he
          have f3 : a.tmps.getD 18 undef = .pointer (some ⟨p, 0, none⟩) := he 3 (by kernel_rfl)
          have f5 : a.tmps.getD 20 undef = .int .i64 x := he 5 (by kernel_rfl)
          have hfr : Fr (fun k => False) _ w' := hf.of_start
          have hd := H.out.dk.fr hfr (fun e => e) (fun e => e) (fun e => e)
          refine wpOp_step rfl (fun K hK => ?_)
          go_simp
          refine (hct _ hd).mono ?_
          rintro e w2 ⟨rfl, hk2, f2⟩
          exact hK _ _ ⟨_, rfl, ⟨rfl, hk2⟩, f2.mono (fun k _ e => .inl e)⟩
        · intro a w' hf he
          obtain ⟨hv6, hk6⟩ := he 6 (by kernel_rfl)
          have f6 : a.tmps.getD 21 undef = _ := hv6
          refine wpOp_step rfl (fun K hK => ?_)
          go_simp
          exact hK _ _ ⟨_, rfl, ⟨rfl, hk6⟩, Fr.refl _ _⟩
        · intro a w' hf he
          obtain ⟨hv7, hk7⟩ := he 7 (by kernel_rfl)
          have f7 : a.tmps.getD 14 undef = _ := hv7
          refine wpOp_step rfl (fun K hK => ?_)
          go_simp
          exact hK _ _ ⟨_, rfl, rfl, Fr.refl _ _⟩
        · intro a w' hf he
          obtain ⟨hv7, hk7⟩ := he 7 (by kernel_rfl)
          have f7 : a.tmps.getD 14 undef = _ := hv7
          refine wpOp_step rfl (fun K hK => ?_)
          go_simp
          exact hK _ _ ⟨_, rfl, rfl, Fr.refl _ _⟩
        · intro a w' hf he
          have f8 : a.tmps.getD 22 undef = .int .u64 (q : Int) := he 8 (by kernel_rfl)
          refine wpOp_step rfl (fun K hK => ?_)
          go_simp
          exact hK _ _ ⟨_, rfl, rfl, Fr.refl _ _⟩
        · intro a w' hf he
          have f9 : a.tmps.getD 23 undef = .int .i64 (E : Int) := he 9 (by kernel_rfl)
          refine wpOp_step rfl (fun K hK => ?_)
          go_simp
          exact hK _ _ ⟨_, rfl, rfl, Fr.refl _ _⟩
      · intro a w' hf he
        obtain ⟨u15, f0⟩ : ∃ u, a.tmps.getD 15 undef = u := ⟨_, rfl⟩
        obtain ⟨u16, f1⟩ : ∃ u, a.tmps.getD 16 undef = u := ⟨_, rfl⟩
        obtain ⟨u17, f2⟩ : ∃ u, a.tmps.getD 17 undef = u := ⟨_, rfl⟩
        obtain ⟨u18, f3⟩ : ∃ u, a.tmps.getD 18 undef = u := ⟨_, rfl⟩
        obtain ⟨u19, f4⟩ : ∃ u, a.tmps.getD 19 undef = u := ⟨_, rfl⟩
        obtain ⟨u20, f5⟩ : ∃ u, a.tmps.getD 20 undef = u := ⟨_, rfl⟩
        obtain ⟨hv6, hk6⟩ := he 6 (by decide)
        have f6 : a.tmps.getD 21 undef = _ := hv6
        obtain ⟨u14, f7⟩ : ∃ u, a.tmps.getD 14 undef = u := ⟨_, rfl⟩
        obtain ⟨u22, f8⟩ : ∃ u, a.tmps.getD 22 undef = u := ⟨_, rfl⟩
        obtain ⟨u23, f9⟩ : ∃ u, a.tmps.getD 23 undef = u := ⟨_, rfl⟩
        have f10 : a.tmps.getD 6 undef = .int .u64 (q : Int) := he 10 (by decide)
        have f11 : a.tmps.getD 7 undef = .int .i64 (E : Int) := he 11 (by decide)
        have hlit := hf.lit ((15, u15) :: (16, u16) :: (17, u17) :: (18, u18) :: (19, u19) :: (20, u20) :: (21, _) :: (14, u14) :: (22, u22) :: (23, u23) :: (6, .int .u64 (q : Int)) :: (7, .int .i64 (E : Int)) :: []) (by kernel_rfl) ⟨f0, f1, f2, f3, f4, f5, f6, f7, f8, f9, f10, f11, trivial⟩
        have hB : Fr (fun k => (fun k => k = p ∨ k = g ∨ k = mb) k ∨ False) _ w' := hf.of_start
        clear he hf f0 f1 f2 f3 f4 f5 f6 f7 f8 f9 f10 f11 hv6
        subst hlit
        simp only [putAll_nil, putAll_cons, Act.put, List.setIfInBounds_toArray, List.set_cons_zero, List.set_cons_succ]
        simp only [List.drop_succ_cons, List.drop_zero]
        have f3 : Fr (fun k => k = p ∨ k = g ∨ k = mb) _ w' := hB.mono (fun k _ e => by simpa using e)
        have HX := Lib.hid (heap_fr HX.out f3 (by omega))
        have H := Lib.hid (H.out.disk hk6 f3)
        have HF := Lib.hid (HF.out.trans f3 (fun z _ e => by unfold RS; omega))
        have hsz := HF.out.size
        clear hB hk6 f3 hct
        by_cases hE : E = 0
        · subst hE
          go_upto_region 6 with (fail)
          refine wp_region_phi (by kernel_rfl) 6 none (fun _ => false) (fun i_ v wz => match i_ with
            | 0 => v = .pointer (some ⟨br, 0, none⟩)
            | 1 => v = .pointer (some ⟨br, 0, none⟩)
            | 2 => v = .pointer (some ⟨br, 0, none⟩)
            | 3 => v = .pointer (some ⟨bp, 0, none⟩)
            | 4 => v = .pointer (some ⟨w.heap.size, 2, none⟩)
            | 5 => v = .int .i64 x
            | _ => True) (by kernel_rfl) ?_ ?_ ?_
          · (repeat' (first | exact allLt_zero | refine allLt_succ ?_ ?_))
            · exact fun _ _ _ h _ => h
            · exact fun _ _ _ h _ => h
            · exact fun _ _ _ h _ => h
            · exact fun _ _ _ h _ => h
            · exact fun _ _ _ h _ => h
            · exact fun _ _ _ h _ => h
          · (repeat' (first | exact allLt_zero | refine allLt_succ ?_ ?_))
            · intro a w' hf he
              have k0 : a.tmps.getD 0 undef = .pointer (some ⟨br, 0, none⟩) := hf.var (by kernel_rfl) rfl
              refine wpOp_step rfl (fun K hK => ?_)
              go_simp
              exact hK _ _ ⟨_, rfl, rfl, World.grownBy.refl _ _⟩
            · intro a w' hf he
              have f0 : a.tmps.getD 27 undef = .pointer (some ⟨br, 0, none⟩) := he 0 (by kernel_rfl)
              refine wpOp_step rfl (fun K hK => ?_)
              go_simp
              exact hK _ _ ⟨_, rfl, rfl, World.grownBy.refl _ _⟩
            · intro a w' hf he
              have f1 : a.tmps.getD 28 undef = .pointer (some ⟨br, 0, none⟩) := he 1 (by kernel_rfl)
              refine wpOp_step rfl (fun K hK => ?_)
              go_simp
              exact hK _ _ ⟨_, rfl, rfl, World.grownBy.refl _ _⟩
            · intro a w' hf he
              have f2 : a.tmps.getD 29 undef = .pointer (some ⟨br, 0, none⟩) := he 2 (by kernel_rfl)
              rw [show kindRow _ _ = none from by kernel_rfl] at hf
              have dd := (H.out.bel hf.bel).cells.1
              refine wpOp_step rfl (fun K hK => ?_)
              go_simp
              exact hK _ _ ⟨_, rfl, rfl, World.grownBy.refl _ _⟩
            · intro a w' hf he
              have k3 : a.tmps.getD 3 undef = .pointer (some ⟨w.heap.size, 0, none⟩) := hf.var (by kernel_rfl) rfl
              refine wpOp_step rfl (fun K hK => ?_)
              go_simp
              exact hK _ _ ⟨_, rfl, rfl, World.grownBy.refl _ _⟩
            · intro a w' hf he
              have f4 : a.tmps.getD 31 undef = .pointer (some ⟨w.heap.size, 2, none⟩) := he 4 (by kernel_rfl)
              rw [show kindRow _ _ = none from by kernel_rfl] at hf
              have dd := (msc ((hf.bel.block _ (heap_lt HX.out)).trans HX.out)).2.1
              refine wpOp_step rfl (fun K hK => ?_)
              go_simp
              exact hK _ _ ⟨_, rfl, rfl, World.grownBy.refl _ _⟩
          · intro a w' hf he
            obtain ⟨u27, f0⟩ : ∃ u, a.tmps.getD 27 undef = u := ⟨_, rfl⟩
            obtain ⟨u28, f1⟩ : ∃ u, a.tmps.getD 28 undef = u := ⟨_, rfl⟩
            obtain ⟨u29, f2⟩ : ∃ u, a.tmps.getD 29 undef = u := ⟨_, rfl⟩
            have f3 : a.tmps.getD 30 undef = .pointer (some ⟨bp, 0, none⟩) := he 3 (by decide)
            obtain ⟨u31, f4⟩ : ∃ u, a.tmps.getD 31 undef = u := ⟨_, rfl⟩
            have f5 : a.tmps.getD 32 undef = .int .i64 x := he 5 (by decide)
            have hlit := hf.lit ((27, u27) :: (28, u28) :: (29, u29) :: (30, .pointer (some ⟨bp, 0, none⟩)) :: (31, u31) :: (32, .int .i64 x) :: []) (by kernel_rfl) ⟨f0, f1, f2, f3, f4, f5, trivial⟩
            have hB := hf.bel
            clear he hf f0 f1 f2 f3 f4 f5 
            subst hlit
            simp only [putAll_nil, putAll_cons, Act.put, List.setIfInBounds_toArray, List.set_cons_zero, List.set_cons_succ]
            simp only [List.drop_succ_cons, List.drop_zero]
            have H := Lib.hid (H.out.bel hB)
            have HF := Lib.hid (HF.out.trans (Fr.of_bel (S := RS br bp p g mb) hB) (fun _ _ e => e))
            have hsz := HF.out.size
            clear hB HX
            by_cases hz : without R.left x = 0
            · have Hz := Lib.hid (decide_eq_true hz)
              go_wp2_with (first
                | (go_at_call 154
                   (with_reducible refine (Pln.c_Have H.out.pb hll x).mono ?_)
                   rintro e w5 ⟨rfl, hp5, f5⟩
                   have H := Lib.hid (H.out.plan hp5 hwl f5)
                   have HF := Lib.hid (HF.out.trans f5 (fun z _ e => by have e2 : z = bp := e; unfold RS; omega))
                   have hsz := HF.out.size
                   obtain ⟨k0, k1, k2, k3⟩ := H.out.cells
                   clear hp5 f5)
                | (go_at_call 110
                   (with_reducible refine (Pln.c_Over H.out.pb).mono ?_)
                   rintro e w6 ⟨rfl, rfl⟩
                   rw [Hz.out])
                | (go_at_call 111
                   (with_reducible refine (c_end H.out).mono ?_)
                   rintro e w7 ⟨rfl, hr7, f7⟩
                   have hHB := (Below.refl w7.heap.size w7).alloc (Nat.le_refl _) (.cells last.row.toArray 25)
                   have H := Lib.hid (hr7.bel hHB)
                   have HF := Lib.hid ((HF.out.trans f7 (fun z _ e => by have e2 : z = br := e; unfold RS; omega)).trans (Fr.of_bel (S := RS br bp p g mb) hHB) (fun _ _ e => e))
                   have hsz := Nat.le_trans hsz f7.size
                   have HY := Lib.hid (heap_alloc_new w7 (.cells last.row.toArray 25))
                   clear hr7 f7 k0 k1 k2 k3 hHB))
              go_ret2
              rw [rhave_end Hb.out HD.out hz]
              exact ⟨_, _, _, rfl, ⟨[last], Outs.Says.one HY.out (by omega) ⟨Rd.nil_, fun ad e => by cases e⟩, rfl⟩, H.out, HF.out⟩
            · have Hz := Lib.hid (decide_eq_false hz)
              go_wp2_with (first
                | (go_at_call 154
                   (with_reducible refine (Pln.c_Have H.out.pb hll x).mono ?_)
                   rintro e w5 ⟨rfl, hp5, f5⟩
                   have H := Lib.hid (H.out.plan hp5 hwl f5)
                   have HF := Lib.hid (HF.out.trans f5 (fun z _ e => by have e2 : z = bp := e; unfold RS; omega))
                   have hsz := HF.out.size
                   obtain ⟨k0, k1, k2, k3⟩ := H.out.cells
                   clear hp5 f5)
                | (go_at_call 110
                   (with_reducible refine (Pln.c_Over H.out.pb).mono ?_)
                   rintro e w6 ⟨rfl, rfl⟩
                   rw [Hz.out])
                )
              go_ret2
              rw [rhave_go Hb.out HD.out hz]
              exact ⟨none, 0, 0, rfl, Outs.Out.nil _ _, H.out, HF.out⟩
        · have hne : ((E : Int) != 0) = true := by simp; omega
          go_wp2_with fail
          go_ret2
          rw [rhave_err Hb.out HD.out hE]
          exact ⟨none, 0, 0, rfl, Outs.Out.nil _ _, H.out, HF.out⟩
end
end Go.Proofs.YtaldlapnhhhclaaGreat.Rsy
/- A rule for regions in which some operations (stores, allocations, calls) turn what a relation allows, and all others leave the heap as it was. Conditions: none. -/
namespace Go.Proofs.YtaldlapnhhhclaaGreat.Tw
open Go.RowKit
variable {P : Program} {ops : Array Oper} {Q : Exit → Act → World → Prop}
structure RelOk (G : Bool → World → World → Prop) : Prop where
  refl : ∀ b w, G b w w
  trans : ∀ b u v w, G b u v → G b v w → G b u w
  up : ∀ u v, G false u v → G true u v
theorem RelOk.any {G : Bool → World → World → Prop} (h : RelOk G) {b : Bool} {u v : World} (hg : G b u v) : G true u v := by
  cases b with
  | true => exact hg
  | false => exact h.up _ _ hg
def outV (ops : Array Oper) (i : Nat) (v : Value) : Value := match dstOf ops i with | some _ => v | none => undef
structure RFactsG (ops : Array Oper) (N : Nat) (a0 : Act) (w0 : World) (G : World → World → Prop) (a : Act) (w : World) : Prop where
  size : a.tmps.size = a0.tmps.size
  defers : a.defers = a0.defers
  rel : G w0 w
  keep : ∀ s, (∀ i, i < N → dstOf ops i ≠ some s) → a.tmps.getD s undef = a0.tmps.getD s undef
def chkG (ops : Array Oper) (N sz : Nat) : Bool :=
  ((List.range ops.size).all fun i => match ops[i]? with | none => true | some o => o.after.all fun e => !Region.binds .any e || decide (e.on < i)) &&
  ((List.range N).all fun i => (List.range i).all fun j => dstOf ops i == none || dstOf ops i != dstOf ops j) &&
  ((List.range N).all fun i => match dstOf ops i with | some d => decide (d < sz) | none => true) &&
  ((List.range ops.size).all fun k => decide (k < N) || (List.range k).all fun j => ancB ops ops.size k j) &&
  decide (N ≤ ops.size)

theorem wpAny_factsG {a0 : Act} {w : World} (N : Nat) {G : Bool → World → World → Prop} (hG : RelOk G) (kind : Nat → Bool) (Φ : Nat → Value → World → Prop)
    (hchk : chkG ops N a0.tmps.size = true)
    (hstab : ∀ i, i < N → ∀ v w w', Φ i v w → G (!clsB ops N kind i) w w' → Φ i v w')
    (h1 : ∀ i, i < N → ∀ a w', RFactsG ops N a0 w.drew (G (!preB ops N kind i)) a w' → (∀ o, ops[i]? = some o → ∀ e ∈ o.after, Region.binds .any e = true → Φ e.on (slotV ops a e.on) w') →
      wpOp P ops Q i (fun a' w2 => ∃ v, a' = a.put (dstOf ops i) v ∧ Φ i (outV ops i v) w2 ∧ G (kind i) w' w2) a w')
    (h2 : ∀ a w', RFactsG ops N a0 w.drew (G true) a w' → (∀ i, i < N → Φ i (slotV ops a i) w') → wpList P ops Q (ops.toList.drop N) a w') :
    wpAny P .any ops Q ops.size (Array.replicate ops.size false) a0 { w with drawn := w.drawn + 1 } := by
  have hcls : ∀ i, clsB ops N kind i = true → ∀ j, j < N → kind j = true → j = i ∨ ancB ops ops.size i j = true := by
    intro i hc j hj hk
    simp only [clsB, List.all_eq_true, List.mem_range] at hc
    have := hc j hj
    simp [hk] at this
    exact this
  have hpreB : ∀ i, preB ops N kind i = true → ∀ j, j < N → kind j = true → j = i ∨ ancB ops ops.size j i = true := by
    intro i hc j hj hk
    simp only [preB, List.all_eq_true, List.mem_range] at hc
    have := hc j hj
    simp [hk] at this
    exact this
  simp only [chkG, Bool.and_eq_true, List.all_eq_true, List.mem_range, decide_eq_true_eq] at hchk
  obtain ⟨⟨⟨⟨hb0, hd0⟩, hs0⟩, ht0⟩, hN⟩ := hchk
  have hback : ∀ i o, ops[i]? = some o → ∀ e ∈ o.after, Region.binds .any e = true → e.on < i := by
    intro i o ho e he hb
    have hi : i < ops.size := (Array.getElem?_eq_some_iff.1 ho).1
    have := hb0 i hi
    simp only [ho, Array.all_eq_true_iff_forall_mem] at this
    have := this e he
    simpa [hb] using this
  have hdist : ∀ i, i < N → ∀ j, j < N → i ≠ j → ∀ d, dstOf ops i = some d → dstOf ops j ≠ some d := by
    intro i hi j hj hij d hd hd2
    rcases Nat.lt_or_gt_of_ne hij with hlt | hgt
    · have := hd0 j hj i hlt
      simp [hd, hd2] at this
    · have := hd0 i hi j hgt
      simp [hd, hd2] at this
  have hsz : ∀ i, i < N → ∀ d, dstOf ops i = some d → d < a0.tmps.size := by
    intro i hi d hd
    have := hs0 i hi
    simpa [hd] using this
  have htail : ∀ k, N ≤ k → k < ops.size → ∀ j, j < k → ancB ops ops.size k j = true := by
    intro k hk hkl j hj
    have := ht0 k hkl
    simp only [Bool.or_eq_true, decide_eq_true_eq, List.all_eq_true, List.mem_range] at this
    rcases this with h | h
    · omega
    · exact h j hj
  have main : ∀ (fuel : Nat) (l : Array Bool), l.size = ops.size → unl l = fuel → (∀ k, N ≤ k → k < ops.size → l.getD k false = false) → (∀ i o, l.getD i false = true → ops[i]? = some o → ∀ e ∈ o.after, Region.binds .any e = true → l.getD e.on false = true) →
      ∀ a w', RFactsG ops N a0 w.drew (G true) a w' → ((∀ j, j < N → kind j = true → l.getD j false = false) → G false w.drew w') → (∀ i, i < N → l.getD i false = true → Φ i (slotV ops a i) w') → wpAny P .any ops Q fuel l a w' := by
    intro fuel
    induction fuel with
    | zero =>
      intro l hl hu hnt hcl a w' hf hg0 hΦ
      have hall : ∀ i, i < ops.size → l.getD i false = true := fun i hi => unl_zero hu (by omega)
      have hNe : N = ops.size := by
        rcases Nat.lt_or_ge N ops.size with hlt | hge
        · have := hnt N (Nat.le_refl _) hlt
          rw [hall N hlt] at this
          cases this
        · omega
      refine any_tail htail hback 0 l N (Nat.le_refl _) hl hu (fun j hj => ⟨fun _ => by omega, fun _ => hall j hj⟩) a w' (h2 a w' hf fun i hi => hΦ i hi (hall i (by omega)))
    | succ fuel ih =>
      intro l hl hu hnt hcl a w' hf hg0 hΦ
      by_cases hpre : ∀ i, i < N → l.getD i false = true
      · refine any_tail htail hback (fuel + 1) l N (Nat.le_refl _) hl hu (fun j hj => ⟨fun hlj => ?_, fun hj => hpre j hj⟩) a w' (h2 a w' hf fun i hi => hΦ i hi (hpre i hi))
        rcases Nat.lt_or_ge j N with hlt | hge
        · exact hlt
        · rw [hnt j hge hj] at hlj; cases hlj
      · refine ⟨fun hr => ?_, fun i hi => ?_⟩
        · exact (hpre fun i hi => ready_nil_all hback hl hr (by omega)).elim
        · obtain ⟨g1, o, ho, he⟩ := mem_ready.1 hi
          obtain ⟨g2, g3⟩ := getD_of_false g1
          have hiN : i < N := by
            rcases Nat.lt_or_ge i N with hlt | hge
            · exact hlt
            · refine (hpre fun j hj => ?_).elim
              exact ready_anc hcl ho he (htail i hge (by omega) j (by omega))
          have hedge : ∀ o', ops[i]? = some o' → ∀ e ∈ o'.after, Region.binds .any e = true → Φ e.on (slotV ops a e.on) w' := by
            intro o' ho' e he' hb
            rw [ho] at ho'
            injection ho' with ho'
            subst ho'
            have hlt := hback i o ho e he' hb
            exact hΦ e.on (by omega) (he e he' hb)
          have hf' : RFactsG ops N a0 w.drew (G (!preB ops N kind i)) a w' := by
            refine ⟨hf.size, hf.defers, ?_, hf.keep⟩
            cases hp : preB ops N kind i with
            | false => exact hf.rel
            | true =>
              refine hg0 fun j hj hk => ?_
              cases hlj : l.getD j false with
              | false => rfl
              | true =>
                rcases hpreB i hp j hj hk with h | h
                · subst h; rw [g3] at hlj; cases hlj
                · have := anc_listed hcl _ _ _ hlj h
                  rw [g3] at this
                  cases this
          refine wpOp_mono ?_ (h1 i hiN a w' hf' hedge)
          rintro a' w2 ⟨v, rfl, hv, hg⟩
          refine ih _ (by simpa using hl) (by have := unl_set g1; omega) (fun k hk hks => ?_) (fun k ok hlk hok e hem hb => ?_) _ w2 ?_ (fun hno => ?_) ?_
          · rw [getD_set, if_neg (by omega)]
            exact hnt k hk hks
          · rw [getD_set] at hlk ⊢
            by_cases hik : i = k
            · subst hik
              rw [ho] at hok
              injection hok with hok
              subst hok
              split
              · rfl
              · exact he e hem hb
            · rw [if_neg (fun h => hik h.1)] at hlk
              split
              · rfl
              · exact hcl k ok hlk hok e hem hb
          · refine ⟨by rw [size_put]; exact hf.size, by rw [defers_put]; exact hf.defers, hG.trans _ _ _ _ hf.rel (hG.any hg), fun s hs => ?_⟩
            rw [getD_put, if_neg (fun h => hs i hiN h.1)]
            exact hf.keep s hs
          · have hki : kind i = false := by
              cases hk : kind i with
              | false => rfl
              | true =>
                have := hno i hiN hk
                rw [getD_set, if_pos ⟨rfl, by omega⟩] at this
                cases this
            refine hG.trans _ _ _ _ (hg0 fun j hj hk => ?_) (by rw [hki] at hg; exact hg)
            have := hno j hj hk
            rw [getD_set] at this
            split at this
            · cases this
            · exact this
          · intro j hj hlj
            unfold slotV
            by_cases hij : i = j
            · subst hij
              unfold outV at hv
              cases hd : dstOf ops i with
              | none => simpa only [hd] using hv
              | some d =>
                simp only [hd] at hv
                dsimp only
                rw [getD_put, if_pos ⟨rfl, by rw [hf.size]; exact hsz i hiN d hd⟩]
                exact hv
            · rw [getD_set, if_neg (fun h => hij h.1)] at hlj
              have hanc : ancB ops ops.size j i = false := by
                cases hb : ancB ops ops.size j i with
                | false => rfl
                | true =>
                  have := anc_listed hcl _ _ _ hlj hb
                  rw [g3] at this
                  cases this
              have hg' : G (!clsB ops N kind j) w' w2 := by
                cases hc : clsB ops N kind j with
                | false => exact hG.any hg
                | true =>
                  cases hk : kind i with
                  | false => rw [hk] at hg; exact hg
                  | true =>
                    rcases hcls j hc i hiN hk with h | h
                    · exact (hij h).elim
                    · rw [hanc] at h; cases h
              have hold := hstab j hj _ _ _ (hΦ j hj hlj) hg'
              unfold slotV at hold
              cases hd : dstOf ops j with
              | none => simp only [hd] at hold ⊢; exact hold
              | some d =>
                simp only [hd] at hold ⊢
                rw [getD_put, if_neg (fun h => hdist j hj i hiN (fun e => hij e.symm) d hd h.1)]
                exact hold
  refine main ops.size _ (by simp) ?_ (fun k _ _ => ?_) (fun i o h => ?_) a0 _ ⟨rfl, rfl, hG.refl _ _, fun _ _ => rfl⟩ (fun _ => hG.refl _ _) (fun i _ h => ?_)
  · show (Array.replicate ops.size false).toList.countP _ = _
    rw [Array.toList_replicate, List.countP_replicate]
    simp
  · simp [Array.getD]
  · simp [Array.getD] at h
  · simp [Array.getD] at h


theorem RFactsG.var {N : Nat} {a0 a : Act} {w0 w : World} {G : World → World → Prop} (h : RFactsG ops N a0 w0 G a w) {s : Nat} {v : Value} (hk : keepB ops N s = true) (hv : a0.tmps.getD s undef = v) : a.tmps.getD s undef = v := by
  rw [← hv]
  refine h.keep s fun i hi hd => ?_
  simp only [keepB, List.all_eq_true, List.mem_range] at hk
  have := hk i hi
  simp [hd] at this


theorem wpAny_phiG {a0 : Act} {w : World} (N : Nat) {G : Bool → World → World → Prop} (hG : RelOk G) (kind : Nat → Bool) (Φ : Nat → Value → World → Prop)
    (hchk : chkG ops N a0.tmps.size = true)
    (hstab : ∀ i, i < N → ∀ v w w', Φ i v w → G (!clsB ops N kind i) w w' → Φ i v w')
    (h1 : ∀ i, i < N → ∀ a w', RFactsG ops N a0 w.drew (G (!preB ops N kind i)) a w' → (∀ j, depB ops i j = true → Φ j (slotV ops a j) w') →
      wpOp P ops Q i (fun a' w2 => ∃ v, a' = a.put (dstOf ops i) v ∧ Φ i (outV ops i v) w2 ∧ G (kind i) w' w2) a w')
    (h2 : ∀ a w', RFactsG ops N a0 w.drew (G true) a w' → (∀ i, i < N → Φ i (slotV ops a i) w') → wpList P ops Q (ops.toList.drop N) a w') :
    wpAny P .any ops Q ops.size (Array.replicate ops.size false) a0 { w with drawn := w.drawn + 1 } := by
  have hN : N ≤ ops.size := by
    simp only [chkG, Bool.and_eq_true, decide_eq_true_eq] at hchk
    exact hchk.2
  have hb0 : ∀ i, i < ops.size → ∀ o, ops[i]? = some o → ∀ e ∈ o.after, Region.binds .any e = true → e.on < i := by
    simp only [chkG, Bool.and_eq_true, List.all_eq_true, List.mem_range] at hchk
    intro i hi o ho e he hb
    have := hchk.1.1.1.1 i hi
    simp only [ho, Array.all_eq_true_iff_forall_mem] at this
    have := this e he
    simpa [hb] using this
  refine wpAny_factsG N hG kind (fun i v w => i < N → Φ i v w) hchk (fun i _ v w w' h hg hi => hstab i hi v w w' (h hi) hg) (fun i hi a w' hf he => ?_) (fun a w' hf h => h2 a w' hf fun i hi => h i hi hi)
  refine wpOp_mono ?_ (h1 i hi a w' hf fun j hj => ?_)
  · rintro a' w2 ⟨v, h1, h2, h3⟩
    exact ⟨v, h1, fun _ => h2, h3⟩
  · unfold depB at hj
    split at hj
    · rename_i o ho
      rw [Array.any_eq_true'] at hj
      obtain ⟨e, hm2, hx⟩ := hj
      simp at hx
      obtain ⟨hx1, rfl⟩ := hx
      exact he o ho e hm2 hx1 (by have := hb0 i (by omega) o ho e hm2 hx1; omega)
    · cases hj

theorem wp_region_rel {id : Nat} {a0 : Act} {w : World} (hm : P.follows .mixedOrders = true) (N : Nat) {G : Bool → World → World → Prop} (hG : RelOk G) (kind : Nat → Bool) (Φ : Nat → Value → World → Prop)
    (hchk : chkG ops N a0.tmps.size = true)
    (hstab : ∀ i, i < N → ∀ v w w', Φ i v w → G (!clsB ops N kind i) w w' → Φ i v w')
    (h1 : ∀ i, i < N → ∀ a w', RFactsG ops N a0 w.drew (G (!preB ops N kind i)) a w' → (∀ j, depB ops i j = true → Φ j (slotV ops a j) w') →
      wpOp P ops Q i (fun a' w2 => ∃ v, a' = a.put (dstOf ops i) v ∧ Φ i (outV ops i v) w2 ∧ G (kind i) w' w2) a w')
    (h2 : ∀ a w', RFactsG ops N a0 w.drew (G true) a w' → (∀ i, i < N → Φ i (slotV ops a i) w') → wpList P ops Q (ops.toList.drop N) a w') :
    (Code.region id ops true).wp P Q a0 w :=
  wp_region_any hm (wpAny_phiG N hG kind Φ hchk hstab h1 h2)

theorem RFactsG.lit {N : Nat} {a0 a : Act} {w0 w : World} {G : World → World → Prop} (h : RFactsG ops N a0 w0 G a w) (l : List (Nat × Value))
    (hc : ((List.range N).all fun i => dstOf ops i == none || (l.map (·.1)).any fun s => dstOf ops i == some s) = true) (hl : AllAt a l) : a = putAll l a0 := by
  have hsz : a.tmps.size = (putAll l a0).tmps.size := by rw [putAll_size, h.size]
  have ht : a.tmps = (putAll l a0).tmps := by
    refine Array.ext hsz fun i hi hi2 => ?_
    have := putAll_get a l a0 h.size.symm hl i ?_
    · simp [Array.getD, hi, hi2] at this
      exact this.symm
    · by_cases hk : ∀ k, k < N → dstOf ops k ≠ some i
      · exact .inl (h.keep i hk)
      · simp only [Classical.not_forall] at hk
        obtain ⟨k, hk, hd⟩ := hk
        have hd : dstOf ops k = some i := Classical.not_not.1 hd
        right
        simp only [List.all_eq_true, List.mem_range, Bool.or_eq_true, List.any_eq_true, List.mem_map] at hc
        have hck := hc k hk
        rw [hd] at hck
        obtain ⟨s, ⟨p, hp, rfl⟩, hs⟩ := hck.resolve_left (by simp)
        exact ⟨p, hp, Option.some.inj (beq_iff_eq.1 hs).symm⟩
  have hd : a.defers = (putAll l a0).defers := by rw [putAll_defers, h.defers]
  cases a
  cases hp : putAll l a0
  simp_all

/-- nothing but draws -/
structure Still (w w' : World) : Prop where
  os : w'.os = w.os
  tape : w'.tape = w.tape
  output : w'.output = w.output
  heap : w'.heap = w.heap
theorem Still.refl (w : World) : Still w w := ⟨rfl, rfl, rfl, rfl⟩
theorem Still.trans {u v w : World} (h : Still u v) (k : Still v w) : Still u w := ⟨k.os.trans h.os, k.tape.trans h.tape, k.output.trans h.output, k.heap.trans h.heap⟩
/-- From block B on what is there may turn; the block B itself, once it is as R says, stays so. -/
structure BoxRel (B : Nat) (R : Option Obj → Prop) (w w' : World) : Prop where
  fr : Fr (fun k => B ≤ k) w w'
  box : R (w.heap[B]?) → R (w'.heap[B]?)
def boxG (B : Nat) (R : Option Obj → Prop) : Bool → World → World → Prop
  | false => Still
  | true => BoxRel B R
theorem boxG_ok (B : Nat) (R : Option Obj → Prop) : RelOk (boxG B R) where
  refl b w := by
    cases b with
    | false => exact Still.refl w
    | true => exact ⟨Fr.refl _ _, fun h => h⟩
  trans b u v w h k := by
    cases b with
    | false => exact Still.trans h k
    | true => exact ⟨h.fr.trans k.fr (fun _ _ e => e), fun hr => k.box (h.box hr)⟩
  up u v h := ⟨⟨h.os, h.tape, h.output, by rw [h.heap]; exact Nat.le_refl _, fun k _ _ => by rw [h.heap]⟩, fun hr => by rw [h.heap]; exact hr⟩
end Go.Proofs.YtaldlapnhhhclaaGreat.Tw
/- The rule of XRegion3 with a link: an operation without a slot may speak of the value in another operation's slot. Conditions: none. -/
namespace Go.Proofs.YtaldlapnhhhclaaGreat.Tw
open Go.RowKit
variable {P : Program} {ops : Array Oper} {Q : Exit → Act → World → Prop}
def auxV (aux : Nat → Option Tmp) (a : Act) (i : Nat) : Value := match aux i with | some d => a.tmps.getD d undef | none => undef
def slotA (ops : Array Oper) (aux : Nat → Option Tmp) (a : Act) (i : Nat) : Value := match dstOf ops i with | some d => a.tmps.getD d undef | none => match aux i with | some d => a.tmps.getD d undef | none => undef
def outA (ops : Array Oper) (aux : Nat → Option Tmp) (i : Nat) (a : Act) (v : Value) : Value := match dstOf ops i with | some _ => v | none => match aux i with | some d => a.tmps.getD d undef | none => undef
/-- what such an operation speaks of was written by operations that stand ahead of it -/
def chkA (ops : Array Oper) (N : Nat) (aux : Nat → Option Tmp) : Bool :=
  (List.range N).all fun j => (List.range N).all fun i => match aux j with | some s => (if dstOf ops i = some s then ancB ops ops.size j i else true) | none => true
theorem wpAny_factsA {a0 : Act} {w : World} (N : Nat) (aux : Nat → Option Tmp) (haux : chkA ops N aux = true) {G : Bool → World → World → Prop} (hG : RelOk G) (kind : Nat → Bool) (Φ : Nat → Value → World → Prop)
    (hchk : chkG ops N a0.tmps.size = true)
    (hstab : ∀ i, i < N → ∀ v w w', Φ i v w → G (!clsB ops N kind i) w w' → Φ i v w')
    (h1 : ∀ i, i < N → ∀ a w', RFactsG ops N a0 w.drew (G (!preB ops N kind i)) a w' → (∀ o, ops[i]? = some o → ∀ e ∈ o.after, Region.binds .any e = true → Φ e.on (slotA ops aux a e.on) w') →
      wpOp P ops Q i (fun a' w2 => ∃ v, a' = a.put (dstOf ops i) v ∧ Φ i (outA ops aux i a v) w2 ∧ G (kind i) w' w2) a w')
    (h2 : ∀ a w', RFactsG ops N a0 w.drew (G true) a w' → (∀ i, i < N → Φ i (slotA ops aux a i) w') → wpList P ops Q (ops.toList.drop N) a w') :
    wpAny P .any ops Q ops.size (Array.replicate ops.size false) a0 { w with drawn := w.drawn + 1 } := by
  have hcls : ∀ i, clsB ops N kind i = true → ∀ j, j < N → kind j = true → j = i ∨ ancB ops ops.size i j = true := by
    intro i hc j hj hk
    simp only [clsB, List.all_eq_true, List.mem_range] at hc
    have := hc j hj
    simp [hk] at this
    exact this
  have hpreB : ∀ i, preB ops N kind i = true → ∀ j, j < N → kind j = true → j = i ∨ ancB ops ops.size j i = true := by
    intro i hc j hj hk
    simp only [preB, List.all_eq_true, List.mem_range] at hc
    have := hc j hj
    simp [hk] at this
    exact this
  have haux2 : ∀ j, j < N → ∀ s, aux j = some s → ∀ i, i < N → dstOf ops i = some s → ancB ops ops.size j i = true := by
    intro j hj s hs i hi hd
    simp only [chkA, List.all_eq_true, List.mem_range] at haux
    have := haux j hj i hi
    simp only [hs, hd] at this
    simpa using this
  simp only [chkG, Bool.and_eq_true, List.all_eq_true, List.mem_range, decide_eq_true_eq] at hchk
  obtain ⟨⟨⟨⟨hb0, hd0⟩, hs0⟩, ht0⟩, hN⟩ := hchk
  have hback : ∀ i o, ops[i]? = some o → ∀ e ∈ o.after, Region.binds .any e = true → e.on < i := by
    intro i o ho e he hb
    have hi : i < ops.size := (Array.getElem?_eq_some_iff.1 ho).1
    have := hb0 i hi
    simp only [ho, Array.all_eq_true_iff_forall_mem] at this
    have := this e he
    simpa [hb] using this
  have hdist : ∀ i, i < N → ∀ j, j < N → i ≠ j → ∀ d, dstOf ops i = some d → dstOf ops j ≠ some d := by
    intro i hi j hj hij d hd hd2
    rcases Nat.lt_or_gt_of_ne hij with hlt | hgt
    · have := hd0 j hj i hlt
      simp [hd, hd2] at this
    · have := hd0 i hi j hgt
      simp [hd, hd2] at this
  have hsz : ∀ i, i < N → ∀ d, dstOf ops i = some d → d < a0.tmps.size := by
    intro i hi d hd
    have := hs0 i hi
    simpa [hd] using this
  have htail : ∀ k, N ≤ k → k < ops.size → ∀ j, j < k → ancB ops ops.size k j = true := by
    intro k hk hkl j hj
    have := ht0 k hkl
    simp only [Bool.or_eq_true, decide_eq_true_eq, List.all_eq_true, List.mem_range] at this
    rcases this with h | h
    · omega
    · exact h j hj
  have main : ∀ (fuel : Nat) (l : Array Bool), l.size = ops.size → unl l = fuel → (∀ k, N ≤ k → k < ops.size → l.getD k false = false) → (∀ i o, l.getD i false = true → ops[i]? = some o → ∀ e ∈ o.after, Region.binds .any e = true → l.getD e.on false = true) →
      ∀ a w', RFactsG ops N a0 w.drew (G true) a w' → ((∀ j, j < N → kind j = true → l.getD j false = false) → G false w.drew w') → (∀ i, i < N → l.getD i false = true → Φ i (slotA ops aux a i) w') → wpAny P .any ops Q fuel l a w' := by
    intro fuel
    induction fuel with
    | zero =>
      intro l hl hu hnt hcl a w' hf hg0 hΦ
      have hall : ∀ i, i < ops.size → l.getD i false = true := fun i hi => unl_zero hu (by omega)
      have hNe : N = ops.size := by
        rcases Nat.lt_or_ge N ops.size with hlt | hge
        · have := hnt N (Nat.le_refl _) hlt
          rw [hall N hlt] at this
          cases this
        · omega
      refine any_tail htail hback 0 l N (Nat.le_refl _) hl hu (fun j hj => ⟨fun _ => by omega, fun _ => hall j hj⟩) a w' (h2 a w' hf fun i hi => hΦ i hi (hall i (by omega)))
    | succ fuel ih =>
      intro l hl hu hnt hcl a w' hf hg0 hΦ
      by_cases hpre : ∀ i, i < N → l.getD i false = true
      · refine any_tail htail hback (fuel + 1) l N (Nat.le_refl _) hl hu (fun j hj => ⟨fun hlj => ?_, fun hj => hpre j hj⟩) a w' (h2 a w' hf fun i hi => hΦ i hi (hpre i hi))
        rcases Nat.lt_or_ge j N with hlt | hge
        · exact hlt
        · rw [hnt j hge hj] at hlj; cases hlj
      · refine ⟨fun hr => ?_, fun i hi => ?_⟩
        · exact (hpre fun i hi => ready_nil_all hback hl hr (by omega)).elim
        · obtain ⟨g1, o, ho, he⟩ := mem_ready.1 hi
          obtain ⟨g2, g3⟩ := getD_of_false g1
          have hiN : i < N := by
            rcases Nat.lt_or_ge i N with hlt | hge
            · exact hlt
            · refine (hpre fun j hj => ?_).elim
              exact ready_anc hcl ho he (htail i hge (by omega) j (by omega))
          have hedge : ∀ o', ops[i]? = some o' → ∀ e ∈ o'.after, Region.binds .any e = true → Φ e.on (slotA ops aux a e.on) w' := by
            intro o' ho' e he' hb
            rw [ho] at ho'
            injection ho' with ho'
            subst ho'
            have hlt := hback i o ho e he' hb
            exact hΦ e.on (by omega) (he e he' hb)
          have hf' : RFactsG ops N a0 w.drew (G (!preB ops N kind i)) a w' := by
            refine ⟨hf.size, hf.defers, ?_, hf.keep⟩
            cases hp : preB ops N kind i with
            | false => exact hf.rel
            | true =>
              refine hg0 fun j hj hk => ?_
              cases hlj : l.getD j false with
              | false => rfl
              | true =>
                rcases hpreB i hp j hj hk with h | h
                · subst h; rw [g3] at hlj; cases hlj
                · have := anc_listed hcl _ _ _ hlj h
                  rw [g3] at this
                  cases this
          refine wpOp_mono ?_ (h1 i hiN a w' hf' hedge)
          rintro a' w2 ⟨v, rfl, hv, hg⟩
          refine ih _ (by simpa using hl) (by have := unl_set g1; omega) (fun k hk hks => ?_) (fun k ok hlk hok e hem hb => ?_) _ w2 ?_ (fun hno => ?_) ?_
          · rw [getD_set, if_neg (by omega)]
            exact hnt k hk hks
          · rw [getD_set] at hlk ⊢
            by_cases hik : i = k
            · subst hik
              rw [ho] at hok
              injection hok with hok
              subst hok
              split
              · rfl
              · exact he e hem hb
            · rw [if_neg (fun h => hik h.1)] at hlk
              split
              · rfl
              · exact hcl k ok hlk hok e hem hb
          · refine ⟨by rw [size_put]; exact hf.size, by rw [defers_put]; exact hf.defers, hG.trans _ _ _ _ hf.rel (hG.any hg), fun s hs => ?_⟩
            rw [getD_put, if_neg (fun h => hs i hiN h.1)]
            exact hf.keep s hs
          · have hki : kind i = false := by
              cases hk : kind i with
              | false => rfl
              | true =>
                have := hno i hiN hk
                rw [getD_set, if_pos ⟨rfl, by omega⟩] at this
                cases this
            refine hG.trans _ _ _ _ (hg0 fun j hj hk => ?_) (by rw [hki] at hg; exact hg)
            have := hno j hj hk
            rw [getD_set] at this
            split at this
            · cases this
            · exact this
          · intro j hj hlj
            unfold slotA
            by_cases hij : i = j
            · subst hij
              unfold outA at hv
              cases hd : dstOf ops i with
              | none =>
                simp only [hd] at hv
                dsimp only
                cases ha : aux i with
                | none => simpa only [ha] using hv
                | some s =>
                  simp only [ha] at hv
                  dsimp only
                  rw [getD_put, if_neg (by simp)]
                  exact hv
              | some d =>
                simp only [hd] at hv
                dsimp only
                rw [getD_put, if_pos ⟨rfl, by rw [hf.size]; exact hsz i hiN d hd⟩]
                exact hv
            · rw [getD_set, if_neg (fun h => hij h.1)] at hlj
              have hanc : ancB ops ops.size j i = false := by
                cases hb : ancB ops ops.size j i with
                | false => rfl
                | true =>
                  have := anc_listed hcl _ _ _ hlj hb
                  rw [g3] at this
                  cases this
              have hg' : G (!clsB ops N kind j) w' w2 := by
                cases hc : clsB ops N kind j with
                | false => exact hG.any hg
                | true =>
                  cases hk : kind i with
                  | false => rw [hk] at hg; exact hg
                  | true =>
                    rcases hcls j hc i hiN hk with h | h
                    · exact (hij h).elim
                    · rw [hanc] at h; cases h
              have hold := hstab j hj _ _ _ (hΦ j hj hlj) hg'
              unfold slotA at hold
              cases hd : dstOf ops j with
              | none =>
                simp only [hd] at hold ⊢
                cases ha : aux j with
                | none => simp only [ha] at hold ⊢; exact hold
                | some s =>
                  simp only [ha] at hold ⊢
                  rw [getD_put, if_neg (fun h => by
                    have := haux2 j hj s ha i hiN h.1
                    rw [hanc] at this
                    cases this)]
                  exact hold
              | some d =>
                simp only [hd] at hold ⊢
                rw [getD_put, if_neg (fun h => hdist j hj i hiN (fun e => hij e.symm) d hd h.1)]
                exact hold
  refine main ops.size _ (by simp) ?_ (fun k _ _ => ?_) (fun i o h => ?_) a0 _ ⟨rfl, rfl, hG.refl _ _, fun _ _ => rfl⟩ (fun _ => hG.refl _ _) (fun i _ h => ?_)
  · show (Array.replicate ops.size false).toList.countP _ = _
    rw [Array.toList_replicate, List.countP_replicate]
    simp
  · simp [Array.getD]
  · simp [Array.getD] at h
  · simp [Array.getD] at h


theorem wpAny_phiA {a0 : Act} {w : World} (N : Nat) (aux : Nat → Option Tmp) (haux : chkA ops N aux = true) {G : Bool → World → World → Prop} (hG : RelOk G) (kind : Nat → Bool) (Φ : Nat → Value → World → Prop)
    (hchk : chkG ops N a0.tmps.size = true)
    (hstab : ∀ i, i < N → ∀ v w w', Φ i v w → G (!clsB ops N kind i) w w' → Φ i v w')
    (h1 : ∀ i, i < N → ∀ a w', RFactsG ops N a0 w.drew (G (!preB ops N kind i)) a w' → (∀ j, depB ops i j = true → Φ j (slotA ops aux a j) w') →
      wpOp P ops Q i (fun a' w2 => ∃ v, a' = a.put (dstOf ops i) v ∧ Φ i (outA ops aux i a v) w2 ∧ G (kind i) w' w2) a w')
    (h2 : ∀ a w', RFactsG ops N a0 w.drew (G true) a w' → (∀ i, i < N → Φ i (slotA ops aux a i) w') → wpList P ops Q (ops.toList.drop N) a w') :
    wpAny P .any ops Q ops.size (Array.replicate ops.size false) a0 { w with drawn := w.drawn + 1 } := by
  have hN : N ≤ ops.size := by
    simp only [chkG, Bool.and_eq_true, decide_eq_true_eq] at hchk
    exact hchk.2
  have hb0 : ∀ i, i < ops.size → ∀ o, ops[i]? = some o → ∀ e ∈ o.after, Region.binds .any e = true → e.on < i := by
    simp only [chkG, Bool.and_eq_true, List.all_eq_true, List.mem_range] at hchk
    intro i hi o ho e he hb
    have := hchk.1.1.1.1 i hi
    simp only [ho, Array.all_eq_true_iff_forall_mem] at this
    have := this e he
    simpa [hb] using this
  refine wpAny_factsA N aux haux hG kind (fun i v w => i < N → Φ i v w) hchk (fun i _ v w w' h hg hi => hstab i hi v w w' (h hi) hg) (fun i hi a w' hf he => ?_) (fun a w' hf h => h2 a w' hf fun i hi => h i hi hi)
  refine wpOp_mono ?_ (h1 i hi a w' hf fun j hj => ?_)
  · rintro a' w2 ⟨v, h1, h2, h3⟩
    exact ⟨v, h1, fun _ => h2, h3⟩
  · unfold depB at hj
    split at hj
    · rename_i o ho
      rw [Array.any_eq_true'] at hj
      obtain ⟨e, hm2, hx⟩ := hj
      simp at hx
      obtain ⟨hx1, rfl⟩ := hx
      exact he o ho e hm2 hx1 (by have := hb0 i (by omega) o ho e hm2 hx1; omega)
    · cases hj

theorem wp_region_aux {id : Nat} {a0 : Act} {w : World} (hm : P.follows .mixedOrders = true) (N : Nat) (aux : Nat → Option Tmp) (haux : chkA ops N aux = true) {G : Bool → World → World → Prop} (hG : RelOk G) (kind : Nat → Bool) (Φ : Nat → Value → World → Prop)
    (hchk : chkG ops N a0.tmps.size = true)
    (hstab : ∀ i, i < N → ∀ v w w', Φ i v w → G (!clsB ops N kind i) w w' → Φ i v w')
    (h1 : ∀ i, i < N → ∀ a w', RFactsG ops N a0 w.drew (G (!preB ops N kind i)) a w' → (∀ j, depB ops i j = true → Φ j (slotA ops aux a j) w') →
      wpOp P ops Q i (fun a' w2 => ∃ v, a' = a.put (dstOf ops i) v ∧ Φ i (outA ops aux i a v) w2 ∧ G (kind i) w' w2) a w')
    (h2 : ∀ a w', RFactsG ops N a0 w.drew (G true) a w' → (∀ i, i < N → Φ i (slotA ops aux a i) w') → wpList P ops Q (ops.toList.drop N) a w') :
    (Code.region id ops true).wp P Q a0 w :=
  wp_region_any hm (wpAny_phiA N aux haux hG kind Φ hchk hstab h1 h2)

end Go.Proofs.YtaldlapnhhhclaaGreat.Tw
/- Contracts of the package resync: gets; Take. Conditions: at most 10^9 operations. -/
namespace Go.Proofs.YtaldlapnhhhclaaGreat.Rsy
open Go.RowKit Tw Bt Disk Slots Copying Go.Proofs.YtaldlapnhhhclaaGreat.Data
set_option maxHeartbeats 4000000
set_option maxRecDepth 100000
def MBox (w : World) (k : Nat) : Prop := ∃ cs : Array Value, w.heap[k]? = some (.cells cs 25 (0, 0)) ∧ cs.size = 6
def getG (N0 p g mb c : Nat) (D1 : Dsk) : Bool → World → World → Prop
  | false, u, v => Fr (fun _ => False) u v
  | true, u, v => Fr (fun k => k = p ∨ k = g ∨ k = mb ∨ N0 ≤ k) u v ∧ (Dk u p g mb c D1 → Dk v p g mb c D1) ∧ ∀ k, N0 ≤ k → MBox u k → MBox v k
theorem MBox.fr {w w' : World} {k : Nat} {S : Nat → Prop} (h : MBox w k) (hf : Fr S w w') (hs : ¬ S k) : MBox w' k := by
  obtain ⟨cs, h1, h2⟩ := h
  exact ⟨cs, heap_fr h1 hf hs, h2⟩
theorem getG_ok (N0 p g mb c : Nat) (D1 : Dsk) : RelOk (getG N0 p g mb c D1) where
  refl b w := by
    cases b with
    | false => exact Fr.refl _ _
    | true => exact ⟨Fr.refl _ _, fun h => h, fun _ _ h => h⟩
  trans b u v w h k := by
    cases b with
    | false => exact Fr.trans h k (fun _ _ e => e)
    | true => exact ⟨Fr.trans h.1 k.1 (fun _ _ e => e), fun hd => k.2.1 (h.2.1 hd), fun i hi hm => k.2.2 i hi (h.2.2 i hi hm)⟩
  up u v h := by
    have h' : Fr (fun _ => False) u v := h
    exact ⟨h'.mono (fun _ _ e => e.elim), fun hd => hd.fr h' (fun e => e) (fun e => e) (fun e => e), fun k _ hm => hm.fr h' (fun e => e)⟩
/-- a call that turns the disk alone -/
theorem getG_call {N0 p g mb c : Nat} {D1 : Dsk} {u v : World} (hf : Fr (fun k => k = p ∨ k = g ∨ k = mb) u v) (hd : Dk v p g mb c D1) (hp : p < N0 ∧ g < N0 ∧ mb < N0) : getG N0 p g mb c D1 true u v :=
  ⟨hf.mono (fun k _ e => by rcases e with e | e | e <;> simp [e]), fun _ => hd, fun k hk hm => hm.fr hf (by omega)⟩
/-- a store into a box of a message -/
theorem getG_store {N0 p g mb c B : Nat} {D1 : Dsk} {u v : World} {cs : Array Value} (hf : Fr (fun k => k = B) u v) (hb : N0 ≤ B) (hc : v.heap[B]? = some (.cells cs 25 (0, 0))) (hs : cs.size = 6) (hp : p < N0 ∧ g < N0 ∧ mb < N0) : getG N0 p g mb c D1 true u v :=
  ⟨hf.mono (fun k _ e => .inr (.inr (.inr (by have e2 : k = B := e; omega)))), fun hd => hd.fr hf (by omega) (by omega) (by omega), fun k hk hm => by
    by_cases e : k = B
    · subst e; exact ⟨cs, hc, hs⟩
    · exact hm.fr hf e⟩
section
variable {w w' : World} {br bp p g mb c : Nat} {R : Rs} {D : Dsk}
theorem c_gets (h : RAt w br bp p g mb c R D) (ho : D.ops + 1030 < 1000000000) (k i x : Int) (m : Nat) (wb : Bool) (A : Option Addr) (n cb : Nat) (b : List UInt8) (hx : -9223372036854775808 ≤ x ∧ x ≤ 9223372036854775807) (hb : Byt w A n cb b) (hA : ∀ ad, A = some ad → 0 < n → ad.block ≠ p ∧ ad.block ≠ mb) (hw1 : (dWrite D (whole x).1 (whole x).2 b).1.ops ≤ D.ops + 1024) (hw2 : (dWrite D (whole x).1 (whole x).2 b).1.flush.1.ops ≤ D.ops + 1025) :
    Calls Tryz.prog 101 #[.pointer (some ⟨br, 0, none⟩), .agg (msV k i x m wb A n cb).toArray] w fun e w' => ∃ A' n' c', e = .returned (.tuple #[.slice A' n' c', .int .i64 ((rgets D R k i x m wb n b).2.2.2 : Int)]) ∧ Outs.Out w' w.heap.size A' n' c' (rgets D R k i x m wb n b).2.2.1 ∧ RAt w' br bp p g mb c (rgets D R k i x m wb n b).2.1 (rgets D R k i x m wb n b).1 ∧ Fr (RS br bp p g mb) w w' := by
  have hB0 := (Below.refl w.heap.size w).alloc (Nat.le_refl _) (.cells (msV k i x m wb A n cb).toArray 25)
  have HX := Lib.hid (heap_alloc_new w (.cells (msV k i x m wb A n cb).toArray 25))
  have HF := Lib.hid (Fr.of_bel (S := RS br bp p g mb) hB0)
  have H := Lib.hid (h.bel hB0)
  have Hb := Lib.hid (hb.bel hB0)
  have hlt := h.lts
  have hct := fun W (hd : Dk W p g mb c D) (hb : Byt W A n cb b) => c_PutX hd ho k i x m wb A n cb b hx hb hA hw1 hw2
  have hll := H.out.lt.2
  have hwl := without_lt hll x
  unfold rgets
  obtain ⟨⟨D1, E⟩, hD⟩ : ∃ r, cputM D k i x m wb n b = r := ⟨_, rfl⟩
  rw [hD] at hct ⊢
  simp only [told_ms] at hct ⊢
  clear h hB0 hb hD hA
  obtain ⟨ROW, hROW⟩ : ∃ r, r = msV (tK E) 0 (gO E x) 0 false none 0 0 := ⟨_, rfl⟩
  rw [← hROW] at hct
  have Hrow := Lib.hid hROW
  have Hrs : Hid (ROW.toArray.size = 6) := Lib.hid (by rw [hROW]; rfl)
  have Hro : Hid (∀ v ∈ ROW.toArray, v.oneCell' = true) := Lib.hid (by rw [hROW]; exact ms_one)
  clear hROW
  go_enter Tryz.func101, Tryz.ntmps101
  go_upto_region 1 with (fail)
  have hs1 : (w.alloc (.cells (msV k i x m wb A n cb).toArray 25)).heap.size = w.heap.size + 1 := by simp
  generalize w.alloc (.cells (msV k i x m wb A n cb).toArray 25) = W1 at *
  refine wp_region_aux (by kernel_rfl) 12 (fun i_ => match i_ with | 10 => some 6 | _ => none) (by kernel_rfl) (getG_ok (w.heap.size + 1) p g mb c D1) (fun i_ => match i_ with | 5 => true | 10 => true | _ => false) (fun i_ v wz => match i_ with
    | 0 => v = .pointer (some ⟨br, 0, none⟩)
    | 1 => v = .pointer (some ⟨br, 0, none⟩)
    | 2 => v = .pointer (some ⟨br, 1, none⟩)
    | 3 => v = .pointer (some ⟨p, 0, none⟩)
    | 4 => v = .agg (msV k i x m wb A n cb).toArray
    | 5 => v = .tuple #[.agg ROW.toArray, .int .i64 (E : Int)] ∧ Dk wz p g mb c D1
    | 6 => v = .tuple #[.agg ROW.toArray, .int .i64 (E : Int)] ∧ Dk wz p g mb c D1
    | 7 => v = .agg ROW.toArray
    | 8 => v = .int .i64 (E : Int)
    | 9 => ∃ B, v = .pointer (some ⟨B, 0, none⟩) ∧ w.heap.size + 1 ≤ B ∧ MBox wz B
    | 10 => ∃ B, v = .pointer (some ⟨B, 0, none⟩) ∧ w.heap.size + 1 ≤ B ∧ wz.heap[B]? = some (.cells ROW.toArray 25 (0, 0))
    | 11 => v = .int .i64 (E : Int)
    | _ => True) (by kernel_rfl) ?_ ?_ ?_
  · (repeat' (first | exact allLt_zero | refine allLt_succ ?_ ?_))
    · exact fun _ _ _ h _ => h
    · exact fun _ _ _ h _ => h
    · exact fun _ _ _ h _ => h
    · exact fun _ _ _ h _ => h
    · exact fun _ _ _ h _ => h
    · intro v w1 w2 h hg
      rw [show (!clsB _ _ _ _) = true from by kernel_rfl] at hg
      have hg2 : Fr _ w1 w2 ∧ (Dk w1 p g mb c D1 → Dk w2 p g mb c D1) ∧ _ := hg
      exact ⟨h.1, hg2.2.1 h.2⟩
    · intro v w1 w2 h hg
      rw [show (!clsB _ _ _ _) = true from by kernel_rfl] at hg
      have hg2 : Fr _ w1 w2 ∧ (Dk w1 p g mb c D1 → Dk w2 p g mb c D1) ∧ _ := hg
      exact ⟨h.1, hg2.2.1 h.2⟩
    · exact fun _ _ _ h _ => h
    · exact fun _ _ _ h _ => h
    · intro v w1 w2 h hg
      rw [show (!clsB _ _ _ _) = true from by kernel_rfl] at hg
      have hg2 : Fr _ w1 w2 ∧ (Dk w1 p g mb c D1 → Dk w2 p g mb c D1) ∧ ∀ k, w.heap.size + 1 ≤ k → MBox w1 k → MBox w2 k := hg
      obtain ⟨B, e1, e2, e3⟩ := h
      exact ⟨B, e1, e2, hg2.2.2 B e2 e3⟩
    · intro v w1 w2 h hg
      rw [show (!clsB _ _ _ _) = false from by kernel_rfl] at hg
      obtain ⟨B, e1, e2, e3⟩ := h
      exact ⟨B, e1, e2, heap_fr e3 (show Fr (fun _ => False) w1 w2 from hg) (fun e => e)⟩
    · exact fun _ _ _ h _ => h
  · (repeat' (first | exact allLt_zero | refine allLt_succ ?_ ?_))
    · intro a w' hf he
      have k0 : a.tmps.getD 0 undef = .pointer (some ⟨br, 0, none⟩) := hf.var (by kernel_rfl) rfl
      refine wpOp_step rfl (fun K hK => ?_)
      go_simp
      exact hK _ _ ⟨_, rfl, rfl, (getG_ok (w.heap.size + 1) p g mb c D1).refl _ _⟩
    · intro a w' hf he
      have f0 : a.tmps.getD 9 undef = .pointer (some ⟨br, 0, none⟩) := he 0 (by kernel_rfl)
      refine wpOp_step rfl (fun K hK => ?_)
      go_simp
      exact hK _ _ ⟨_, rfl, rfl, (getG_ok (w.heap.size + 1) p g mb c D1).refl _ _⟩
    · intro a w' hf he
      have f1 : a.tmps.getD 10 undef = .pointer (some ⟨br, 0, none⟩) := he 1 (by kernel_rfl)
      rw [show (!preB _ _ _ _) = false from by kernel_rfl] at hf
      refine wpOp_step rfl (fun K hK => ?_)
      go_simp
      exact hK _ _ ⟨_, rfl, rfl, (getG_ok (w.heap.size + 1) p g mb c D1).refl _ _⟩
    · intro a w' hf he
      have f2 : a.tmps.getD 11 undef = .pointer (some ⟨br, 1, none⟩) := he 2 (by kernel_rfl)
      rw [show (!preB _ _ _ _) = false from by kernel_rfl] at hf
      have hfr : Fr (fun _ => False) _ w' := hf.rel
      have hx := heap_fr (w := W1.drew) H.out.rb hfr (fun e => e)
      have dd : w'.cell? ⟨br, 1, none⟩ = some (.pointer (some ⟨p, 0, none⟩)) := by simp [World.cell?, hx]
      clear hx
      refine wpOp_step rfl (fun K hK => ?_)
      go_simp
      exact hK _ _ ⟨_, rfl, rfl, (getG_ok (w.heap.size + 1) p g mb c D1).refl _ _⟩
    · intro a w' hf he
      have k3 : a.tmps.getD 3 undef = .pointer (some ⟨w.heap.size, 0, none⟩) := hf.var (by kernel_rfl) rfl
      rw [show (!preB _ _ _ _) = false from by kernel_rfl] at hf
      have hfr : Fr (fun _ => False) _ w' := hf.rel
      have hx := heap_fr (w := W1.drew) HX.out hfr (fun e => e)
      refine wpOp_step rfl (fun K hK => ?_)
      refine wp_load_rd 25 (.tmp 3) rfl ⟨w.heap.size, 0, none⟩ k3 (msV k i x m wb A n cb) _ ((rd_of_heap (n := 6) hx rfl (by simp [maxLen])).cell _ rfl) Tryz.underlying25 rfl (by kernel_rfl) ?_
      exact hK _ _ ⟨_, rfl, rfl, (getG_ok (w.heap.size + 1) p g mb c D1).refl _ _⟩
    · intro a w' hf he
      have f3 : a.tmps.getD 12 undef = .pointer (some ⟨p, 0, none⟩) := he 3 (by kernel_rfl)
      have f4 : a.tmps.getD 13 undef = .agg (msV k i x m wb A n cb).toArray := he 4 (by kernel_rfl)
      rw [show (!preB _ _ _ _) = false from by kernel_rfl] at hf
      have hfr : Fr (fun _ => False) W1 w' := ⟨hf.rel.os, hf.rel.tape, hf.rel.output, hf.rel.size, hf.rel.block⟩
      have hd := H.out.dk.fr hfr (fun e => e) (fun e => e) (fun e => e)
      refine wpOp_step rfl (fun K hK => ?_)
      go_simp
      refine (hct _ hd (Hb.out.fr hfr (fun _ _ e => e))).mono ?_
      rintro e w2 ⟨rfl, hk2, f2⟩
      exact hK _ _ ⟨_, rfl, ⟨rfl, hk2⟩, getG_call f2 hk2 (by omega)⟩
    · intro a w' hf he
      obtain ⟨hv5, hk5⟩ := he 5 (by kernel_rfl)
      have f5 : a.tmps.getD 14 undef = _ := hv5
      refine wpOp_step rfl (fun K hK => ?_)
      go_simp
      exact hK _ _ ⟨_, rfl, ⟨rfl, hk5⟩, (getG_ok (w.heap.size + 1) p g mb c D1).refl _ _⟩
    · intro a w' hf he
      obtain ⟨hv6, hk6⟩ := he 6 (by kernel_rfl)
      have f6 : a.tmps.getD 8 undef = _ := hv6
      rw [show (!preB _ _ _ _) = true from by kernel_rfl] at hf
      refine wpOp_step rfl (fun K hK => ?_)
      go_simp
      exact hK _ _ ⟨_, rfl, rfl, (getG_ok (w.heap.size + 1) p g mb c D1).refl _ _⟩
    · intro a w' hf he
      obtain ⟨hv6, hk6⟩ := he 6 (by kernel_rfl)
      have f6 : a.tmps.getD 8 undef = _ := hv6
      rw [show (!preB _ _ _ _) = true from by kernel_rfl] at hf
      refine wpOp_step rfl (fun K hK => ?_)
      go_simp
      exact hK _ _ ⟨_, rfl, rfl, (getG_ok (w.heap.size + 1) p g mb c D1).refl _ _⟩
    · intro a w' hf he
      rw [show (!preB _ _ _ _) = true from by kernel_rfl] at hf
      have hf2 : Fr _ W1.drew w' ∧ _ := hf.rel
      have hsz : W1.heap.size ≤ w'.heap.size := hf2.1.size
      refine wpOp_step rfl (fun K hK => ?_)
      go_simp
      exact hK _ _ ⟨_, rfl, ⟨_, rfl, by omega, ⟨_, heap_alloc_new _ _, rfl⟩⟩, Fr.alloc _⟩
    · intro a w' hf he
      obtain ⟨B9, hv9, hb9, hm9⟩ := he 9 (by kernel_rfl)
      have f9 : a.tmps.getD 6 undef = _ := hv9
      have f7 : a.tmps.getD 15 undef = .agg ROW.toArray := he 7 (by kernel_rfl)
      rw [show (!preB _ _ _ _) = true from by kernel_rfl] at hf
      obtain ⟨cs, hc1, hc2⟩ := hm9
      refine wpOp_step rfl (fun K hK => ?_)
      refine wp_store_row 25 (.tmp 6) (.tmp 15) rfl B9 ROW.toArray f9 f7 25 cs hc1 (by rw [Hrs.out]; kernel_rfl) (by rw [hc2, Hrs.out]) (Array.all_eq_true_iff_forall_mem.2 Hro.out) ?_
      exact hK _ _ ⟨_, rfl, ⟨B9, f9, hb9, setRow_heap _ _ _ _ _ _ hc1⟩, getG_store (Fr.grown (S := fun k => k = B9) (grown_setRow _ _ _) (by rintro k ⟨⟩; rfl)) hb9 (setRow_heap _ _ _ _ _ _ hc1) Hrs.out (by omega)⟩
    · intro a w' hf he
      have f8 : a.tmps.getD 16 undef = .int .i64 (E : Int) := he 8 (by kernel_rfl)
      rw [show (!preB _ _ _ _) = true from by kernel_rfl] at hf
      refine wpOp_step rfl (fun K hK => ?_)
      go_simp
      exact hK _ _ ⟨_, rfl, rfl, (getG_ok (w.heap.size + 1) p g mb c D1).refl _ _⟩
  · intro a w' hf he
    obtain ⟨u9, f0⟩ : ∃ u, a.tmps.getD 9 undef = u := ⟨_, rfl⟩
    obtain ⟨u10, f1⟩ : ∃ u, a.tmps.getD 10 undef = u := ⟨_, rfl⟩
    obtain ⟨u11, f2⟩ : ∃ u, a.tmps.getD 11 undef = u := ⟨_, rfl⟩
    obtain ⟨u12, f3⟩ : ∃ u, a.tmps.getD 12 undef = u := ⟨_, rfl⟩
    obtain ⟨u13, f4⟩ : ∃ u, a.tmps.getD 13 undef = u := ⟨_, rfl⟩
    obtain ⟨hv5, hk5⟩ := he 5 (by decide)
    have f5 : a.tmps.getD 14 undef = _ := hv5
    obtain ⟨u8, f6⟩ : ∃ u, a.tmps.getD 8 undef = u := ⟨_, rfl⟩
    obtain ⟨u15, f7⟩ : ∃ u, a.tmps.getD 15 undef = u := ⟨_, rfl⟩
    obtain ⟨u16, f8⟩ : ∃ u, a.tmps.getD 16 undef = u := ⟨_, rfl⟩
    obtain ⟨B9, hv9, hb9, hm9⟩ := he 9 (by decide)
    have f9 : a.tmps.getD 6 undef = _ := hv9
    obtain ⟨B10, hv10, hb10, hr10⟩ := he 10 (by decide)
    have l10 : _ = a.tmps.getD 6 undef := f9.symm
    replace l10 := l10.trans (show a.tmps.getD 6 undef = _ from hv10)
    clear hv10
    have f11 : a.tmps.getD 7 undef = .int .i64 (E : Int) := he 11 (by decide)
    have hlit := hf.lit ((9, u9) :: (10, u10) :: (11, u11) :: (12, u12) :: (13, u13) :: (14, _) :: (8, u8) :: (15, u15) :: (16, u16) :: (6, _) :: (7, .int .i64 (E : Int)) :: []) (by kernel_rfl) ⟨f0, f1, f2, f3, f4, f5, f6, f7, f8, f9, f11, trivial⟩
    have hB := hf.rel
    clear he hf f0 f1 f2 f3 f4 f5 f6 f7 f8 f9 f11 hv5 hv9
    subst hlit
    simp only [putAll_nil, putAll_cons, Act.put, List.setIfInBounds_toArray, List.set_cons_zero, List.set_cons_succ]
    simp only [List.drop_succ_cons, List.drop_zero]
    obtain rfl : B10 = B9 := by
      simp only [Value.pointer.injEq, Option.some.injEq, Addr.mk.injEq] at l10
      exact l10.1.symm
    have hg1 : Fr (fun k => k = p ∨ k = g ∨ k = mb ∨ w.heap.size + 1 ≤ k) W1.drew w' ∧ _ := hB
    have f3 : Fr (fun k => k = p ∨ k = g ∨ k = mb ∨ w.heap.size + 1 ≤ k) W1 w' := ⟨hg1.1.os, hg1.1.tape, hg1.1.output, hg1.1.size, hg1.1.block⟩
    have HY := Lib.hid hr10
    have HX := Lib.hid (heap_fr HX.out f3 (by omega))
    have H1 : Hid (RAt w' br bp p g mb c R D1) := Lib.hid ⟨hk5, heap_fr H.out.rb f3 (by have := H.out.ne; omega), H.out.pb.fr f3 (by have := H.out.ne; omega), H.out.ne, H.out.lt⟩
    have HF := Lib.hid (HF.out.trans f3 (fun z hz e => by unfold RS; omega))
    have hsz := f3.size
    clear hB hg1 f3 hk5 hm9 hb9 hr10 hct H Hb Hro Hrs
    by_cases hE : E = 0
    · subst hE
      obtain rfl : ROW = (⟨7, x, [], none, 0⟩ : Outs.M).row := Hrow.out
      clear Hrow
      go_upto_region 4 with (fail)
      refine wp_region_phi (by kernel_rfl) 6 none (fun _ => false) (fun i_ v wz => match i_ with
        | 0 => v = .pointer (some ⟨br, 0, none⟩)
        | 1 => v = .pointer (some ⟨br, 0, none⟩)
        | 2 => v = .pointer (some ⟨br, 0, none⟩)
        | 3 => v = .pointer (some ⟨bp, 0, none⟩)
        | 4 => v = .pointer (some ⟨w.heap.size, 2, none⟩)
        | 5 => v = .int .i64 x
        | _ => True) (by kernel_rfl) ?_ ?_ ?_
      · (repeat' (first | exact allLt_zero | refine allLt_succ ?_ ?_))
        · exact fun _ _ _ h _ => h
        · exact fun _ _ _ h _ => h
        · exact fun _ _ _ h _ => h
        · exact fun _ _ _ h _ => h
        · exact fun _ _ _ h _ => h
        · exact fun _ _ _ h _ => h
      · (repeat' (first | exact allLt_zero | refine allLt_succ ?_ ?_))
        · intro a w' hf he
          have k0 : a.tmps.getD 0 undef = .pointer (some ⟨br, 0, none⟩) := hf.var (by kernel_rfl) rfl
          refine wpOp_step rfl (fun K hK => ?_)
          go_simp
          exact hK _ _ ⟨_, rfl, rfl, World.grownBy.refl _ _⟩
        · intro a w' hf he
          have f0 : a.tmps.getD 20 undef = .pointer (some ⟨br, 0, none⟩) := he 0 (by kernel_rfl)
          refine wpOp_step rfl (fun K hK => ?_)
          go_simp
          exact hK _ _ ⟨_, rfl, rfl, World.grownBy.refl _ _⟩
        · intro a w' hf he
          have f1 : a.tmps.getD 21 undef = .pointer (some ⟨br, 0, none⟩) := he 1 (by kernel_rfl)
          refine wpOp_step rfl (fun K hK => ?_)
          go_simp
          exact hK _ _ ⟨_, rfl, rfl, World.grownBy.refl _ _⟩
        · intro a w' hf he
          have f2 : a.tmps.getD 22 undef = .pointer (some ⟨br, 0, none⟩) := he 2 (by kernel_rfl)
          rw [show kindRow _ _ = none from by kernel_rfl] at hf
          have dd := (H1.out.bel hf.bel).cells.1
          refine wpOp_step rfl (fun K hK => ?_)
          go_simp
          exact hK _ _ ⟨_, rfl, rfl, World.grownBy.refl _ _⟩
        · intro a w' hf he
          have k3 : a.tmps.getD 3 undef = .pointer (some ⟨w.heap.size, 0, none⟩) := hf.var (by kernel_rfl) rfl
          refine wpOp_step rfl (fun K hK => ?_)
          go_simp
          exact hK _ _ ⟨_, rfl, rfl, World.grownBy.refl _ _⟩
        · intro a w' hf he
          have f4 : a.tmps.getD 24 undef = .pointer (some ⟨w.heap.size, 2, none⟩) := he 4 (by kernel_rfl)
          rw [show kindRow _ _ = none from by kernel_rfl] at hf
          have dd := (msc ((hf.bel.block _ (heap_lt HX.out)).trans HX.out)).2.1
          refine wpOp_step rfl (fun K hK => ?_)
          go_simp
          exact hK _ _ ⟨_, rfl, rfl, World.grownBy.refl _ _⟩
      · intro a w' hf he
        obtain ⟨u20, f0⟩ : ∃ u, a.tmps.getD 20 undef = u := ⟨_, rfl⟩
        obtain ⟨u21, f1⟩ : ∃ u, a.tmps.getD 21 undef = u := ⟨_, rfl⟩
        obtain ⟨u22, f2⟩ : ∃ u, a.tmps.getD 22 undef = u := ⟨_, rfl⟩
        have f3 : a.tmps.getD 23 undef = .pointer (some ⟨bp, 0, none⟩) := he 3 (by decide)
        obtain ⟨u24, f4⟩ : ∃ u, a.tmps.getD 24 undef = u := ⟨_, rfl⟩
        have f5 : a.tmps.getD 25 undef = .int .i64 x := he 5 (by decide)
        have hlit := hf.lit ((20, u20) :: (21, u21) :: (22, u22) :: (23, .pointer (some ⟨bp, 0, none⟩)) :: (24, u24) :: (25, .int .i64 x) :: []) (by kernel_rfl) ⟨f0, f1, f2, f3, f4, f5, trivial⟩
        have hB := hf.bel
        clear he hf f0 f1 f2 f3 f4 f5 
        subst hlit
        simp only [putAll_nil, putAll_cons, Act.put, List.setIfInBounds_toArray, List.set_cons_zero, List.set_cons_succ]
        simp only [List.drop_succ_cons, List.drop_zero]
        have H := Lib.hid (H1.out.bel hB)
        have HF := Lib.hid (HF.out.trans (Fr.of_bel (S := RS br bp p g mb) hB) (fun _ _ e => e))
        have HY := Lib.hid ((hB.block _ (heap_lt HY.out)).trans HY.out)
        have hsz := Nat.le_trans hsz hB.size
        clear hB HX H1
        have hrl : (⟨7, x, [], none, 0⟩ : Outs.M).row.length = 6 := rfl
        go_wp2_with (first
          | (go_at_call 154
             (with_reducible refine (Pln.c_Have H.out.pb hll x).mono ?_)
             rintro e w5 ⟨rfl, hp5, f5⟩
             have hHB := (Below.refl w5.heap.size w5).alloc (Nat.le_refl _) (.cells (⟨7, x, [], none, 0⟩ : Outs.M).row.toArray 25)
             have HR := Lib.hid ((H.out.plan hp5 hwl f5).bel hHB)
             have HF := Lib.hid ((HF.out.trans f5 (fun z _ e => by have e2 : z = bp := e; unfold RS; omega)).trans (Fr.of_bel (S := RS br bp p g mb) hHB) (fun _ _ e => e))
             have hsz := Nat.le_trans hsz f5.size
             have HY5 := Lib.hid (heap_fr HY.out f5 (by omega))
             have HZ := Lib.hid (heap_alloc_new w5 (.cells (⟨7, x, [], none, 0⟩ : Outs.M).row.toArray 25))
             clear hp5 f5 hHB)
          | (refine wpL_load_rd rfl 25 (.tmp 6) rfl _ rfl (⟨7, x, [], none, 0⟩ : Outs.M).row _ ((rd_of_heap (n := 6) HY5.out rfl (by simp [maxLen])).cell _ rfl) Tryz.underlying25 rfl (by kernel_rfl) ?_))
        go_ret2
        exact ⟨_, _, _, rfl, ⟨[⟨7, x, [], none, 0⟩], Outs.Says.one HZ.out (by omega) ⟨Rd.nil_, fun ad e => by cases e⟩, rfl⟩, HR.out, HF.out⟩
    · have hne : ((E : Int) != 0) = true := by simp; omega
      go_wp2_with fail
      go_ret2
      exact ⟨none, 0, 0, rfl, Outs.Out.nil _ _, H1.out, HF.out⟩
end
end Go.Proofs.YtaldlapnhhhclaaGreat.Rsy
/- Contracts of the package resync: greet, gives. Conditions: at most 10^9 operations. -/
namespace Go.Proofs.YtaldlapnhhhclaaGreat.Rsy
open Go.RowKit Tw Bt Disk Slots Copying Go.Proofs.YtaldlapnhhhclaaGreat.Data
set_option maxHeartbeats 4000000
set_option maxRecDepth 100000
/-- the first error of giving a list of extents -/
def gerr (D : Dsk) : List Nat → Nat
  | [] => 0
  | e :: l => if gE D (e : Int) = 0 then gerr D l else gE D (e : Int)
def gouts (D : Dsk) (l : List Nat) : List OM := l.map fun (e : Nat) => (6, (e : Int), gB D (e : Int))
theorem gerr_snoc (D : Dsk) (l : List Nat) (e : Nat) : gerr D (l ++ [e]) = if gerr D l = 0 then gE D (e : Int) else gerr D l := by
  induction l with
  | nil =>
    simp only [List.nil_append, gerr]
    by_cases h : gE D (e : Int) = 0
    · simp [h]
    · simp [h]
  | cons x l ih =>
    simp only [List.cons_append, gerr, ih]
    by_cases h : gE D (x : Int) = 0
    · simp [h]
    · simp [h]
theorem gerr_bad {D : Dsk} {l : List Nat} {i e : Nat} (hi : l[i]? = some e) (h0 : gerr D (l.take i) = 0) (he : gE D (e : Int) ≠ 0) : gerr D l = gE D (e : Int) := by
  induction l generalizing i with
  | nil => simp at hi
  | cons x l ih =>
    cases i with
    | zero =>
      simp only [List.getElem?_cons_zero, Option.some.injEq] at hi
      subst hi
      simp [gerr, he]
    | succ i =>
      simp only [List.take_succ_cons, gerr] at h0
      by_cases hx : gE D (x : Int) = 0
      · rw [if_pos hx] at h0
        simp only [gerr, if_pos hx]
        exact ih (by simpa using hi) h0
      · rw [if_neg hx] at h0
        exact absurd h0 hx
theorem take_next {l : List Nat} {i e : Nat} (hi : l[i]? = some e) : l.take (i + 1) = l.take i ++ [e] := by
  rw [List.take_add_one, hi]
  rfl
/-- all that the source tells at first -/
def rgives (D : Dsk) (R : Rs) : Rs × List OM × Nat :=
  if gerr D (upTo R.mask 64) = 0 then (if R.left = 0 then ({ R with over := true }, gouts D (upTo R.mask 64) ++ [(8, 0, [])], 0) else (R, gouts D (upTo R.mask 64), 0)) else (R, [], gerr D (upTo R.mask 64))
theorem rgives_err {D : Dsk} {R : Rs} {E : Nat} (h : gerr D (upTo R.mask 64) = E) (hE : E ≠ 0) : rgives D R = (R, [], E) := by
  unfold rgives
  rw [h, if_neg hE]
theorem rgives_end {D : Dsk} {R : Rs} (h : gerr D (upTo R.mask 64) = 0) (hz : R.left = 0) : rgives D R = ({ R with over := true }, gouts D (upTo R.mask 64) ++ [(8, 0, [])], 0) := by
  unfold rgives
  rw [if_pos h, if_pos hz]
theorem rgives_go {D : Dsk} {R : Rs} (h : gerr D (upTo R.mask 64) = 0) (hz : R.left ≠ 0) : rgives D R = (R, gouts D (upTo R.mask 64), 0) := by
  unfold rgives
  rw [if_pos h, if_neg hz]
theorem row_one (x : Outs.M) : ∀ v ∈ x.row, v.oneCell' = true := fun v hv => ms_one v (List.mem_toArray.2 hv)
section
variable {w w' : World} {br bp p g mb c : Nat} {R : Rs} {D : Dsk}
theorem c_greet (k i x : Int) (m : Nat) (wb : Bool) (A : Option Addr) (n cb : Nat) (w : World) : Calls Tryz.prog 54 #[.agg (msV k i x m wb A n cb).toArray] w fun e w' => e = .returned (.bool (decide (k = 1 ∧ Pack.Good k i x m wb n))) ∧ Below w.heap.size w w' := by
  have HB := Lib.hid ((Below.refl w.heap.size w).alloc (Nat.le_refl _) (.cells (msV k i x m wb A n cb).toArray 25))
  have HX := Lib.hid (heap_alloc_new w (.cells (msV k i x m wb A n cb).toArray 25))
  have e0 := (msc HX.out).1
  have hg := fun w => good_ms k i x m wb A n cb w
  obtain ⟨G, hG⟩ : ∃ G, decide (Pack.Good k i x m wb n) = G := ⟨_, rfl⟩
  rw [hG] at hg
  by_cases hk : k = 1
  · have hk2 : (k == 1) = true := by simpa using hk
    have hv : decide (k = 1 ∧ Pack.Good k i x m wb n) = G := by rw [← hG]; simp [hk]
    rw [hv]
    clear hk hv hG
    go_enter Tryz.func54, Tryz.ntmps54
    go_upto_region 1 with (fail)
    generalize w.alloc (.cells (msV k i x m wb A n cb).toArray 25) = W1 at *
    go_wp2_with (first
      | (refine wpL_load_rdG rfl 25 (.tmp 1) rfl ⟨w.heap.size, 0, none⟩ rfl (msV k i x m wb A n cb) _ ((rd_of_heap (n := 6) HX.out rfl (by simp [maxLen])).cell _ rfl) Tryz.underlying25 rfl (by kernel_rfl) ?_)
      | (go_at_call 85
         (with_reducible refine (hg _).mono ?_)
         rintro e w2 ⟨rfl, hb2⟩
         have HB2 := Lib.hid (HB.out.trans (hb2.mono HB.out.size))
         clear hb2 e0))
    go_ret
    exact ⟨rfl, HB2.out⟩
  · have hk2 : (k == 1) = false := by simpa using hk
    rw [decide_eq_false (fun e => hk e.1)]
    clear hk hG
    go_enter Tryz.func54, Tryz.ntmps54
    go_upto_region 1 with (fail)
    generalize w.alloc (.cells (msV k i x m wb A n cb).toArray 25) = W1 at *
    go_wp2_with fail
    go_ret
    exact ⟨rfl, HB.out⟩
theorem c_gives (h : RAt w br bp p g mb c R D) :
    Calls Tryz.prog 59 #[.pointer (some ⟨br, 0, none⟩)] w fun e w' => ∃ A' n' c', e = .returned (.tuple #[.slice A' n' c', .int .i64 ((rgives D R).2.2 : Int)]) ∧ Outs.Out w' w.heap.size A' n' c' (rgives D R).2.1 ∧ RAt w' br bp p g mb c (rgives D R).1 D ∧ Fr (fun k => k = br) w w' := by
  obtain ⟨k0, k1, k2, k3⟩ := h.cells
  have H := Lib.hid h
  have hlt := h.lts
  have hml := h.lt.1
  have hul := upTo_len R.mask 64
  have hum : ∀ i e, (upTo R.mask 64)[i]? = some e → e < 64 := fun i e hi => (mem_upTo.1 (List.mem_of_getElem? hi)).1
  clear h
  have HR3 := fun (E : Nat) => @rgives_err D R E
  have HR1 := @rgives_end D R
  have HR2 := @rgives_go D R
  have HAll := fun W (hp : Pln.At W bp R.mask R.left) => Pln.c_All hp hml
  generalize rgives D R = RES at *
  generalize upTo R.mask 64 = L at *
  go_enter Tryz.func59, Tryz.ntmps59
  go_wp2_with (first
    | (go_at_call 109
       (with_reducible refine (HAll _ H.out.pb).mono ?_)
       rintro e w1 ⟨A1, c1, rfl, ho1, hb1⟩
       have H := Lib.hid (H.out.bel hb1)
       have HB := Lib.hid hb1
       have HO := Lib.hid ho1
       clear ho1 hb1 HAll k0 k1 k2 k3))
  go_loopw [4, 15] (fun v4 v15 wr => ∃ (i n' c' : Nat) (A' : Option Addr) (l : List Outs.M), i ≤ L.length ∧ v15 = .int .i64 (i : Int) ∧ v4 = .slice A' n' c' ∧ Hid (Outs.Says wr w1.heap.size A' n' c' l) ∧ Hid (l.map Outs.M.said = gouts D (L.take i)) ∧ Hid (gerr D (L.take i) = 0) ∧ Hid (Below w1.heap.size w1 wr)) (fun _ v15 _ => L.length - (intOf v15).toNat)
  case atStart => exact ⟨0, 0, 0, none, [], Nat.zero_le _, rfl, rfl, Lib.hid (Outs.Says.nil _ _), Lib.hid (by simp [gouts]), Lib.hid (by simp [gerr]), Lib.hid (Below.refl _ _)⟩
  case round =>
    obtain ⟨i, n', c', A', l, hi, rfl, rfl, HS, HL, HE, HBr⟩ := hrel
    have HH := Lib.hid (H.out.bel HBr.out)
    obtain ⟨k0, k1, k2, k3⟩ := HH.out.cells
    have hn' := HS.out.1
    have hll : l.length = i := by
      have := congrArg List.length HL.out
      simp only [List.length_map, gouts, List.length_take] at this
      omega
    obtain rfl : n' = i := by omega
    clear hn' hll
    by_cases hin : n' < L.length
    · obtain ⟨ad, u, hA1, hu, hcu⟩ := (Tw.Own.rd (Tw.Own.bel HO.out HBr.out)).at1 (k := n') hin
      subst hA1
      obtain ⟨z, hz⟩ : ∃ z, L[n']? = some z := ⟨_, List.getElem?_eq_getElem hin⟩
      have hzu : u = .int .i64 (z : Int) := by
        have : (nsV L)[n']? = some (.int .i64 (z : Int)) := by simp [nsV, hz]
        rw [this] at hu
        injection hu with hu
        exact hu.symm
      subst hzu
      have hz64 := hum n' z hz
      have hcg := fun W (hd : Dk W p g mb c D) => c_GiveE hd (z : Int) (by omega)
      have hsn := gerr_snoc D (L.take n') z
      rw [← take_next hz, if_pos HE.out] at hsn
      have Hbad := Lib.hid (fun he => gerr_bad hz HE.out he)
      have Htn := Lib.hid (take_next hz)
      obtain ⟨E, hE⟩ : ∃ E, gE D (z : Int) = E := ⟨_, rfl⟩
      obtain ⟨t, ht⟩ : ∃ t, gB D (z : Int) = t := ⟨_, rfl⟩
      rw [hE, ht] at hcg
      rw [hE] at hsn
      have Hsn := Lib.hid hsn
      have HE2 := Lib.hid hE
      have Ht := Lib.hid ht
      clear hu hsn hE ht hz
      by_cases he : E = 0
      · subst he
        have hszw := Nat.le_trans HB.out.size HBr.out.size
        have hm6 : ∀ A c, (msV 6 0 (z : Int) 0 false A t.length c).length = 6 := fun _ _ => rfl
        rw [show gK 0 = 6 from rfl, show gO 0 (z : Int) = (z : Int) from rfl] at hcg
        go_wp2_with (first
        | (go_at_call 40
           (with_reducible refine (hcg _ HH.out.dk).mono ?_)
           rintro e w3 ⟨A3, c3, rfl, ⟨hby3, hA3⟩, hb3⟩
           have HB3 := Lib.hid (HBr.out.trans (hb3.mono HBr.out.size))
           have HS3 := Lib.hid (HS.out.bel hb3)
           have HY := Lib.hid hby3
           have HA3 := Lib.hid hA3
           have HZ := Lib.hid (heap_alloc_new w3 (.cells m0 25))
           have HZB := Lib.hid ((Below.refl w3.heap.size w3).alloc (Nat.le_refl _) (.cells m0 25))
           unfold m0 at HZ HZB
           clear hby3 hA3 hb3 hcg k0 k1 k2 k3 hcu)
        | (refine wpL_store_all rfl rfl 25 (.tmp 7) (.tmp 26) rfl _ rfl _ rfl _ _ HZ.out (by kernel_rfl) rfl ms_one ?_
           intro w4 x4 g4
           have hb4 := HZB.out.grown g4 HZB.out.size (by rintro k ⟨⟩; exact Nat.le_refl _)
           have HB4 := Lib.hid (HB3.out.trans (hb4.mono HB3.out.size))
           have HS4 := Lib.hid (HS3.out.bel hb4)
           have HY := Lib.hid (HY.out.bel hb4)
           have HX4 := Lib.hid x4
           have hsz4 := hb4.size
           clear x4 g4 hb4 HZ HZB)
        | (refine wpL_load_rd rfl 25 (.tmp 7) rfl _ rfl (msV 6 0 (z : Int) 0 false A3 t.length c3) _ ((rd_of_heap (n := 6) HX4.out rfl (by simp [maxLen])).cell _ rfl) Tryz.underlying25 rfl (by kernel_rfl) ?_
           have HW := Lib.hid ((Below.refl w4.heap.size w4).alloc (Nat.le_refl _) (.cells (msV 6 0 (z : Int) 0 false A3 t.length c3).toArray 25))
           have HWX := Lib.hid (heap_alloc_new w4 (.cells (msV 6 0 (z : Int) 0 false A3 t.length c3).toArray 25)))
        | (at_builtin
           refine wpL_append _ rfl (.tmp 31) (.tmp 33) _ rfl w1 w1.heap.size (HB4.out.trans (HW.out.mono HB4.out.size)) (Nat.le_trans HB4.out.size HW.out.size) 25 _ 6 64 Tryz.underlying33 Outs.info_m rfl (by omega) _ _ _ (Outs.rows l) rfl (HS4.out.bel HW.out).2.1 _ 1 1 (⟨6, (z : Int), t, A3, c3⟩ : Outs.M).row rfl (Outs.rd_elem HWX.out rfl) (row_one _) (n' + 1) (Outs.rows (l ++ [⟨6, (z : Int), t, A3, c3⟩])) rfl (by rw [Outs.rows_snoc]) (by unfold maxLen; omega) (by omega) ?_
           intro A9 c9 w9 hown9 hb9 hg9 ho9
           have HS9 : Hid (Outs.Says w9 w1.heap.size A9 (n' + 1) c9 (l ++ [⟨6, (z : Int), t, A3, c3⟩])) := Lib.hid (Outs.Says.append (m := [⟨6, (z : Int), t, A3, c3⟩]) (HS4.out.bel HW.out) (fun y hy => by rw [List.mem_singleton] at hy; subst hy; exact ⟨HY.out.bel HW.out, fun ad e => by have := HA3.out ad e; have := HBr.out.size; have := HW.out.size; omega⟩) (fun y hy ad q e1 e2 => by rw [List.mem_singleton] at hy; subst hy; have := HA3.out ad e1; have := (Tw.Own.at0 HS.out.2.1 q e2).2; omega) hg9 hown9 ho9)
           have HB9 := Lib.hid hb9
           clear hown9 hb9 hg9 ho9))
        go_roundw
        case rel => exact ⟨n' + 1, n' + 1, c9, A9, l ++ [⟨6, (z : Int), t, A3, c3⟩], by omega, by go_num, rfl, HS9, Lib.hid (by rw [List.map_append, HL.out, Htn.out]; simp [gouts, Outs.M.said, Ht.out]), Hsn, HB9⟩
        case measure => simp [intOf] <;> omega
      · have hne : ((E : Int) != 0) = true := by simp; omega
        go_wp2_with (first
        | (go_at_call 40
           (with_reducible refine (hcg _ HH.out.dk).mono ?_)
           rintro e w3 ⟨A3, c3, rfl, ⟨hby3, hA3⟩, hb3⟩
           have HB3 := Lib.hid (HBr.out.trans (hb3.mono HBr.out.size))
           have HS3 := Lib.hid (HS.out.bel hb3)
           have HY := Lib.hid hby3
           have HA3 := Lib.hid hA3
           have HZ := Lib.hid (heap_alloc_new w3 (.cells m0 25))
           have HZB := Lib.hid ((Below.refl w3.heap.size w3).alloc (Nat.le_refl _) (.cells m0 25))
           unfold m0 at HZ HZB
           clear hby3 hA3 hb3 hcg k0 k1 k2 k3 hcu)
        | (refine wpL_store_all rfl rfl 25 (.tmp 7) (.tmp 26) rfl _ rfl _ rfl _ _ HZ.out (by kernel_rfl) rfl ms_one ?_
           intro w4 x4 g4
           have hb4 := HZB.out.grown g4 HZB.out.size (by rintro k ⟨⟩; exact Nat.le_refl _)
           have HB4 := Lib.hid (HB3.out.trans (hb4.mono HB3.out.size))
           have HS4 := Lib.hid (HS3.out.bel hb4)
           have HY := Lib.hid (HY.out.bel hb4)
           have HX4 := Lib.hid x4
           have hsz4 := hb4.size
           clear x4 g4 hb4 HZ HZB)
        )
        go_ret2
        rw [HR3 E (by have := Hbad.out (by rw [HE2.out]; exact he); rw [HE2.out] at this; exact this) he]
        have hb := HB4.out
        exact ⟨none, 0, 0, rfl, Outs.Out.nil _ _, H.out.bel hb, (Fr.of_bel (S := fun k => k = br) HB.out).trans (Fr.of_bel (S := fun k => k = br) hb) (fun _ _ e => e)⟩
    · have hnL : n' = L.length := by omega
      have HL2 : Hid (l.map Outs.M.said = gouts D L) := Lib.hid (by rw [HL.out, hnL, List.take_length])
      have HE2 : Hid (gerr D L = 0) := Lib.hid (by have := HE.out; rw [hnL, List.take_length] at this; exact this)
      have HF := Lib.hid ((Fr.of_bel (S := fun k => k = br) HB.out).trans (Fr.of_bel (S := fun k => k = br) HBr.out) (fun _ _ e => e))
      have hszw := Nat.le_trans HB.out.size HBr.out.size
      have hs1 := HB.out.size
      clear HL HE hnL
      by_cases hz : R.left = 0
      · have Hz := Lib.hid (decide_eq_true hz)
        have hrl : last.row.length = 6 := rfl
        go_wp2_with (first
          | (go_at_call 110
             (with_reducible refine (Pln.c_Over HH.out.pb).mono ?_)
             rintro e w6 ⟨rfl, rfl⟩
             rw [Hz.out])
          | (go_at_call 111
             (with_reducible refine (c_end HH.out).mono ?_)
             rintro e w7 ⟨rfl, hr7, f7⟩
             have hHB := (Below.refl w7.heap.size w7).alloc (Nat.le_refl _) (.cells last.row.toArray 25)
             have HR := Lib.hid (hr7.bel hHB)
             have HS7 := Lib.hid ((HS.out.fr f7 (fun k e => by have e2 : k = br := e; omega)).bel hHB)
             have HF7 := Lib.hid ((HF.out.trans f7 (fun _ _ e => e)).trans (Fr.of_bel (S := fun k => k = br) hHB) (fun _ _ e => e))
             have hsz := Nat.le_trans hszw f7.size
             have hs17 := Nat.le_trans HBr.out.size f7.size
             have HY := Lib.hid (heap_alloc_new w7 (.cells last.row.toArray 25))
             have HYB := Lib.hid hHB
             clear hr7 f7 k0 k1 k2 k3 hHB)
          | (at_builtin
             refine wpL_append _ rfl (.tmp 41) (.tmp 44) _ rfl w7 w1.heap.size (HYB.out.mono hs17) (Nat.le_trans hs17 HYB.out.size) 25 _ 6 64 Tryz.underlying33 Outs.info_m rfl (by omega) _ _ _ (Outs.rows l) rfl HS7.out.2.1 _ 1 1 last.row rfl (Outs.rd_elem HY.out rfl) (row_one _) (n' + 1) (Outs.rows (l ++ [last])) rfl (by rw [Outs.rows_snoc]) (by unfold maxLen; omega) (by omega) ?_
             intro A9 c9 w9 hown9 hb9 hg9 ho9
             have HS9 : Hid (Outs.Says w9 w1.heap.size A9 (n' + 1) c9 (l ++ [last])) := Lib.hid (Outs.Says.append (m := [last]) HS7.out (fun y hy => by rw [List.mem_singleton] at hy; subst hy; exact ⟨Rd.nil_, fun ad e => by cases e⟩) (fun y hy ad q e1 e2 => by rw [List.mem_singleton] at hy; subst hy; cases e1) hg9 hown9 ho9)
             have f9 := Fr.grown (S := fun k => w1.heap.size ≤ k) hg9 (fun k e => by cases A' with
               | none => simp [Value.ownBlock] at e
               | some q => have e2 : k = q.block := by simpa [Value.ownBlock] using e
                           have := (Tw.Own.at0 HS7.out.2.1 q rfl).1
                           omega)
             have HR9 := Lib.hid (HR.out.fr f9 (fun k hk e => by unfold RS at hk; have e2 : w1.heap.size ≤ k := e; have := H.out.lts; omega))
             have HF9 := Lib.hid (HF7.out.trans f9 (fun k hk e => by have e2 : w1.heap.size ≤ k := e; omega))
             clear hown9 hb9 hg9 ho9 f9))
        go_ret2
        rw [HR1 HE2.out hz]
        exact ⟨A9, n' + 1, c9, rfl, ⟨l ++ [last], HS9.out.mono hs1, by rw [List.map_append, HL2.out]; rfl⟩, HR9.out, HF9.out⟩
      · have Hz := Lib.hid (decide_eq_false hz)
        go_wp2_with (first
          | (go_at_call 110
             (with_reducible refine (Pln.c_Over HH.out.pb).mono ?_)
             rintro e w6 ⟨rfl, rfl⟩
             rw [Hz.out]))
        go_ret2
        rw [HR2 HE2.out hz]
        exact ⟨A', n', c', rfl, ⟨l, HS.out.mono hs1, HL2.out⟩, HH.out, HF.out⟩
end
end Go.Proofs.YtaldlapnhhhclaaGreat.Rsy
