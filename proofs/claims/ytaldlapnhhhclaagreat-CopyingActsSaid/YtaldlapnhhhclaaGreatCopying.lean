/- Contracts of the package copying: Give, the steps of Put. Conditions: at most 10^9 operations. -/
import Derived.Test.YtaldlapnhhhclaaGreatB11
import Derived.Test.YtaldlapnhhhclaaGreatPack3
import Derived.Test.YtaldlapnhhhclaaGreatDataEx
set_option linter.unusedVariables false
set_option linter.unusedSimpArgs false
namespace Go.Proofs.YtaldlapnhhhclaaGreat.Copying
open Go.RowKit Tw Disk Go.Proofs.YtaldlapnhhhclaaGreat.Data
set_option maxHeartbeats 4000000
set_option maxRecDepth 100000
theorem wpL_load_rdG {P : Program} {ops : Array Oper} {rest : List Oper} {w : World} {o : Oper} {a : Act} {Q : Exit → Act → World → Prop} (hgd : Region.wanted o (yielded ops a.tmps) = true) (ty : TypeId) (x : Operand) (ho : o.op = .load ty x)
    (ad : Addr) (hx : a.eval x = .pointer (some ad)) (cs : List Value) (d : TypeDesc) (hc : ∀ j v, cs[j]? = some v → w.cell? (ad.add j) = some v)
    (hu : P.underlying ty = some d) (hd : d.isRow = true) (hi : (P.info? ty).map (·.size) = some cs.length) (h : wpList P ops Q rest (a.put o.dst (.agg cs.toArray)) w) : wpList P ops Q (o :: rest) a w :=
  wpList_step fun K hK => by
    rw [if_pos hgd]
    exact wp_load_rd ty x ho ad hx cs d hc hu hd hi (hK _ _ h)
/-- a message as cells -/
def msV (k i o : Int) (m : Nat) (wb : Bool) (A : Option Addr) (n cb : Nat) : List Value := [.int .i64 k, .int .i64 i, .int .i64 o, .int .u64 (m : Int), .bool wb, .slice A n cb]
def m0 : Array Value := #[.int .i64 0, .int .i64 0, .int .i64 0, .int .u64 0, .bool false, .slice none 0 0]
theorem ms_one {k i o : Int} {m : Nat} {wb : Bool} {A : Option Addr} {n cb : Nat} : ∀ v ∈ (msV k i o m wb A n cb).toArray, v.oneCell' = true := by
  intro v hv
  simp only [msV, List.mem_toArray, List.mem_cons, List.not_mem_nil, or_false] at hv
  rcases hv with rfl | rfl | rfl | rfl | rfl | rfl <;> rfl
theorem ms6 {W : World} {g : Nat} {k i o : Int} {m : Nat} {wb : Bool} {A : Option Addr} {n cb : Nat} {t : TypeId} (h : W.heap[g]? = some (.cells (msV k i o m wb A n cb).toArray t (0, 0))) :
    W.cell? ⟨g, 0, none⟩ = some (.int .i64 k) ∧ W.cell? ⟨g, 2, none⟩ = some (.int .i64 o) ∧ W.cell? ⟨g, 5, none⟩ = some (.slice A n cb) :=
  ⟨cells_of h 0 _ rfl, cells_of h 2 _ rfl, cells_of h 5 _ rfl⟩
theorem c_Give_nil (x : Int) (w : World) (hx : -9223372036854775808 ≤ x ∧ x ≤ 9223372036854775807) : Calls Tryz.prog 40 #[.pointer none, .int .i64 x] w fun e w' => e = .returned (.tuple #[.agg m0, .int .i64 1]) ∧ Below w.heap.size w w' := by
  have HB := Lib.hid ((Below.refl w.heap.size w).alloc (Nat.le_refl _) (.cells m0 25))
  have HX := Lib.hid (heap_alloc_new w (.cells m0 25))
  unfold m0 at HB HX
  go_enter Tryz.func40, Tryz.ntmps40
  go_wp2_with (first
    | (go_at_call 75
       (with_reducible refine (c_Extent_nil x _ hx).mono ?_)
       rintro e w2 ⟨rfl, hb2⟩
       have HX := Lib.hid ((hb2.block _ (heap_lt HX.out)).trans HX.out)
       have HB := Lib.hid (HB.out.trans (hb2.mono HB.out.size))
       clear hb2)
    | (refine wpL_store_all rfl rfl 25 (.tmp 4) (.tmp 16) rfl _ rfl _ rfl _ _ HX.out (by kernel_rfl) rfl (by simp [Value.oneCell']) ?_
       intro w8 x8 g8
       have HX8 := Lib.hid x8
       have HB8 := Lib.hid (HB.out.grown g8 HB.out.size (by rintro k ⟨⟩; exact Nat.le_refl _))
       have G8 := Lib.hid g8
       clear x8 g8)
    )
  refine bodyPost_ret (results_cell2 rfl _ _ w.heap.size _ _ (0, 0) _ rfl HX8.out Tryz.underlying25 rfl (by kernel_rfl) _ rfl) rfl ?_
  exact ⟨rfl, HB8.out⟩
section
variable {w : World} {p g mb c : Nat} {d d1 d2 d3 : Dsk}
theorem c_Give_ok (h : Dk w p g mb c d) (x : Int) (hx : -9223372036854775808 ≤ x ∧ x ≤ 9223372036854775807) (t : List UInt8) (hr : dRead d (whole x).1 (whole x).2 = (t, 0)) : Calls Tryz.prog 40 #[.pointer (some ⟨p, 0, none⟩), .int .i64 x] w fun e w' => ∃ A2 c2, e = .returned (.tuple #[.agg (msV 6 0 x 0 false A2 t.length c2).toArray, .int .i64 0]) ∧ Tw.Own w' w.heap.size 5 1 A2 t.length c2 (bytesV t) ∧ Below w.heap.size w w' := by
  have HB := Lib.hid ((Below.refl w.heap.size w).alloc (Nat.le_refl _) (.cells m0 25))
  have HX := Lib.hid (heap_alloc_new w (.cells m0 25))
  unfold m0 at HB HX
  have H := Lib.hid (h.bel HB.out)
  have HR := Lib.hid hr
  clear h hr
  go_enter Tryz.func40, Tryz.ntmps40
  go_wp2_with (first
    | (go_at_call 75
       (with_reducible refine (c_ExtentE H.out x hx).mono ?_)
       rw [HR.out]
       rintro e w2 ⟨A2, c2, rfl, ho2, hb2⟩
       have HX := Lib.hid ((hb2.block _ (heap_lt HX.out)).trans HX.out)
       have HO := Lib.hid ho2
       have HB := Lib.hid (HB.out.trans (hb2.mono HB.out.size))
       clear hb2 ho2)
    | (refine wpL_store_all rfl rfl 25 (.tmp 4) (.tmp 20) rfl _ rfl _ rfl _ _ HX.out (by kernel_rfl) rfl (by simp [Value.oneCell']) ?_
       intro w8 x8 g8
       have HX8 := Lib.hid x8
       have HB8 := Lib.hid (HB.out.grown g8 HB.out.size (by rintro k ⟨⟩; exact Nat.le_refl _))
       have G8 := Lib.hid g8
       clear x8 g8)
    )
  refine bodyPost_ret (results_cell2 rfl _ _ w.heap.size _ _ (0, 0) _ rfl HX8.out Tryz.underlying25 rfl (by kernel_rfl) _ rfl) rfl ?_
  exact ⟨A2, c2, rfl, Tw.Own.mono (HO.out.kept G8.out (own_apart HO.out (by rintro k ⟨⟩; simp))) (by simp), HB8.out⟩
/-- the first step: the extent's bytes -/
theorem c_put1 {g1 g2 : Nat} {t1 t2 : TypeId} (h : Dk w p g mb c d) (ho : d.ops + 1024 < 1000000000) (k i x : Int) (m : Nat) (wb : Bool) (A : Option Addr) (n cb : Nat) (b : List UInt8) (hx : -9223372036854775808 ≤ x ∧ x ≤ 9223372036854775807) (hb : Byt w A n cb b) (hA : ∀ ad, A = some ad → 0 < n → ad.block ≠ p ∧ ad.block ≠ mb)
    (h1 : w.heap[g1]? = some (.cells #[.pointer (some ⟨p, 0, none⟩)] t1 (0, 0))) (h2 : w.heap[g2]? = some (.cells (msV k i x m wb A n cb).toArray t2 (0, 0))) :
    Calls Tryz.prog 86 #[.pointer (some ⟨g1, 0, none⟩), .pointer (some ⟨g2, 0, none⟩)] w fun e w' => e = .returned (.int .i64 ((dWrite d (whole x).1 (whole x).2 b).2 : Int)) ∧ Dk w' p g mb c (dWrite d (whole x).1 (whole x).2 b).1 ∧ Fr (fun k => k = p ∨ k = mb) w w' := by
  have d0 := Actlog.cell1 h1
  obtain ⟨e0, e2, e5⟩ := ms6 h2
  have H := Lib.hid h
  have Hb := Lib.hid hb
  have HA := Lib.hid hA
  clear h hb hA h1 h2
  go_enter Tryz.func86, Tryz.ntmps86
  go_wp2_with (first
    | (go_at_call 87
       (with_reducible refine (c_SetExtentE H.out ho x hx A n cb b Hb.out HA.out).mono ?_)
       rintro e w2 ⟨rfl, h2, f2⟩
       have H2 := Lib.hid h2
       have F2 := Lib.hid f2
       clear h2 f2 d0 e0 e2 e5))
  go_ret
  exact ⟨rfl, H2.out, F2.out⟩
theorem c_put1_nil {g1 g2 : Nat} {t1 t2 : TypeId} (k i x : Int) (m : Nat) (wb : Bool) (A : Option Addr) (n cb : Nat) (hx : -9223372036854775808 ≤ x ∧ x ≤ 9223372036854775807)
    (h1 : w.heap[g1]? = some (.cells #[.pointer none] t1 (0, 0))) (h2 : w.heap[g2]? = some (.cells (msV k i x m wb A n cb).toArray t2 (0, 0))) :
    Calls Tryz.prog 86 #[.pointer (some ⟨g1, 0, none⟩), .pointer (some ⟨g2, 0, none⟩)] w fun e w' => e = .returned (.int .i64 1) ∧ Below w.heap.size w w' := by
  have d0 := Actlog.cell1 h1
  obtain ⟨e0, e2, e5⟩ := ms6 h2
  clear h1 h2
  go_enter Tryz.func86, Tryz.ntmps86
  go_wp2_with (first
    | (go_at_call 87
       (with_reducible refine (c_SetExtent_nil x A n cb _ hx).mono ?_)
       rintro e w2 ⟨rfl, b2⟩
       have B2 := Lib.hid b2
       clear b2 d0 e0 e2 e5))
  go_ret
  exact ⟨rfl, B2.out⟩
/-- the last step: the extent's bit -/
theorem c_put2 {g1 g2 : Nat} {t1 t2 : TypeId} (h : Dk w p g mb c d) (k i x : Int) (m : Nat) (wb : Bool) (A : Option Addr) (n cb : Nat) (r : Int) (E : Nat)
    (hcl : ∀ W, Dk W p g mb c d → Calls Tryz.prog 25 #[.pointer (some ⟨p, 0, none⟩), .int .i64 x] W fun e' w' => e' = .returned (.tuple #[.int .u64 r, .int .i64 (E : Int)]) ∧ Dk w' p g mb c d1 ∧ Fr (fun k => k = p ∨ k = g ∨ k = mb) W w')
    (h1 : w.heap[g1]? = some (.cells #[.pointer (some ⟨p, 0, none⟩)] t1 (0, 0))) (h2 : w.heap[g2]? = some (.cells (msV k i x m wb A n cb).toArray t2 (0, 0))) :
    Calls Tryz.prog 88 #[.pointer (some ⟨g1, 0, none⟩), .pointer (some ⟨g2, 0, none⟩)] w fun e w' => e = .returned (.int .i64 (E : Int)) ∧ Dk w' p g mb c d1 ∧ Fr (fun k => k = p ∨ k = g ∨ k = mb) w w' := by
  have d0 := Actlog.cell1 h1
  obtain ⟨e0, e2, e5⟩ := ms6 h2
  have H := Lib.hid h
  have HC := Lib.hid hcl
  clear h hcl h1 h2
  go_enter Tryz.func88, Tryz.ntmps88
  go_wp2_with (first
    | (go_at_call 25
       refine (HC.out _ H.out).mono ?_
       rintro e w2 ⟨rfl, h2, f2⟩
       have H2 := Lib.hid h2
       have F2 := Lib.hid f2
       clear h2 f2 d0 e0 e2 e5))
  go_ret
  exact ⟨rfl, H2.out, F2.out⟩
end
def F1 (g1 g2 : Nat) : Value := .func (.func 86) #[] #[.pointer (some ⟨g1, 0, none⟩), .pointer (some ⟨g2, 0, none⟩)]
def F2 (v : Value) : Value := .func (.func 71) #[v] #[]
def F3 (g1 g2 : Nat) : Value := .func (.func 88) #[] #[.pointer (some ⟨g1, 0, none⟩), .pointer (some ⟨g2, 0, none⟩)]
theorem fcells {W : World} {g : Nat} {t : TypeId} {a b c : Value} (h : W.heap[g]? = some (.cells #[a, b, c] t (0, 0))) : W.cell? ⟨g, 0, none⟩ = some a ∧ W.cell? ⟨g, 1, none⟩ = some b ∧ W.cell? ⟨g, 2, none⟩ = some c :=
  ⟨cells_of h 0 _ rfl, cells_of h 1 _ rfl, cells_of h 2 _ rfl⟩
section
variable {w : World} {p g mb c : Nat} {d d1 d2 d3 : Dsk}
theorem c_steps_nil {Bf g1 g2 : Nat} {t1 t2 t3 : TypeId} (v : Value) (k i x : Int) (m : Nat) (wb : Bool) (A : Option Addr) (n cb : Nat) (hx : -9223372036854775808 ≤ x ∧ x ≤ 9223372036854775807)
    (h1 : w.heap[g1]? = some (.cells #[.pointer none] t1 (0, 0))) (h2 : w.heap[g2]? = some (.cells (msV k i x m wb A n cb).toArray t2 (0, 0))) (h3 : w.heap[Bf]? = some (.cells #[F1 g1 g2, F2 v, F3 g1 g2] t3 (0, 0))) :
    Calls Tryz.prog 89 #[.slice (some ⟨Bf, 0, none⟩) 3 3] w fun e w' => e = .returned (.int .i64 1) ∧ Below w.heap.size w w' := by
  obtain ⟨c0, c1, c2⟩ := fcells h3
  have X1 := Lib.hid h1
  have X2 := Lib.hid h2
  simp only [F1, F2, F3] at c0 c1 c2
  clear h1 h2 h3
  go_enter Tryz.func89, Tryz.ntmps89
  go_wp2_with fail
  go_loopw [7] (fun v wr => v = .int .i64 0 ∧ wr = w) (fun _ _ => 0)
  case atStart => exact ⟨rfl, rfl⟩
  case round =>
    obtain ⟨rfl, rfl⟩ := hrel
    go_wp2_with (first
      | (go_at_call 86
         (with_reducible refine (c_put1_nil k i x m wb A n cb hx X1.out X2.out).mono ?_)
         rintro e w2 ⟨rfl, b2⟩
         have B2 := Lib.hid b2
         clear b2 c0 c1 c2))
    go_ret
    exact ⟨rfl, B2.out⟩
theorem c_steps_ok {Bf g1 g2 : Nat} {t1 t2 t3 : TypeId} (h : Dk w p g mb c d) (ho : d.ops + 1024 < 1000000000) (k i x : Int) (m : Nat) (wb : Bool) (A : Option Addr) (n cb : Nat) (b : List UInt8) (hx : -9223372036854775808 ≤ x ∧ x ≤ 9223372036854775807) (hb : Byt w A n cb b) (hA : ∀ ad, A = some ad → 0 < n → ad.block ≠ p ∧ ad.block ≠ mb)
    (hs1 : dWrite d (whole x).1 (whole x).2 b = (d1, 0)) (ho1 : d1.ops < 1000000000) (hs2 : d1.flush = (d2, 0)) (r : Int)
    (hcl : ∀ W, Dk W p g mb c d2 → Calls Tryz.prog 25 #[.pointer (some ⟨p, 0, none⟩), .int .i64 x] W fun e' w' => e' = .returned (.tuple #[.int .u64 r, .int .i64 0]) ∧ Dk w' p g mb c d3 ∧ Fr (fun k => k = p ∨ k = g ∨ k = mb) W w')
    (h1 : w.heap[g1]? = some (.cells #[.pointer (some ⟨p, 0, none⟩)] t1 (0, 0))) (h2 : w.heap[g2]? = some (.cells (msV k i x m wb A n cb).toArray t2 (0, 0))) (h3 : w.heap[Bf]? = some (.cells #[F1 g1 g2, F2 (.pointer (some ⟨p, 0, none⟩)), F3 g1 g2] t3 (0, 0)))
    (hg : ∀ z, z = g1 ∨ z = g2 ∨ z = Bf → z ≠ p ∧ z ≠ g ∧ z ≠ mb) :
    Calls Tryz.prog 89 #[.slice (some ⟨Bf, 0, none⟩) 3 3] w fun e w' => e = .returned (.int .i64 0) ∧ Dk w' p g mb c d3 ∧ Fr (fun k => k = p ∨ k = g ∨ k = mb) w w' := by
  have X1 := Lib.hid h1
  have X2 := Lib.hid h2
  have X3 := Lib.hid h3
  have G1 := Lib.hid (hg g1 (.inl rfl))
  have G2 := Lib.hid (hg g2 (.inr (.inl rfl)))
  have G3 := Lib.hid (hg Bf (.inr (.inr rfl)))
  have H := Lib.hid h
  have Hb := Lib.hid hb
  have HA := Lib.hid hA
  have S1 := Lib.hid hs1
  have S2 := Lib.hid hs2
  have HC := Lib.hid hcl
  have Ho1 := Lib.hid ho1
  clear h1 h2 h3 hg h hb hA hs1 hs2 hcl ho1
  go_enter Tryz.func89, Tryz.ntmps89
  go_wp2_with fail
  go_loopw [2, 7] (fun u v wr => ∃ (j : Nat) (D : Dsk), j ≤ 3 ∧ u = .int .i64 0 ∧ v = .int .i64 (j : Int) ∧ Hid ((j = 0 ∧ D = d ∧ wr = w) ∨ (j = 1 ∧ D = d1) ∨ (j = 2 ∧ D = d2) ∨ (j = 3 ∧ D = d3)) ∧ Hid (Dk wr p g mb c D) ∧ Hid (Fr (fun k => k = p ∨ k = g ∨ k = mb) w wr)) (fun _ v _ => 3 - (intOf v).toNat)
  case atStart => exact ⟨0, d, by omega, rfl, rfl, Lib.hid (.inl ⟨rfl, rfl, rfl⟩), H, Lib.hid (Fr.refl _ _)⟩
  case round =>
    obtain ⟨j, D, hj, rfl, rfl, HJ, HD, HF⟩ := hrel
    have x1 := heap_fr X1.out HF.out (by have := G1.out; omega)
    have x2 := heap_fr X2.out HF.out (by have := G2.out; omega)
    obtain ⟨c0, c1, c2⟩ := fcells (heap_fr X3.out HF.out (by have := G3.out; omega))
    have Y1 := Lib.hid x1
    have Y2 := Lib.hid x2
    simp only [F1, F2, F3] at c0 c1 c2
    clear x1 x2
    rcases HJ.out with ⟨rfl, rfl, rfl⟩ | ⟨rfl, rfl⟩ | ⟨rfl, rfl⟩ | ⟨rfl, rfl⟩
    · clear HJ
      go_wp2_with (first
        | (go_at_call 86
           (with_reducible refine (c_put1 HD.out ho k i x m wb A n cb b hx Hb.out HA.out Y1.out Y2.out).mono ?_)
           rw [S1.out]
           rintro e w2 ⟨rfl, h2, f2⟩
           have H2 := Lib.hid h2
           have FF2 := Lib.hid (HF.out.trans (f2.mono (S1 := fun k => k = p ∨ k = g ∨ k = mb) (fun k _ e => e.elim .inl (fun e => .inr (.inr e)))) (fun _ _ e => e))
           clear h2 f2 c0 c1 c2))
      go_roundw
      case rel => exact ⟨1, d1, by omega, rfl, by go_num, Lib.hid (.inr (.inl ⟨rfl, rfl⟩)), H2, FF2⟩
      case measure => simp [intOf] <;> omega
    · clear HJ
      go_wp2_with (first
        | (go_at_call 71
           (with_reducible refine (c_Flush HD.out Ho1.out).mono ?_)
           rw [S2.out]
           rintro e w2 ⟨rfl, h2, f2⟩
           have H2 := Lib.hid h2
           have FF2 := Lib.hid (HF.out.trans f2 (fun _ _ e => e))
           clear h2 f2 c0 c1 c2))
      go_roundw
      case rel => exact ⟨2, d2, by omega, rfl, by go_num, Lib.hid (.inr (.inr (.inl ⟨rfl, rfl⟩))), H2, FF2⟩
      case measure => simp [intOf] <;> omega
    · clear HJ
      go_wp2_with (first
        | (go_at_call 88
           (with_reducible refine (c_put2 HD.out k i x m wb A n cb r 0 HC.out Y1.out Y2.out).mono ?_)
           rintro e w2 ⟨rfl, h2, f2⟩
           have H2 := Lib.hid h2
           have FF2 := Lib.hid (HF.out.trans f2 (fun _ _ e => e))
           clear h2 f2 c0 c1 c2))
      go_roundw
      case rel => exact ⟨3, d3, by omega, rfl, by go_num, Lib.hid (.inr (.inr (.inr ⟨rfl, rfl⟩))), H2, FF2⟩
      case measure => simp [intOf] <;> omega
    · clear HJ
      go_wp2_with fail
      go_ret
      exact ⟨rfl, HD.out, HF.out⟩
end
theorem good_ms (k i x : Int) (m : Nat) (wb : Bool) (A : Option Addr) (n cb : Nat) (w : World) : Calls Tryz.prog 85 #[.agg (msV k i x m wb A n cb).toArray] w fun e w' => e = .returned (.bool (decide (Pack.Good k i x m wb n))) ∧ Below w.heap.size w w' := Pack.c_Good k i x m wb A n cb w
/-- a disk that no call made -/
theorem c_Put_nil (k i x : Int) (m : Nat) (wb : Bool) (A : Option Addr) (n cb : Nat) (w : World) (hx : -9223372036854775808 ≤ x ∧ x ≤ 9223372036854775807) (hn : n ≤ 200) :
    Calls Tryz.prog 43 #[.pointer none, .agg (msV k i x m wb A n cb).toArray] w fun e w' => (∃ E : Int, e = .returned (.tuple #[.agg m0, .int .i64 E]) ∧ E ≠ 0) ∧ Below w.heap.size w w' := by
  obtain ⟨W3, hW3, x0, x1, x2, hB, hsz⟩ := Slots.three w (.cells #[.pointer none] 29) (.cells (msV k i x m wb A n cb).toArray 25) (.cells m0 25)
  simp only [m0] at hW3 x2
  obtain ⟨e0, e2, e5⟩ := ms6 x1
  have d0 := Actlog.cell1 x0
  have X0 := Lib.hid x0
  have X1 := Lib.hid x1
  have X2 := Lib.hid x2
  have HB := Lib.hid hB
  have HW := Lib.hid hW3
  clear x0 x1 x2 hB hW3
  by_cases hk : k = 6
  · cases hg : decide (Pack.Good k i x m wb n) with
    | true =>
      have Hg := Lib.hid hg
      have hk2 : (k != 6) = false := by simp [hk]
      clear hg hk
      go_enter Tryz.func43, Tryz.ntmps43
      go_upto_region 1 with (fail)
      rw [← HW.out]
      go_wp2_with (first
        | (refine wpL_load_rdG rfl 25 (.tmp 3) rfl ⟨w.heap.size + 1, 0, none⟩ rfl (msV k i x m wb A n cb) _ ((rd_of_heap (n := 6) X1.out rfl (by simp [maxLen])).cell _ rfl) Tryz.underlying25 rfl (by kernel_rfl) ?_)
        | (go_at_call 85
           (with_reducible refine (good_ms k i x m wb A n cb _).mono ?_)
           rintro e w2 ⟨rfl, hb2⟩
           rw [Hg.out]
           have X0 := Lib.hid ((hb2.block _ (heap_lt X0.out)).trans X0.out)
           have X1 := Lib.hid ((hb2.block _ (heap_lt X1.out)).trans X1.out)
           have X2 := Lib.hid ((hb2.block _ (heap_lt X2.out)).trans X2.out)
           have HB := Lib.hid (HB.out.trans (hb2.mono HB.out.size))
           clear d0 e0 e2 e5
           obtain ⟨e0, e2, e5⟩ := ms6 X1.out
           have d0 := Actlog.cell1 X0.out
           have hsz := Nat.le_trans (Nat.le_of_eq hsz.symm) hb2.size
           skip
           clear hb2)
        | (go_at_call 89
           refine (c_steps_nil (g1 := w.heap.size) (g2 := w.heap.size + 1) (.pointer none) k i x m wb A n cb hx ((Below.heap_alloc _ _ _ (heap_lt X0.out)).trans X0.out) ((Below.heap_alloc _ _ _ (heap_lt X1.out)).trans X1.out) (heap_alloc_new _ _)).mono ?_
           rintro e w3 ⟨rfl, hb3⟩
           have hbs := ((Below.refl _ _).alloc (Nat.le_refl _) _).trans (hb3.mono (by simp))
           have X2 := Lib.hid ((hbs.block _ (heap_lt X2.out)).trans X2.out)
           have HB := Lib.hid (HB.out.trans (hbs.mono HB.out.size))
           clear hb3 hbs e0 e2 e5)
        | (refine wpL_store_all rfl rfl 25 (.tmp 4) (.tmp 28) rfl _ rfl _ rfl _ _ X2.out (by kernel_rfl) rfl (by simp [Value.oneCell']) ?_
           intro w8 x8 g8
           have HX8 := Lib.hid x8
           have HB8 := Lib.hid (HB.out.grown g8 HB.out.size (by rintro k ⟨⟩; omega))
           have G8 := Lib.hid g8
           clear x8 g8 d0)
        )
      refine bodyPost_ret (results_cell2 rfl _ _ (w.heap.size + 1 + 1) _ _ (0, 0) _ rfl HX8.out Tryz.underlying25 rfl (by kernel_rfl) _ rfl) rfl ?_
      exact ⟨⟨1, rfl, by omega⟩, HB8.out⟩
    | false =>
      have Hg := Lib.hid hg
      have hk2 : (k != 6) = false := by simp [hk]
      clear hg hk
      go_enter Tryz.func43, Tryz.ntmps43
      go_upto_region 1 with (fail)
      rw [← HW.out]
      go_wp2_with (first
        | (refine wpL_load_rdG rfl 25 (.tmp 3) rfl ⟨w.heap.size + 1, 0, none⟩ rfl (msV k i x m wb A n cb) _ ((rd_of_heap (n := 6) X1.out rfl (by simp [maxLen])).cell _ rfl) Tryz.underlying25 rfl (by kernel_rfl) ?_)
        | (go_at_call 85
           (with_reducible refine (good_ms k i x m wb A n cb _).mono ?_)
           rintro e w2 ⟨rfl, hb2⟩
           rw [Hg.out]
           have X0 := Lib.hid ((hb2.block _ (heap_lt X0.out)).trans X0.out)
           have X1 := Lib.hid ((hb2.block _ (heap_lt X1.out)).trans X1.out)
           have X2 := Lib.hid ((hb2.block _ (heap_lt X2.out)).trans X2.out)
           have HB := Lib.hid (HB.out.trans (hb2.mono HB.out.size))
           clear d0 e0 e2 e5
           obtain ⟨e0, e2, e5⟩ := ms6 X1.out
           have d0 := Actlog.cell1 X0.out
           have hsz := Nat.le_trans (Nat.le_of_eq hsz.symm) hb2.size
           skip
           clear hb2)
        | (refine wpL_store_all rfl rfl 25 (.tmp 4) (.tmp 17) rfl _ rfl _ rfl _ _ X2.out (by kernel_rfl) rfl (by simp [Value.oneCell']) ?_
           intro w8 x8 g8
           have HX8 := Lib.hid x8
           have HB8 := Lib.hid (HB.out.grown g8 HB.out.size (by rintro k ⟨⟩; omega))
           have G8 := Lib.hid g8
           clear x8 g8 d0)
        )
      refine bodyPost_ret (results_cell2 rfl _ _ (w.heap.size + 1 + 1) _ _ (0, 0) _ rfl HX8.out Tryz.underlying25 rfl (by kernel_rfl) _ rfl) rfl ?_
      exact ⟨⟨2, rfl, by omega⟩, HB8.out⟩
  · have hk2 : (k != 6) = true := by simp [hk]
    clear hk
    go_enter Tryz.func43, Tryz.ntmps43
    go_upto_region 1 with (fail)
    rw [← HW.out]
    go_wp2_with (first
      | (refine wpL_store_all rfl rfl 25 (.tmp 4) (.tmp 17) rfl _ rfl _ rfl _ _ X2.out (by kernel_rfl) rfl (by simp [Value.oneCell']) ?_
         intro w8 x8 g8
         have HX8 := Lib.hid x8
         have HB8 := Lib.hid (HB.out.grown g8 HB.out.size (by rintro k ⟨⟩; omega))
         have G8 := Lib.hid g8
         clear x8 g8 d0)
      )
    refine bodyPost_ret (results_cell2 rfl _ _ (w.heap.size + 1 + 1) _ _ (0, 0) _ rfl HX8.out Tryz.underlying25 rfl (by kernel_rfl) _ rfl) rfl ?_
    exact ⟨⟨2, rfl, by omega⟩, HB8.out⟩
section
variable {w : World} {p g mb c : Nat} {d d1 d2 d3 : Dsk}
theorem c_Put_ok (h : Dk w p g mb c d) (ho : d.ops + 1024 < 1000000000) (i x : Int) (m : Nat) (wb : Bool) (A : Option Addr) (n cb : Nat) (b : List UInt8) (hx : -9223372036854775808 ≤ x ∧ x ≤ 9223372036854775807) (hb : Byt w A n cb b) (hA : ∀ ad, A = some ad → 0 < n → ad.block ≠ p ∧ ad.block ≠ mb)
    (hg : Pack.Good 6 i x m wb n) (hs1 : dWrite d (whole x).1 (whole x).2 b = (d1, 0)) (ho1 : d1.ops < 1000000000) (hs2 : d1.flush = (d2, 0)) (r : Int)
    (hcl : ∀ W, Dk W p g mb c d2 → Calls Tryz.prog 25 #[.pointer (some ⟨p, 0, none⟩), .int .i64 x] W fun e' w' => e' = .returned (.tuple #[.int .u64 r, .int .i64 0]) ∧ Dk w' p g mb c d3 ∧ Fr (fun k => k = p ∨ k = g ∨ k = mb) W w') :
    Calls Tryz.prog 43 #[.pointer (some ⟨p, 0, none⟩), .agg (msV 6 i x m wb A n cb).toArray] w fun e w' => e = .returned (.tuple #[.agg (msV 7 0 x 0 false none 0 0).toArray, .int .i64 0]) ∧ Dk w' p g mb c d3 ∧ Fr (fun k => k = p ∨ k = g ∨ k = mb) w w' := by
  obtain ⟨k, hk⟩ : ∃ k : Int, k = 6 := ⟨_, rfl⟩
  rw [← hk] at hg ⊢
  have hlt := h.lts
  obtain ⟨W3, hW3, x0, x1, x2, hB, hsz⟩ := Slots.three w (.cells #[.pointer (some ⟨p, 0, none⟩)] 29) (.cells (msV k i x m wb A n cb).toArray 25) (.cells m0 25)
  simp only [m0] at hW3 x2
  obtain ⟨e0, e2, e5⟩ := ms6 x1
  have d0 := Actlog.cell1 x0
  have X0 := Lib.hid x0
  have X1 := Lib.hid x1
  have X2 := Lib.hid x2
  have HB := Lib.hid hB
  have HW := Lib.hid hW3
  clear x0 x1 x2 hB hW3
  have Hg := Lib.hid (decide_eq_true hg)
  have hk2 : (k != 6) = false := by simp [hk]
  have H := Lib.hid (h.bel (HB.out.mono (by omega)))
  have Hb := Lib.hid (hb.bel (HB.out.mono (by omega)))
  have HA := Lib.hid hA
  have S1 := Lib.hid hs1
  have S2 := Lib.hid hs2
  have HC := Lib.hid hcl
  have HF := Lib.hid (Fr.of_bel (S := fun k => k = p ∨ k = g ∨ k = mb) HB.out)
  clear hg hk h hb hA hs1 hs2 hcl
  go_enter Tryz.func43, Tryz.ntmps43
  go_upto_region 1 with (fail)
  rw [← HW.out]
  go_wp2_with (first
    | (refine wpL_load_rdG rfl 25 (.tmp 3) rfl ⟨w.heap.size + 1, 0, none⟩ rfl (msV k i x m wb A n cb) _ ((rd_of_heap (n := 6) X1.out rfl (by simp [maxLen])).cell _ rfl) Tryz.underlying25 rfl (by kernel_rfl) ?_)
    | (go_at_call 85
       (with_reducible refine (good_ms k i x m wb A n cb _).mono ?_)
       rintro e w2 ⟨rfl, hb2⟩
       rw [Hg.out]
       have X0 := Lib.hid ((hb2.block _ (heap_lt X0.out)).trans X0.out)
       have X1 := Lib.hid ((hb2.block _ (heap_lt X1.out)).trans X1.out)
       have X2 := Lib.hid ((hb2.block _ (heap_lt X2.out)).trans X2.out)
       have HB := Lib.hid (HB.out.trans (hb2.mono HB.out.size))
       clear d0 e0 e2 e5
       obtain ⟨e0, e2, e5⟩ := ms6 X1.out
       have d0 := Actlog.cell1 X0.out
       have hsz := Nat.le_trans (Nat.le_of_eq hsz.symm) hb2.size
       have H := Lib.hid (H.out.bel hb2); have Hb := Lib.hid (Hb.out.bel hb2)
       clear hb2)
    | (go_at_call 89
       refine (c_steps_ok (g1 := w.heap.size) (g2 := w.heap.size + 1) (H.out.bel ((Below.refl _ _).alloc (Nat.le_refl _) _)) ho k i x m wb A n cb b hx (Hb.out.bel ((Below.refl _ _).alloc (Nat.le_refl _) _)) HA.out S1.out ho1 S2.out r HC.out ((Below.heap_alloc _ _ _ (heap_lt X0.out)).trans X0.out) ((Below.heap_alloc _ _ _ (heap_lt X1.out)).trans X1.out) (heap_alloc_new _ _) (by intro z hz; omega)).mono ?_
       rintro e w3 ⟨rfl, h3, f3⟩
       have fbs := (Fr.of_bel (S := fun k => k = p ∨ k = g ∨ k = mb) ((Below.refl _ _).alloc (Nat.le_refl _) _)).trans f3 (fun _ _ e => e)
       have hx1 := heap_fr X1.out fbs (by omega)
       have X2 := Lib.hid (heap_fr X2.out fbs (by omega))
       have HF3 := Lib.hid ((Fr.of_bel (S := fun k => k = p ∨ k = g ∨ k = mb) HB.out).trans fbs (fun _ _ e => e))
       have H3 := Lib.hid h3
       clear d0 e0 e2 e5
       obtain ⟨e0, e2, e5⟩ := ms6 hx1
       clear h3 f3 fbs hx1)
    | (refine wpL_store_all rfl rfl 25 (.tmp 4) (.tmp 32) rfl _ rfl _ rfl _ _ X2.out (by kernel_rfl) rfl (by simp [Value.oneCell']) ?_
       intro w8 x8 g8
       have HX8 := Lib.hid x8
       have f8 := Fr.grown (S := fun k => k = w.heap.size + 1 + 1) g8 (by rintro k ⟨⟩; rfl)
       have H8 := Lib.hid (H3.out.fr f8 (by omega) (by omega) (by omega))
       have HF8 := Lib.hid (HF3.out.trans f8 (fun z hz e => by omega))
       clear x8 g8 f8 e0 e2 e5))
  refine bodyPost_ret (results_cell2 rfl _ _ (w.heap.size + 1 + 1) _ _ (0, 0) _ rfl HX8.out Tryz.underlying25 rfl (by kernel_rfl) _ rfl) rfl ?_
  exact ⟨rfl, H8.out, HF8.out⟩
end
end Go.Proofs.YtaldlapnhhhclaaGreat.Copying
