/- The law TableNone, walked. Conditions: none. -/
import Derived.Test.YtplemdgihlabgaaTabNone
import Derived.Test.YtplemdgihlabgaaTabAct
set_option linter.unusedVariables false
set_option linter.unusedSimpArgs false
namespace Go.Proofs.Ytplemdgihlabgaa.Table
open Go.RowKit Tw Go.Maps Go.ChangeMaps
set_option maxHeartbeats 4000000
set_option maxRecDepth 100000

theorem c_Tickets_none {w : World} {v : Value} (h : NoTab w v) : Calls Try.prog 37 #[v] w fun e w' => e = .returned (.slice none 0 0) ∧ w = w' := by
  have Hv := Lib.hid h
  clear h
  go_enter Try.func37, Try.ntmps37
  go_wp2_with (first
    | (go_at_call 93; (with_reducible refine (c_is_none Hv.out).mono ?_); rintro e w' ⟨rfl, rfl⟩))
  go_ret
  exact ⟨rfl, rfl⟩
/-- the very same requests -/
theorem c_alike (k o l : Int) (A A' : Option Addr) (n c c' : Nat) (b : List UInt8) (w : World) (hb : Byt w A n c b) (hb' : Byt w A' n c' b) : Calls Try.prog 34 #[rq k o l A n c, rq k o l A' n c'] w fun e w' => e = .returned (.bool true) ∧ Below w.heap.size w w' := by
  have HB : Hid (Below w.heap.size w ((w.alloc (.cells #[.int .i64 k, .int .i64 o, .int .i64 l, .slice A n c] 64)).alloc (.cells #[.int .i64 k, .int .i64 o, .int .i64 l, .slice A' n c'] 64))) := Lib.hid (((Below.refl _ _).alloc (Nat.le_refl _) _).alloc (by simp) _)
  have e1 := run_str (P := Try.prog) ((w.alloc (.cells #[.int .i64 k, .int .i64 o, .int .i64 l, .slice A n c] 64)).alloc (.cells #[.int .i64 k, .int .i64 o, .int .i64 l, .slice A' n c'] 64)) 62 9 5 A n c b Try.underlying62 Try.underlying5 Try.underlying9 (hb.bel HB.out)
  have e2 := run_str (P := Try.prog) ((w.alloc (.cells #[.int .i64 k, .int .i64 o, .int .i64 l, .slice A n c] 64)).alloc (.cells #[.int .i64 k, .int .i64 o, .int .i64 l, .slice A' n c'] 64)) 62 9 5 A' n c' b Try.underlying62 Try.underlying5 Try.underlying9 (hb'.bel HB.out)
  clear hb hb'
  generalize (ByteArray.mk b.toArray) = sb at *
  unfold rq
  go_enter Try.func34, Try.ntmps34
  go_wp2_with fail
  go_ret
  exact ⟨by simp, HB.out⟩

/-- the boxes of TableNone -/
def Bx (w : World) (W : World) (k a x y z : Int) (A : Option Addr) (n cb : Nat) : Prop :=
  W.heap[w.heap.size]? = some (.cells (actV k a x y z A n cb).toArray 66 (0, 0)) ∧ W.heap[w.heap.size + 1]? = some (.cells #[.int .i64 0, .map none] 70 (0, 0)) ∧
  W.heap[w.heap.size + 2]? = some (.cells #[.pointer none, .pointer (some ⟨w.heap.size + 1, 0, none⟩)] 67 (0, 0)) ∧ Below w.heap.size w W
theorem Bx.fr {w W W' : World} {k a x y z : Int} {A : Option Addr} {n cb : Nat} (h : Bx w W k a x y z A n cb) (hb : Below W.heap.size W W') : Bx w W' k a x y z A n cb := by
  obtain ⟨h1, h2, h3, h4⟩ := h
  exact ⟨(hb.block _ (heap_lt h1)).trans h1, (hb.block _ (heap_lt h2)).trans h2, (hb.block _ (heap_lt h3)).trans h3, h4.trans (hb.mono h4.size)⟩
theorem Bx.tab {w W : World} {k a x y z : Int} {A : Option Addr} {n cb : Nat} (h : Bx w W k a x y z A n cb) : NoTab W (.pointer (some ⟨w.heap.size + 1, 0, none⟩)) :=
  .inr ⟨_, rfl, heap_lt h.2.1, by simp [World.cell?, h.2.1]⟩

theorem box_cells {W : World} {g : Nat} (h : W.heap[g]? = some (.cells #[.int .i64 0, .int .i64 0, .int .i64 0, .slice none 0 0] 64 (0, 0))) : W.cell? ⟨g, 0, none⟩ = some (.int .i64 0) ∧ W.cell? ⟨g, 1, none⟩ = some (.int .i64 0) ∧ W.cell? ⟨g, 2, none⟩ = some (.int .i64 0) ∧ W.cell? ⟨g, 3, none⟩ = some (.slice none 0 0) := by
  simp [World.cell?, h]
theorem Bx.cells {w W : World} {k a x y z : Int} {A : Option Addr} {n cb : Nat} (h : Bx w W k a x y z A n cb) : W.cell? ⟨w.heap.size, 1, none⟩ = some (.int .i64 a) ∧ W.cell? ⟨w.heap.size, 2, none⟩ = some (.int .i64 x) ∧ W.cell? ⟨w.heap.size, 3, none⟩ = some (.int .i64 y) ∧ W.cell? ⟨w.heap.size, 4, none⟩ = some (.int .i64 z) ∧ W.cell? ⟨w.heap.size, 5, none⟩ = some (.slice A n cb) := by
  simp [World.cell?, h.1, actV]
theorem NoTab.step {w W W' : World} {k a x y z : Int} {A : Option Addr} {n cb : Nat} {v : Value} (hB : Bx w W k a x y z A n cb) (hv : NoTab W v) (hb : Below W.heap.size W W') : Hid (Bx w W' k a x y z A n cb) ∧ Hid (NoTab W' v) := ⟨Lib.hid (hB.fr hb), Lib.hid (hv.bel hb)⟩
theorem w_TableNone (k a x y z : Int) (A : Option Addr) (n cb : Nat) (w : World) (ha : R64 a) : Calls Try.prog 7 #[.agg (actV k a x y z A n cb).toArray] w fun e w' => e = .returned (.bool true) ∧ Below w.heap.size w w' := by
  have hB0 : Bx w (((w.alloc (.cells #[.int .i64 k, .int .i64 a, .int .i64 x, .int .i64 y, .int .i64 z, .slice A n cb] 66)).alloc (.cells #[.int .i64 0, .map none] 70)).alloc (.cells #[.pointer none, .pointer (some ⟨w.heap.size + 1, 0, none⟩)] 67)) k a x y z A n cb := by
    have h1 := heap_alloc_new w (.cells #[.int .i64 k, .int .i64 a, .int .i64 x, .int .i64 y, .int .i64 z, .slice A n cb] 66)
    have h2 := heap_alloc_new (w.alloc (.cells #[.int .i64 k, .int .i64 a, .int .i64 x, .int .i64 y, .int .i64 z, .slice A n cb] 66)) (.cells #[.int .i64 0, .map none] 70)
    have h3 := heap_alloc_new ((w.alloc (.cells #[.int .i64 k, .int .i64 a, .int .i64 x, .int .i64 y, .int .i64 z, .slice A n cb] 66)).alloc (.cells #[.int .i64 0, .map none] 70)) (.cells #[.pointer none, .pointer (some ⟨w.heap.size + 1, 0, none⟩)] 67)
    have b2 := Below.heap_alloc (w.alloc (.cells #[.int .i64 k, .int .i64 a, .int .i64 x, .int .i64 y, .int .i64 z, .slice A n cb] 66)) (.cells #[.int .i64 0, .map none] 70) _ (heap_lt h1)
    have b3 := Below.heap_alloc ((w.alloc (.cells #[.int .i64 k, .int .i64 a, .int .i64 x, .int .i64 y, .int .i64 z, .slice A n cb] 66)).alloc (.cells #[.int .i64 0, .map none] 70)) (.cells #[.pointer none, .pointer (some ⟨w.heap.size + 1, 0, none⟩)] 67)
    rw [World.size_alloc] at h2
    rw [World.size_alloc, World.size_alloc] at h3
    exact ⟨(b3 _ (by simp; omega)).trans (b2.trans h1), (b3 _ (by simp)).trans h2, h3, (((Below.refl _ _).alloc (Nat.le_refl _) _).alloc (by simp) _).alloc (by simp; omega) _⟩
  have HB := Lib.hid hB0
  clear hB0
  unfold actV
  go_enter Try.func7, Try.ntmps7
  go_wp2_with fail
  generalize (((w.alloc (.cells #[.int .i64 k, .int .i64 a, .int .i64 x, .int .i64 y, .int .i64 z, .slice A n cb] 66)).alloc (.cells #[.int .i64 0, .map none] 70)).alloc (.cells #[.pointer none, .pointer (some ⟨w.heap.size + 1, 0, none⟩)] 67)) = W0 at *
  go_loopw [13] (fun i wr => ∃ q : Nat, q ≤ 2 ∧ i = .int .i64 (q : Int) ∧ Hid (Bx w wr k a x y z A n cb)) (fun i _ => 2 - (intOf i).toNat)
  case atStart => exact ⟨0, by omega, rfl, HB⟩
  case round =>
    clear HB
    obtain ⟨q, hq, rfl, HB⟩ := hrel
    obtain ⟨v, hv, HV⟩ : ∃ v, Hid (q < 2 → wr.cell? ⟨w.heap.size + 2, q, none⟩ = some v) ∧ Hid (q < 2 → NoTab wr v) := by
      obtain ⟨h1, h2, h3, h4⟩ := HB.out
      obtain rfl | rfl | rfl : q = 0 ∨ q = 1 ∨ q = 2 := by omega
      · exact ⟨.pointer none, Lib.hid (fun _ => by simp [World.cell?, h3]), Lib.hid (fun _ => .inl rfl)⟩
      · exact ⟨_, Lib.hid (fun _ => by simp [World.cell?, h3]), Lib.hid (fun _ => HB.out.tab)⟩
      · exact ⟨undef, Lib.hid (fun h => by omega), Lib.hid (fun h => by omega)⟩
    by_cases hq2 : q < 2
    · have c1 := hv.out hq2
      have V := Lib.hid (HV.out hq2)
      obtain ⟨d1, d2, d3, d4, d5⟩ := HB.out.cells
      go_wp2_with (first
        | (go_at_call 31
           (with_reducible refine (c_Get_none V.out a).mono ?_)
           rintro e w2 ⟨rfl, hb2⟩
           obtain ⟨HB, V⟩ := NoTab.step HB.out V.out (hb2.trans ((Below.refl _ _).alloc hb2.size (.cells #[.int .i64 0, .int .i64 0, .int .i64 0, .slice none 0 0] 64)))
           have X2 := Lib.hid (heap_alloc_new w2 (.cells #[.int .i64 0, .int .i64 0, .int .i64 0, .slice none 0 0] 64))
           unfold rq
           clear d1 d2 d3 d4 d5 c1 hb2
           obtain ⟨d1, d2, d3, d4, d5⟩ := HB.out.cells)
        | (go_at_call 32
           refine (c_Add_none V.out a x y z A n cb).mono ?_
           rintro e w3 ⟨rfl, hb3⟩
           obtain ⟨HB, V⟩ := NoTab.step HB.out V.out hb3
           have X3 := (hb3.block _ (heap_lt X2.out)).trans X2.out
           clear d1 d2 d3 d4 d5 hb3 X2
           obtain ⟨d1, d2, d3, d4, d5⟩ := HB.out.cells
           obtain ⟨e0, e1, e2, e3⟩ := box_cells X3
           clear X3)
        | (go_at_call 33
           (with_reducible refine (c_Remove_none V.out a).mono ?_)
           rintro e w' ⟨rfl, rfl⟩)
        | (go_at_call 34
           refine (c_alike 0 0 0 none none 0 0 0 [] _ Rd.nil_ Rd.nil_).mono ?_
           rintro e w4 ⟨rfl, hb4⟩
           obtain ⟨HB, V⟩ := NoTab.step HB.out V.out hb4
           clear d1 d2 d3 d4 d5 hb4 e0 e1 e2 e3)
        | (go_at_call 35
           (with_reducible refine (c_Full_none V.out).mono ?_)
           rintro e w5 ⟨rfl, m5, rfl⟩
           obtain ⟨HB, V⟩ := NoTab.step HB.out V.out (⟨rfl, rfl, rfl, Nat.le_refl _, fun _ _ => rfl⟩ : Below w4.heap.size w4 (w4.drewN m5)))
        | (go_at_call 36
           (with_reducible refine (c_Len_none V.out).mono ?_)
           rintro e w' ⟨rfl, rfl⟩)
        | (go_at_call 37
           (with_reducible refine (c_Tickets_none V.out).mono ?_)
           rintro e w' ⟨rfl, rfl⟩))
      go_roundw
      case rel => exact ⟨q + 1, by omega, by go_num, HB⟩
      case measure => simp [intOf] <;> omega
    · obtain rfl : q = 2 := by omega
      go_wp2_with (first
        | (go_at_call 38; (with_reducible refine (c_lives _).mono ?_); rintro e w2 ⟨rfl, hb2⟩))
      go_ret
      exact ⟨rfl, HB.out.2.2.2.trans (hb2.mono HB.out.2.2.2.size)⟩
end Go.Proofs.Ytplemdgihlabgaa.Table
