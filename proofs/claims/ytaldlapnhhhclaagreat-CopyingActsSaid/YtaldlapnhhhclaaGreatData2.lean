/- Contract of data.Write. Conditions: at most 10^9 operations. -/
import Derived.Test.YtaldlapnhhhclaaGreatDataLaw
import Derived.Test.YtaldlapnhhhclaaGreatRange2
import Derived.Test.YtaldlapnhhhclaaGreatResult
import Derived.Maps.AppendAt
import Derived.Deep.MidRow
set_option linter.unusedVariables false
set_option linter.unusedSimpArgs false
namespace Go.Proofs.YtaldlapnhhhclaaGreat.Data
open Go.RowKit Tw Disk Go.Shelf
attribute [local go_sem] Oper.semAt_some
set_option maxHeartbeats 4000000
set_option maxRecDepth 100000

theorem cells_of {w : World} {g : Nat} {cs : Array Value} {t : TypeId} (h : w.heap[g]? = some (.cells cs t (0, 0))) (j : Nat) (v : Value) (hj : cs[j]? = some v) : w.cell? ⟨g, j, none⟩ = some v := by
  simp [World.cell?, h, hj]
section
variable {w : World} {p g mb c : Nat} {d : Dsk}
/-- between two rounds of Write -/
def WI (w : World) (B p g mb c B0 o : Nat) (A : Option Addr) (n cb : Nat) (b : List UInt8) (d : Dsk) (er : Nat) (pre : List Nat) (W : World) : Prop :=
  (wseq o b d pre).2 = er ∧ Dk W p g mb c (wseq o b d pre).1 ∧ W.heap[B0]? = some (.cells #[.pointer (some ⟨p, 0, none⟩)] 29 (0, 0)) ∧ W.heap[B0 + 1 + 1]? = some (.cells #[.slice A n cb] 23 (0, 0)) ∧
    W.heap[B0 + 1 + 1 + 1]? = some (.cells #[.int .i64 (er : Int)] 34 (0, 0)) ∧ Fr (fun k => k = p ∨ k = mb) w W ∧ B ≤ W.heap.size
theorem WI.fr {B0 o n cb er : Nat} {A : Option Addr} {b : List UInt8} {pre : List Nat} {W W' : World} {B : Nat} (h : WI w B p g mb c B0 o A n cb b d er pre W) (hw : w.heap.size ≤ B) (hB : B0 + 1 + 1 + 1 < B) (hp : p < B ∧ g < B ∧ mb < B)
    (hf : Fr (fun k => B ≤ k) W W') : WI w B p g mb c B0 o A n cb b d er pre W' := by
  obtain ⟨h1, h2, h3, h4, h5, h6, h7⟩ := h
  exact ⟨h1, h2.fr hf (by omega) (by omega) (by omega), heap_fr h3 hf (by omega), heap_fr h4 hf (by omega), heap_fr h5 hf (by omega), h6.trans hf (fun k hk e => by omega), Nat.le_trans h7 hf.size⟩
theorem Write_in (h : Dk w p g mb c d) (ho : d.ops + 1024 < 1000000000) (o L : Nat) (A : Option Addr) (n cb : Nat) (b : List UInt8) (hb : Byt w A n cb b) (hA : ∀ ad, A = some ad → 0 < n → ad.block ≠ p ∧ ad.block ≠ mb) (hg : Span.Good (o : Int) (L : Int) (secs d)) (hl : b.length = L * 16) :
    CallsIn Fence.wide 3 Tryz.prog 70 #[.pointer (some ⟨p, 0, none⟩), .agg #[.int .i64 (o : Int), .int .i64 (L : Int)], .slice A n cb] w fun e w' => e = .returned (.int .i64 ((wseq o b d (List.range L)).2 : Int)) ∧ Dk w' p g mb c (wseq o b d (List.range L)).1 ∧ Fr (fun k => k = p ∨ k = mb) w w' := by
  have hro : Fence.wide.round = none := rfl
  have hbl := hb.blen
  obtain rfl : n = L * 16 := by omega
  have hg2 := hg
  have hn := h.ok.n
  simp only [Span.Good, secs] at hg2
  have hlt := h.lts
  have HBX := Lib.hid ((((((Below.refl w.heap.size w).alloc (Nat.le_refl _) (.cells #[.pointer (some ⟨p, 0, none⟩)] 29)).alloc (by simp) (.cells #[.int .i64 (o : Int), .int .i64 (L : Int)] 144)).alloc (by simp; omega) (.cells #[.slice A (L * 16) cb] 23)).alloc (by simp; omega) (.cells #[.int .i64 0] 34)))
  obtain ⟨x0, x1, x2, x3⟩ := boxes4 w (.cells #[.pointer (some ⟨p, 0, none⟩)] 29) (.cells #[.int .i64 (o : Int), .int .i64 (L : Int)] 144) (.cells #[.slice A (L * 16) cb] 23) (.cells #[.int .i64 0] 34)
  have X0 := Lib.hid x0
  have X1 := Lib.hid x1
  have X2 := Lib.hid x2
  have X3 := Lib.hid x3
  have H := Lib.hid h
  have Hb := Lib.hid hb
  have Hg := Lib.hid hg
  have HA := Lib.hid hA
  clear h hb hg hbl hl x0 x1 x2 x3 hA
  refine callsIn_of_wp_marks Tryz.func70 rfl trivial ?_ hro
  simp only [Tryz.ntmps70, List.size_toArray, List.length_cons, List.length_nil, Nat.reduceAdd, Nat.reduceSub, Array.replicate_succ, Array.replicate_zero, List.push_toArray, List.append_toArray, List.nil_append, List.cons_append]
  gi_wp2_with (fail)
  refine ⟨trivial, ?_⟩
  refine (callsIn_wide.2 (c_check (H.out.bel HBX.out) (o : Int) (L : Int))).mono ?_
  rintro e w1 ⟨rfl, hb1⟩
  rw [if_pos Hg.out]
  have B1 := Lib.hid (HBX.out.trans (hb1.mono HBX.out.size))
  have Y0 := Lib.hid ((hb1.block _ (heap_lt X0.out)).trans X0.out)
  have Y1 := Lib.hid ((hb1.block _ (heap_lt X1.out)).trans X1.out)
  have Y2 := Lib.hid ((hb1.block _ (heap_lt X2.out)).trans X2.out)
  have Y3 := Lib.hid ((hb1.block _ (heap_lt X3.out)).trans X3.out)
  have c1 : w1.cell? ⟨w.heap.size + 1, 0, none⟩ = some (.int .i64 (o : Int)) := by have h := Y1.out; simp [World.cell?, h]
  have c2 : w1.cell? ⟨w.heap.size + 1, 1, none⟩ = some (.int .i64 (L : Int)) := by have h := Y1.out; simp [World.cell?, h]
  have c3 : w1.cell? ⟨w.heap.size + 1 + 1, 0, none⟩ = some (.slice A (L * 16) cb) := by have h := Y2.out; simp [World.cell?, h]
  clear X0 X1 X2 X3 HBX hb1
  gi_wp2_with (fail)
  refine ⟨trivial, (each_in Fence.wide 2 trivial rfl _ _ _).mono ?_⟩
  rintro e w2 ⟨rfl, rfl⟩
  have hal := (Below.refl w1.heap.size w1).alloc (Nat.le_refl _) (.cells #[.int .i64 (o : Int), .int .i64 (L : Int)] 144)
  have BS := Lib.hid (heap_alloc_new w1 (.cells #[.int .i64 (o : Int), .int .i64 (L : Int)] 144))
  have hBs : w1.heap.size < (w1.alloc (.cells #[.int .i64 (o : Int), .int .i64 (L : Int)] 144)).heap.size := by simp
  have hbs3 := heap_lt Y3.out
  have B2 := Lib.hid (B1.out.trans (hal.mono B1.out.size))
  have Z0 := Lib.hid ((hal.block _ (heap_lt Y0.out)).trans Y0.out)
  have Z2 := Lib.hid ((hal.block _ (heap_lt Y2.out)).trans Y2.out)
  have Z3 := Lib.hid ((hal.block _ (heap_lt Y3.out)).trans Y3.out)
  clear Y0 Y1 Y2 Y3 B1 c1 c2 c3 hal
  gi_wp2_with (fail)
  generalize (w1.alloc (.cells #[.int .i64 (o : Int), .int .i64 (L : Int)] 144)) = W2 at *
  generalize w1.heap.size = Bs at *
  refine wpIn_range_two hro (by omega) (gf := 171) (lb := #[.pointer (some ⟨Bs, 0, none⟩)]) rfl trivial (enters_of Tryz.func171 (by kernel_rfl) rfl)
    (each_stops Fence.wide 2 trivial rfl (by omega) Bs o L (by omega) (by omega) W2 BS.out) kpS_t (kpS_b hBs) (Below.refl _ _) (fun _ => rfl)
    (fun pre W => WI w W2.heap.size p g mb c w.heap.size o A (L * 16) cb b d 0 (pre.map Fin.val) W)
    (fun ex pre W => ex = .ret ∧ ∃ er, er ≠ 0 ∧ WI w W2.heap.size p g mb c w.heap.size o A (L * 16) cb b d er (pre.map Fin.val) W)
    (fun pre W W' h hf => WI.fr h (by omega) (by omega) (by omega) hf)
    (fun ex pre W W' ⟨h1, er, h2, h3⟩ hf => ⟨h1, er, h2, WI.fr h3 (by omega) (by omega) (by omega) hf⟩)
    ⟨rfl, H.out.bel B2.out, Z0.out, Z2.out, Z3.out, Fr.of_bel B2.out, Nat.le_refl _⟩
    8 9 (fun x => .int .i64 (8 + (o : Int) + (x.val : Int))) (fun x => .int .i64 ((x.val : Int) * 16)) ?assign ?body ?done ?stop
  case assign =>
    intro l x W K hK
    simp only [encI, fold_two, List.setIfInBounds_toArray, List.set_cons_zero, List.set_cons_succ] at hK ⊢
    gi_wp2
    exact hK
  case body =>
    rintro l pre ⟨i, hi⟩ W hwi hlt2
    simp only [encI, fold_two, List.setIfInBounds_toArray, List.set_cons_zero, List.set_cons_succ]
    obtain ⟨h1, h2, h3, h4, h5, h6, h7⟩ := hwi
    have hal := (Below.refl W.heap.size W).alloc (Nat.le_refl _) (.cells #[.int .u8 0, .int .u8 0, .int .u8 0, .int .u8 0, .int .u8 0, .int .u8 0, .int .u8 0, .int .u8 0, .int .u8 0, .int .u8 0, .int .u8 0, .int .u8 0, .int .u8 0, .int .u8 0, .int .u8 0, .int .u8 0] 127)
    have XB := Lib.hid (heap_alloc_new W (.cells #[.int .u8 0, .int .u8 0, .int .u8 0, .int .u8 0, .int .u8 0, .int .u8 0, .int .u8 0, .int .u8 0, .int .u8 0, .int .u8 0, .int .u8 0, .int .u8 0, .int .u8 0, .int .u8 0, .int .u8 0, .int .u8 0] 127))
    have H1 := Lib.hid h1
    have H2 := Lib.hid (h2.bel hal)
    have H3 := Lib.hid ((hal.block _ (heap_lt h3)).trans h3)
    have H4 := Lib.hid ((hal.block _ (heap_lt h4)).trans h4)
    have H5 := Lib.hid ((hal.block _ (heap_lt h5)).trans h5)
    have H6 := Lib.hid (h6.trans (Fr.of_bel (S := fun k => k = p ∨ k = mb) hal) (fun _ _ e => e))
    have HBs := Lib.hid (hal.block Bs (by omega))
    have hsz := hal.size
    have Hb2 := Lib.hid ((Hb.out.fr H6.out (fun ad e => by have := HA.out ad e (by omega); rintro (h | h) <;> simp_all)))
    have hbc := Hb.out.le
    have hops := wseq_ops (o := o) (b := b) (pre.map Fin.val) d
    rw [List.length_map] at hops
    have hxb : W.heap.size < (W.alloc (.cells #[.int .u8 0, .int .u8 0, .int .u8 0, .int .u8 0, .int .u8 0, .int .u8 0, .int .u8 0, .int .u8 0, .int .u8 0, .int .u8 0, .int .u8 0, .int .u8 0, .int .u8 0, .int .u8 0, .int .u8 0, .int .u8 0] 127)).heap.size := by simp
    have HFW := Lib.hid (Fr.of_bel (S := fun k => k = p ∨ k = mb) hal)
    clear h1 h2 h3 h4 h5 h6 hal
    gi_wp2
    generalize (W.alloc (.cells #[.int .u8 0, .int .u8 0, .int .u8 0, .int .u8 0, .int .u8 0, .int .u8 0, .int .u8 0, .int .u8 0, .int .u8 0, .int .u8 0, .int .u8 0, .int .u8 0, .int .u8 0, .int .u8 0, .int .u8 0, .int .u8 0] 127)) = W3 at *
    refine wpIn_region_phi (by rintro ⟨_, _, h⟩; exact h) (by kernel_rfl) (by kernel_rfl) 4 none (fun _ => false) (fun i_ v wz => match i_ with
      | 0 => v = .slice (some ⟨W.heap.size, 0, none⟩) 16 16
      | 1 => v = .slice A (L * 16) cb
      | 2 => v = .int .i64 ((i : Int) * 16)
      | 3 => ∃ A3 c3, v = .slice A3 (L * 16 - i * 16) c3 ∧ Byt wz A3 (L * 16 - i * 16) c3 (b.drop (i * 16))
      | _ => True) (by kernel_rfl) ?_ ?_ ?_
    · (repeat' (first | exact allLt_zero | refine allLt_succ ?_ ?_))
      · exact fun _ _ _ h _ => h
      · exact fun _ _ _ h _ => h
      · exact fun _ _ _ h _ => h
      · intro v w1 w2 h hg
        rw [show kindRow _ _ = none from by kernel_rfl] at hg
        obtain ⟨A3, c3, rfl, hr⟩ := h
        exact ⟨A3, c3, rfl, hr.bel (bel_grown hg)⟩
    · (repeat' (first | exact allLt_zero | refine allLt_succ ?_ ?_))
      · intro a w' hf he
        have k10 : a.tmps.getD 10 undef = .pointer (some ⟨W.heap.size, 0, none⟩) := hf.var (by kernel_rfl) rfl
        refine wpOp_step rfl (fun K hK => ?_)
        go_simp
        exact hK _ _ ⟨_, rfl, rfl, World.grownBy.refl _ _⟩
      · intro a w' hf he
        have k5 : a.tmps.getD 5 undef = .pointer (some ⟨w.heap.size + 1 + 1, 0, none⟩) := hf.var (by kernel_rfl) rfl
        rw [show kindRow _ _ = none from by kernel_rfl] at hf
        have dd := (hf.bel.cell (p := ⟨w.heap.size + 1 + 1, 0, none⟩) (heap_lt H4.out)).trans (cells_of H4.out 0 _ rfl)
        refine wpOp_step rfl (fun K hK => ?_)
        go_simp
        exact hK _ _ ⟨_, rfl, rfl, World.grownBy.refl _ _⟩
      · intro a w' hf he
        have k9 : a.tmps.getD 9 undef = .int .i64 ((i : Int) * 16) := hf.var (by kernel_rfl) rfl
        refine wpOp_step rfl (fun K hK => ?_)
        go_simp
        exact hK _ _ ⟨_, rfl, rfl, World.grownBy.refl _ _⟩
      · intro a w' hf he
        have f1 : a.tmps.getD 29 undef = .slice A (L * 16) cb := he 1 (by kernel_rfl)
        have f2 : a.tmps.getD 30 undef = .int .i64 ((i : Int) * 16) := he 2 (by kernel_rfl)
        rw [show kindRow _ _ = none from by kernel_rfl] at hf
        refine wpOp_step rfl (fun K hK => ?_)
        go_simp
        rw [if_pos (by omega)]
        exact hK _ _ ⟨_, rfl, ⟨_, _, rfl, (Hb2.out.bel hf.bel).cutB (k := i * 16) (by omega)⟩, World.grownBy.refl _ _⟩
    · intro a w' hf he
      have f0 : a.tmps.getD 28 undef = .slice (some ⟨W.heap.size, 0, none⟩) 16 16 := he 0 (by decide)
      obtain ⟨u29, f1⟩ : ∃ u, a.tmps.getD 29 undef = u := ⟨_, rfl⟩
      obtain ⟨u30, f2⟩ : ∃ u, a.tmps.getD 30 undef = u := ⟨_, rfl⟩
      obtain ⟨A3, c3, hv3, hr3⟩ := he 3 (by decide)
      have f3 : a.tmps.getD 31 undef = _ := hv3
      have hlit := hf.lit ((28, .slice (some ⟨W.heap.size, 0, none⟩) 16 16) :: (29, u29) :: (30, u30) :: (31, _) :: []) (by kernel_rfl) ⟨f0, f1, f2, f3, trivial⟩
      have hB := hf.bel
      clear he hf f0 f1 f2 f3 hv3
      subst hlit
      simp only [putAll_nil, putAll_cons, Act.put, List.setIfInBounds_toArray, List.set_cons_zero, List.set_cons_succ]
      simp only [List.drop_succ_cons, List.drop_zero]
      obtain ⟨res, hres⟩ : ∃ res, (wseq o b d (pre.map Fin.val)).1.write (8 + (o : Int) + (i : Int)) (secAt b i) = res := ⟨_, rfl⟩
      have hws : wseq o b d ((pre ++ [(⟨i, hi⟩ : Ix L)]).map Fin.val) = res := by rw [List.map_append, ← hres]; exact wseq_snoc i H1.out
      have hs16 := secAt_len Hb.out.blen hi
      have HS := Lib.hid hs16
      have HW := Lib.hid hws
      have HR := Lib.hid hres
      have Hr3 := Lib.hid hr3
      have XB4 := Lib.hid ((hB.block _ (heap_lt XB.out)).trans XB.out)
      have HF4 := Lib.hid (Fr.of_bel (S := fun k => k = W.heap.size) hB)
      have hnd := H2.out.lts
      have hwW := HFW.out.size
      have hw0 := H6.out.size
      clear hws hres hr3 hB hs16
      go_wp2_with (first
        | (refine wpL_copy rfl (.tmp 28) (.tmp 31) 23 23 rfl 5 Tryz.underlying23 (by kernel_rfl) _ _ 16 16 (L * 16 - i * 16) c3 rfl rfl W.heap.size 0 _ 127 XB4.out (bytesV (secAt b i)) 16 (by rw [bytesV_length, HS.out]) (Nat.min_eq_right (by omega)).symm (fun h0 => ⟨rfl, (by have h9 := (Hr3.out.uptoB (k := 16) (by omega)).src h0; exact h9)⟩) (by simp) bytesV_one (bytesV (secAt b i)) (splice_all (by rw [bytesV_length, HS.out]; rfl)) ?_
           intro w4 h4 hg4
           have HF5 := Lib.hid (HF4.out.trans (Fr.grown (S := fun k => k = W.heap.size) hg4 (by rintro k ⟨⟩; rfl)) (fun _ _ e => e))
           have Hx := Lib.hid h4
           clear h4 hg4))
      have G2 := Lib.hid (H2.out.fr HF5.out (by omega) (by omega) (by omega))
      have G3 := Lib.hid (heap_fr H3.out HF5.out (by omega))
      have G4 := Lib.hid (heap_fr H4.out HF5.out (by omega))
      have G5 := Lib.hid (heap_fr H5.out HF5.out (by omega))
      have G6 := Lib.hid (H6.out.trans HF5.out (fun k hk e => by omega))
      have GW := Lib.hid (HFW.out.trans HF5.out (fun k hk e => by omega))
      have e3 := cells_of G3.out 0 _ rfl
      refine wpIn_seq (region_in (by kernel_rfl) ?_ ?_)
      · rintro ⟨_, _, h⟩
        exact h
      clear H2 H3 H4 H5 H6 HFW HF4 HF5 XB XB4 Hr3 HBs
      go_wp2_with (first
        | (refine wpL_load_rd rfl 127 (.tmp 10) rfl ⟨W.heap.size, 0, none⟩ rfl (bytesV (secAt b i)) _ ((rd_of_heap (n := 16) Hx.out (by rw [bytesV_length, HS.out]) (by simp [maxLen])).cell _ rfl) Tryz.underlying127 rfl (by rw [bytesV_length, HS.out]; kernel_rfl) ?_)
        | (go_at_call 128
           refine (c_dWrite G2.out (by omega) (8 + (o : Int) + (i : Int)) (by omega) (secAt b i) HS.out).mono ?_
           rintro e w5 ⟨rfl, h5, f5⟩
           rw [HR.out] at h5 ⊢
           have K2 := Lib.hid h5
           have F5 := Lib.hid f5
           clear h5 f5))
      have L3 := Lib.hid (heap_fr G3.out F5.out (by omega))
      have L4 := Lib.hid (heap_fr G4.out F5.out (by omega))
      have L5 := Lib.hid (heap_fr G5.out F5.out (by omega))
      have L6 := Lib.hid (G6.out.trans F5.out (fun _ _ e => e))
      have LW := Lib.hid (GW.out.trans F5.out (fun _ _ e => e))
      have hsW := LW.out.size
      clear G2 G3 G4 G5 G6 GW F5 e3 HR
      obtain ⟨d5, er⟩ := res
      simp only at K2
      by_cases her : er = 0
      · subst her
        gi_wp2
        exact ⟨keeps_fr LW.out (fun k e => by rcases e with rfl | rfl <;> omega), LW.out.block Bs (by omega) (by rintro (h | h) <;> omega), by rw [HW.out], by rw [HW.out]; exact K2.out, L3.out, L4.out, L5.out, L6.out, by omega⟩
      · have hne : ((er : Int) != 0) = true := by simp; omega
        have c5 := cells_of L5.out 0 _ rfl
        have fz : w5.frozen? ⟨w.heap.size + 1 + 1 + 1, 0, none⟩ = false := by have h := L5.out; simp [World.frozen?, h]
        gi_wp2
        have fs : Fr (fun k => k = w.heap.size + 1 + 1 + 1) w5 (w5.setCell ⟨w.heap.size + 1 + 1 + 1, 0, none⟩ (.int .i64 (er : Int))) := Fr.setCell (S := fun k => k = w.heap.size + 1 + 1 + 1) (p := ⟨w.heap.size + 1 + 1 + 1, 0, none⟩) rfl _
        have fW : Fr (fun k => (k = p ∨ k = mb) ∨ k = w.heap.size + 1 + 1 + 1) W (w5.setCell ⟨w.heap.size + 1 + 1 + 1, 0, none⟩ (.int .i64 (er : Int))) := (LW.out.mono (S1 := fun k => (k = p ∨ k = mb) ∨ k = w.heap.size + 1 + 1 + 1) (fun _ _ e => .inl e)).trans fs (fun _ _ e => .inr e)
        have hs6 := fs.size
        refine ⟨keeps_fr fW (fun k e => by rcases e with (rfl | rfl) | rfl <;> omega), rfl, er, her, by rw [HW.out], by rw [HW.out]; exact K2.out.fr fs (by omega) (by omega) (by omega), heap_fr L3.out fs (by omega), heap_fr L4.out fs (by omega), ?_, L6.out.trans fs (fun k hk e => by omega), by omega⟩
        rw [heap_setCell_same _ _ 0 _ _ _ L5.out]
        simp
  case done =>
    rintro D ys W hD rfl ⟨h1, h2, h3, h4, h5, h6, h7⟩ hK
    rw [vals_range] at h1 h2
    have H1 := Lib.hid h1
    have H2 := Lib.hid h2
    have H5 := Lib.hid h5
    have H6 := Lib.hid h6
    have c5 := cells_of h5 0 _ rfl
    have fz : W.frozen? ⟨w.heap.size + 1 + 1 + 1, 0, none⟩ = false := by simp [World.frozen?, h5]
    clear h1 h2 h3 h4 h5 h6
    gi_wp2
    have hfs : Fr (fun k => k = w.heap.size + 1 + 1 + 1) W (W.setCell ⟨w.heap.size + 1 + 1 + 1, 0, none⟩ (.int .i64 0)) := Fr.setCell (S := fun k => k = w.heap.size + 1 + 1 + 1) (p := ⟨w.heap.size + 1 + 1 + 1, 0, none⟩) rfl _
    have hK6 := heap_fr hK hfs (by omega)
    have H2 := Lib.hid (H2.out.fr hfs (by omega) (by omega) (by omega))
    have h5 := heap_setCell_same _ _ 0 _ _ (.int .i64 0) H5.out
    have H6 := Lib.hid (H6.out.trans hfs (fun k hk e => by omega))
    have H5 := Lib.hid h5
    clear h5 hfs hK c5 fz
    generalize (W.setCell ⟨w.heap.size + 1 + 1 + 1, 0, none⟩ (.int .i64 0)) = W6 at *
    have fd := fr_put W6 D (.deferred none)
    have hlt2 := H2.out.lts
    refine ⟨by simp, .inl ⟨_, _, rfl, run_takeDeferred hK6, ?_⟩⟩
    exact ⟨_, results_one rfl _ _ ⟨w.heap.size + 1 + 1 + 1, 0, none⟩ _ (.int .i64 0) rfl Tryz.underlying34 rfl (cells_of (heap_fr H5.out fd (by omega)) 0 _ (by simp)), by rw [H1.out]; rfl, H2.out.fr fd (by omega) (by omega) (by omega), H6.out.trans fd (fun k hk e => by omega)⟩
  case stop =>
    rintro D ex pre W hD hpre ⟨rfl, er, her, h1, h2, h3, h4, h5, h6, h7⟩ hK
    obtain ⟨sfx, hsfx⟩ := hpre
    have hall : wseq o b d (List.range L) = wseq o b d (pre.map Fin.val) := by
      rw [← vals_range, ← hsfx, List.map_append]
      exact wseq_fail (by rw [h1]; exact her)
    rw [← hall] at h1 h2
    have H1 := Lib.hid h1
    have H2 := Lib.hid h2
    have H5 := Lib.hid h5
    have H6 := Lib.hid h6
    have c5 := cells_of h5 0 _ rfl
    clear h1 h2 h3 h4 h5 h6 hall hsfx
    gi_wp2
    have fd := fr_put W D (.deferred none)
    have hlt2 := H2.out.lts
    refine ⟨by simp, .inl ⟨_, _, rfl, run_takeDeferred hK, ?_⟩⟩
    exact ⟨_, results_one rfl _ _ ⟨w.heap.size + 1 + 1 + 1, 0, none⟩ _ (.int .i64 (er : Int)) rfl Tryz.underlying34 rfl (cells_of (heap_fr H5.out fd (by omega)) 0 _ (by simp)), by rw [H1.out], H2.out.fr fd (by omega) (by omega) (by omega), H6.out.trans fd (fun k hk e => by omega)⟩
theorem c_Write (h : Dk w p g mb c d) (ho : d.ops + 1024 < 1000000000) (x y : Int) (A : Option Addr) (n cb : Nat) (b : List UInt8) (hb : Byt w A n cb b) (hA : ∀ ad, A = some ad → 0 < n → ad.block ≠ p ∧ ad.block ≠ mb) :
    Calls Tryz.prog 70 #[.pointer (some ⟨p, 0, none⟩), .agg #[.int .i64 x, .int .i64 y], .slice A n cb] w fun e w' => e = .returned (.int .i64 ((dWrite d x y b).2 : Int)) ∧ Dk w' p g mb c (dWrite d x y b).1 ∧ Fr (fun k => k = p ∨ k = mb) w w' := by
  have hbl := hb.blen
  have hlt := h.lts
  have HBX := Lib.hid ((((((Below.refl w.heap.size w).alloc (Nat.le_refl _) (.cells #[.pointer (some ⟨p, 0, none⟩)] 29)).alloc (by simp) (.cells #[.int .i64 x, .int .i64 y] 144)).alloc (by simp; omega) (.cells #[.slice A n cb] 23)).alloc (by simp; omega) (.cells #[.int .i64 0] 34)))
  obtain ⟨x0, x1, x2, x3⟩ := boxes4 w (.cells #[.pointer (some ⟨p, 0, none⟩)] 29) (.cells #[.int .i64 x, .int .i64 y] 144) (.cells #[.slice A n cb] 23) (.cells #[.int .i64 0] 34)
  by_cases hg : Span.Good x y (secs d)
  · by_cases hl : (b.length : Int) = y * 16
    · obtain ⟨o, rfl⟩ : ∃ o : Nat, x = (o : Int) := ⟨x.toNat, by unfold Span.Good at hg; omega⟩
      obtain ⟨L, rfl⟩ : ∃ L : Nat, y = (L : Int) := ⟨y.toNat, by unfold Span.Good at hg; omega⟩
      have hw : dWrite d (o : Int) (L : Int) b = wseq o b d (List.range L) := by unfold dWrite; rw [if_pos hg, if_pos hl]; rfl
      rw [hw]
      exact callsIn_wide.1 (Write_in h ho o L A n cb b hb hA hg (by omega))
    · have hw : Hid (dWrite d x y b = (d, 2)) := Lib.hid (by unfold dWrite; rw [if_pos hg, if_neg hl])
      have X1 := Lib.hid x1
      have X2 := Lib.hid x2
      have X3 := Lib.hid x3
      have H := Lib.hid h
      have Hg := Lib.hid hg
      have hg2 := hg
      unfold Span.Good at hg2
      have hne : ((n : Int) != y * 16) = true := by simp; omega
      clear h hb hg x0 x1 x2 x3 hbl
      go_enter Tryz.func70, Tryz.ntmps70
      go_wp2_with (first
        | (go_at_call 126
           refine (c_check (H.out.bel HBX.out) x y).mono ?_
           rintro e w1 ⟨rfl, hb1⟩
           rw [if_pos Hg.out]
           have B1 := Lib.hid (HBX.out.trans (hb1.mono HBX.out.size))
           have Y1 := (hb1.block _ (heap_lt X1.out)).trans X1.out
           have Y2 := (hb1.block _ (heap_lt X2.out)).trans X2.out
           have Y3 := Lib.hid ((hb1.block _ (heap_lt X3.out)).trans X3.out)
           have c2 : w1.cell? ⟨w.heap.size + 1, 1, none⟩ = some (.int .i64 y) := cells_of Y1 1 _ rfl
           have c3 : w1.cell? ⟨w.heap.size + 1 + 1, 0, none⟩ = some (.slice A n cb) := cells_of Y2 0 _ rfl
           have c5 : w1.cell? ⟨w.heap.size + 1 + 1 + 1, 0, none⟩ = some (.int .i64 0) := cells_of Y3.out 0 _ rfl
           have fz : w1.frozen? ⟨w.heap.size + 1 + 1 + 1, 0, none⟩ = false := by have h := Y3.out; simp [World.frozen?, h]
           clear Y1 Y2 X1 X2 X3 hb1))
      have fs : Fr (fun k => k = w.heap.size + 1 + 1 + 1) w1 (w1.setCell ⟨w.heap.size + 1 + 1 + 1, 0, none⟩ (.int .i64 2)) := Fr.setCell (S := fun k => k = w.heap.size + 1 + 1 + 1) (p := ⟨w.heap.size + 1 + 1 + 1, 0, none⟩) rfl _
      have h5 := heap_setCell_same _ _ 0 _ _ (.int .i64 2) Y3.out
      refine bodyPost_ret (results_one rfl _ _ ⟨w.heap.size + 1 + 1 + 1, 0, none⟩ _ (.int .i64 2) rfl Tryz.underlying34 rfl (cells_of h5 0 _ (by simp))) rfl ?_
      rw [hw.out]
      exact ⟨rfl, (H.out.bel B1.out).fr fs (by omega) (by omega) (by omega), (Fr.of_bel (S := fun k => k = p ∨ k = mb) B1.out).trans fs (fun k hk e => by omega)⟩
  · have hw : Hid (dWrite d x y b = (d, 13)) := Lib.hid (by unfold dWrite; rw [if_neg hg])
    have X1 := Lib.hid x1
    have X2 := Lib.hid x2
    have X3 := Lib.hid x3
    have H := Lib.hid h
    have Hg := Lib.hid hg
    clear h hb hg x0 x1 x2 x3 hbl
    go_enter Tryz.func70, Tryz.ntmps70
    go_wp2_with (first
      | (go_at_call 126
         refine (c_check (H.out.bel HBX.out) x y).mono ?_
         rintro e w1 ⟨rfl, hb1⟩
         rw [if_neg Hg.out]
         have B1 := Lib.hid (HBX.out.trans (hb1.mono HBX.out.size))
         have Y1 := (hb1.block _ (heap_lt X1.out)).trans X1.out
         have Y2 := (hb1.block _ (heap_lt X2.out)).trans X2.out
         have Y3 := Lib.hid ((hb1.block _ (heap_lt X3.out)).trans X3.out)
         have c2 : w1.cell? ⟨w.heap.size + 1, 1, none⟩ = some (.int .i64 y) := cells_of Y1 1 _ rfl
         have c3 : w1.cell? ⟨w.heap.size + 1 + 1, 0, none⟩ = some (.slice A n cb) := cells_of Y2 0 _ rfl
         have c5 : w1.cell? ⟨w.heap.size + 1 + 1 + 1, 0, none⟩ = some (.int .i64 0) := cells_of Y3.out 0 _ rfl
         have fz : w1.frozen? ⟨w.heap.size + 1 + 1 + 1, 0, none⟩ = false := by have h := Y3.out; simp [World.frozen?, h]
         clear Y1 Y2 X1 X2 X3 hb1))
    have fs : Fr (fun k => k = w.heap.size + 1 + 1 + 1) w1 (w1.setCell ⟨w.heap.size + 1 + 1 + 1, 0, none⟩ (.int .i64 13)) := Fr.setCell (S := fun k => k = w.heap.size + 1 + 1 + 1) (p := ⟨w.heap.size + 1 + 1 + 1, 0, none⟩) rfl _
    have h5 := heap_setCell_same _ _ 0 _ _ (.int .i64 13) Y3.out
    refine bodyPost_ret (results_one rfl _ _ ⟨w.heap.size + 1 + 1 + 1, 0, none⟩ _ (.int .i64 13) rfl Tryz.underlying34 rfl (cells_of h5 0 _ (by simp))) rfl ?_
    rw [hw.out]
    exact ⟨rfl, (H.out.bel B1.out).fr fs (by omega) (by omega) (by omega), (Fr.of_bel (S := fun k => k = p ∨ k = mb) B1.out).trans fs (fun k hk e => by omega)⟩
end
end Go.Proofs.YtaldlapnhhhclaaGreat.Data
