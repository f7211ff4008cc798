/- Contract of data.Read. Conditions: none. -/
import Derived.Test.YtaldlapnhhhclaaGreatDataLaw
import Derived.Test.YtaldlapnhhhclaaGreatRange2
import Derived.Test.YtaldlapnhhhclaaGreatResult
import Derived.Test.YtaldlapnhhhclaaGreatData2
import Derived.Maps.AppendAt
import Derived.Deep.MidRow
set_option linter.unusedVariables false
set_option linter.unusedSimpArgs false
namespace Go.Proofs.YtaldlapnhhhclaaGreat.Data
open Go.RowKit Tw Disk Go.Shelf
attribute [local go_sem] Oper.semAt_some
set_option maxHeartbeats 4000000
set_option maxRecDepth 100000

section
variable {w : World} {p g mb c : Nat} {d : Dsk}
/-- what stands at a place of Read's rounds -/
def RI (w : World) (B p g mb c B0 G Bo o L : Nat) (d : Dsk) (er : Nat) (pre : List Nat) (W : World) : Prop :=
  (rseq o d (List.replicate (L * 16) 0) pre).2 = er ∧ Dk W p g mb c d ∧ W.heap[B0]? = some (.cells #[.pointer (some ⟨p, 0, none⟩)] 29 (0, 0)) ∧ W.heap[Bo]? = some (.cells #[.slice (some ⟨G, 0, none⟩) (L * 16) (L * 16)] 23 (0, 0)) ∧
    (er = 0 → W.heap[G]? = some (.cells (bytesV (rseq o d (List.replicate (L * 16) 0) pre).1).toArray 5 (0, 0))) ∧
    W.heap[B0 + 1 + 1]? = some (.cells #[.slice none 0 0] 23 (0, 0)) ∧ W.heap[B0 + 1 + 1 + 1]? = some (.cells #[.int .i64 (er : Int)] 34 (0, 0)) ∧ Below w.heap.size w W ∧ B ≤ W.heap.size
theorem RI.fr {B0 G Bo o L er : Nat} {pre : List Nat} {W W' : World} {B : Nat} (h : RI w B p g mb c B0 G Bo o L d er pre W) (hw : w.heap.size ≤ B) (hB : B0 + 1 + 1 + 1 < B ∧ G < B ∧ Bo < B) (hp : p < B ∧ g < B ∧ mb < B)
    (hf : Fr (fun k => B ≤ k) W W') : RI w B p g mb c B0 G Bo o L d er pre W' := by
  obtain ⟨h1, h2, h3, h4, h5, h6, h7, h8, h9⟩ := h
  exact ⟨h1, h2.fr hf (by omega) (by omega) (by omega), heap_fr h3 hf (by omega), heap_fr h4 hf (by omega), fun e => heap_fr (h5 e) hf (by omega), heap_fr h6 hf (by omega), heap_fr h7 hf (by omega), h8.trans (hf.bel (fun k hk => by omega) h8.size), Nat.le_trans h9 hf.size⟩
theorem Read_in (h : Dk w p g mb c d) (o L : Nat) (hg : Span.Good (o : Int) (L : Int) (secs d)) :
    CallsIn Fence.wide 3 Tryz.prog 72 #[.pointer (some ⟨p, 0, none⟩), .agg #[.int .i64 (o : Int), .int .i64 (L : Int)]] w fun e w' =>
      ∃ A2 c2, e = .returned (.tuple #[.slice A2 (rseq o d (List.replicate (L * 16) 0) (List.range L)).1.length c2, .int .i64 ((rseq o d (List.replicate (L * 16) 0) (List.range L)).2 : Int)]) ∧ Tw.Own w' w.heap.size 5 1 A2 (rseq o d (List.replicate (L * 16) 0) (List.range L)).1.length c2 (bytesV (rseq o d (List.replicate (L * 16) 0) (List.range L)).1) ∧ Below w.heap.size w w' := by
  have hro : Fence.wide.round = none := rfl
  have hg2 := hg
  have hn := h.ok.n
  simp only [Span.Good, secs] at hg2
  have hlt := h.lts
  have HBX := Lib.hid ((((((Below.refl w.heap.size w).alloc (Nat.le_refl _) (.cells #[.pointer (some ⟨p, 0, none⟩)] 29)).alloc (by simp) (.cells #[.int .i64 (o : Int), .int .i64 (L : Int)] 144)).alloc (by simp; omega) (.cells #[.slice none 0 0] 23)).alloc (by simp; omega) (.cells #[.int .i64 0] 34)))
  obtain ⟨x0, x1, x2, x3⟩ := boxes4 w (.cells #[.pointer (some ⟨p, 0, none⟩)] 29) (.cells #[.int .i64 (o : Int), .int .i64 (L : Int)] 144) (.cells #[.slice none 0 0] 23) (.cells #[.int .i64 0] 34)
  have X0 := Lib.hid x0
  have X1 := Lib.hid x1
  have X2 := Lib.hid x2
  have X3 := Lib.hid x3
  have H := Lib.hid h
  have Hg := Lib.hid hg
  clear h hg x0 x1 x2 x3
  refine callsIn_of_wp_marks Tryz.func72 rfl trivial ?_ hro
  simp only [Tryz.ntmps72, List.size_toArray, List.length_cons, List.length_nil, Nat.reduceAdd, Nat.reduceSub, Array.replicate_succ, Array.replicate_zero, List.push_toArray, List.append_toArray, List.nil_append, List.cons_append]
  gi_wp2_with (fail)
  refine ⟨trivial, ?_⟩
  refine (callsIn_wide.2 (c_check (H.out.bel HBX.out) (o : Int) (L : Int))).mono ?_
  rintro e w1 ⟨rfl, hb1⟩
  rw [if_pos Hg.out]
  have B1 := Lib.hid (HBX.out.trans (hb1.mono HBX.out.size))
  have Y0 := Lib.hid ((hb1.block _ (heap_lt X0.out)).trans X0.out)
  have Y1 := Lib.hid ((hb1.block _ (heap_lt X1.out)).trans X1.out)
  have Y2 := Lib.hid ((hb1.block _ (heap_lt X2.out)).trans X2.out)
  have Y3 := Lib.hid ((hb1.block _ (heap_lt X3.out)).trans X3.out)
  have hb3 := heap_lt Y3.out
  have c1 : w1.cell? ⟨w.heap.size + 1, 0, none⟩ = some (.int .i64 (o : Int)) := cells_of Y1.out 0 _ rfl
  have c2 : w1.cell? ⟨w.heap.size + 1, 1, none⟩ = some (.int .i64 (L : Int)) := cells_of Y1.out 1 _ rfl
  clear X0 X1 X2 X3 HBX hb1
  obtain ⟨iu, hiu, hzu, hsu, hbu⟩ := info_parts Num.info_u8
  obtain ⟨wm, hmk, hown, hgm⟩ := run_make_full (P := Tryz.prog) w1 w.heap.size 23 5 iu _ 1 Tryz.underlying23 hiu hzu hsu .i64 .i64 (L * 16) (by rw [hbu]; omega) (by unfold maxLen; omega) B1.out.size
  rw [show ((L * 16 : Nat) : Int) = (L : Int) * 16 from by omega] at hmk
  rw [Tw.made_u8] at hown
  have hm0 := bel_grown hgm
  have B2 := Lib.hid (B1.out.trans (hm0.mono B1.out.size))
  have Y0 := Lib.hid ((hm0.block _ (heap_lt Y0.out)).trans Y0.out)
  have Y1 := Lib.hid ((hm0.block _ (heap_lt Y1.out)).trans Y1.out)
  have Y2 := Lib.hid ((hm0.block _ (heap_lt Y2.out)).trans Y2.out)
  have Y3 := Lib.hid ((hm0.block _ (heap_lt Y3.out)).trans Y3.out)
  have hG := Tw.Own.at0 hown _ rfl
  simp only at hG
  have YG := Lib.hid (Tw.Own.heap hown)
  have hGl : w.heap.size + 1 + 1 + 1 < w1.heap.size := by have h := B1.out.size; have h3 := hb3; omega
  generalize w1.heap.size = G at *
  -- the variable out, in a block of its own
  have hal := (Below.refl wm.heap.size wm).alloc (Nat.le_refl _) (.cells #[.slice (some ⟨G, 0, none⟩) (L * 16) (L * 16)] 23)
  have YB := Lib.hid (heap_alloc_new wm (.cells #[.slice (some ⟨G, 0, none⟩) (L * 16) (L * 16)] 23))
  have d1 : (wm.alloc (.cells #[.slice (some ⟨G, 0, none⟩) (L * 16) (L * 16)] 23)).cell? ⟨w.heap.size + 1, 0, none⟩ = some (.int .i64 (o : Int)) := cells_of ((hal.block _ (heap_lt Y1.out)).trans Y1.out) 0 _ rfl
  have d2 : (wm.alloc (.cells #[.slice (some ⟨G, 0, none⟩) (L * 16) (L * 16)] 23)).cell? ⟨w.heap.size + 1, 1, none⟩ = some (.int .i64 (L : Int)) := cells_of ((hal.block _ (heap_lt Y1.out)).trans Y1.out) 1 _ rfl
  clear hown hgm
  gi_wp2_with (fail)
  refine ⟨trivial, (each_in Fence.wide 2 trivial rfl _ _ _).mono ?_⟩
  rintro e w2 ⟨rfl, rfl⟩
  have B3 := Lib.hid (B2.out.trans (hal.mono B2.out.size))
  have Y0 := Lib.hid ((hal.block _ (heap_lt Y0.out)).trans Y0.out)
  have Y2 := Lib.hid ((hal.block _ (heap_lt Y2.out)).trans Y2.out)
  have Y3 := Lib.hid ((hal.block _ (heap_lt Y3.out)).trans Y3.out)
  have YG := Lib.hid ((hal.block _ (heap_lt YG.out)).trans YG.out)
  have hBo := heap_lt YB.out
  clear hal hmk hm0 c1 c2 d1 d2 B1 B2 hb3 hiu hzu hsu hbu Y1
  generalize (wm.alloc (.cells #[.slice (some ⟨G, 0, none⟩) (L * 16) (L * 16)] 23)) = W1 at *
  have hGB := hG.2
  generalize wm.heap.size = Bo at *
  have hal := (Below.refl W1.heap.size W1).alloc (Nat.le_refl _) (.cells #[.int .i64 (o : Int), .int .i64 (L : Int)] 144)
  have BS := Lib.hid (heap_alloc_new W1 (.cells #[.int .i64 (o : Int), .int .i64 (L : Int)] 144))
  have hBs : W1.heap.size < (W1.alloc (.cells #[.int .i64 (o : Int), .int .i64 (L : Int)] 144)).heap.size := by simp
  have B2 := Lib.hid (B3.out.trans (hal.mono B3.out.size))
  have Z0 := Lib.hid ((hal.block _ (heap_lt Y0.out)).trans Y0.out)
  have Z2 := Lib.hid ((hal.block _ (heap_lt Y2.out)).trans Y2.out)
  have Z3 := Lib.hid ((hal.block _ (heap_lt Y3.out)).trans Y3.out)
  have ZG := Lib.hid ((hal.block _ (heap_lt YG.out)).trans YG.out)
  have ZB := Lib.hid ((hal.block _ (heap_lt YB.out)).trans YB.out)
  clear hal Y0 Y2 Y3 YG YB B3
  gi_wp2_with (fail)
  generalize (W1.alloc (.cells #[.int .i64 (o : Int), .int .i64 (L : Int)] 144)) = W2 at *
  generalize W1.heap.size = Bs at *
  refine wpIn_range_two hro (by omega) (gf := 171) (lb := #[.pointer (some ⟨Bs, 0, none⟩)]) rfl trivial (enters_of Tryz.func171 (by kernel_rfl) rfl)
    (each_stops Fence.wide 2 trivial rfl (by omega) Bs o L (by omega) (by omega) W2 BS.out) kpS_t (kpS_b hBs) (Below.refl _ _) (fun _ => rfl)
    (fun pre W => RI w W2.heap.size p g mb c w.heap.size G Bo o L d 0 (pre.map Fin.val) W)
    (fun ex pre W => ex = .ret ∧ ∃ er, er ≠ 0 ∧ RI w W2.heap.size p g mb c w.heap.size G Bo o L d er (pre.map Fin.val) W)
    (fun pre W W' h hf => RI.fr h (by omega) (by omega) (by omega) hf)
    (fun ex pre W W' ⟨h1, er, h2, h3⟩ hf => ⟨h1, er, h2, RI.fr h3 (by omega) (by omega) (by omega) hf⟩)
    ⟨rfl, H.out.bel B2.out, Z0.out, ZB.out, fun _ => ZG.out, Z2.out, Z3.out, B2.out, Nat.le_refl _⟩
    8 9 (fun x => .int .i64 (8 + (o : Int) + (x.val : Int))) (fun x => .int .i64 ((x.val : Int) * 16)) ?assign ?body ?done ?stop
  case assign =>
    intro l x W K hK
    simp only [encI, fold_two, List.setIfInBounds_toArray, List.set_cons_zero, List.set_cons_succ] at hK ⊢
    gi_wp2
    exact hK
  case body =>
    rintro l pre ⟨i, hi⟩ W ⟨h1, h2, h3, h4, h5, h6, h7, h8, h9⟩ hlt2
    simp only [encI, fold_two, List.setIfInBounds_toArray, List.set_cons_zero, List.set_cons_succ]
    obtain ⟨out, hout⟩ : ∃ out, (rseq o d (List.replicate (L * 16) 0) (pre.map Fin.val)).1 = out := ⟨_, rfl⟩
    obtain ⟨res, hres⟩ : ∃ res, d.read (8 + (o : Int) + (i : Int)) = res := ⟨_, rfl⟩
    have hsn := rseq_snoc (o := o) (d := d) (out := List.replicate (L * 16) 0) (l := pre.map Fin.val) i h1
    rw [hout, hres] at hsn
    have hol : out.length = L * 16 := by
      rw [← hout]
      exact rseq_len h2.ok (by simp) (fun j hj => by obtain ⟨x, _, rfl⟩ := List.mem_map.1 hj; exact x.2) h1
    have hs16 : res.1.length = 16 := by rw [← hres]; exact read_len h2.ok _
    have hG5 := h5 rfl
    rw [hout] at hG5
    have H2 := Lib.hid h2
    have H3 := Lib.hid h3
    have H4 := Lib.hid h4
    have H5 := Lib.hid hG5
    have H6 := Lib.hid h6
    have H7 := Lib.hid h7
    have H8 := Lib.hid h8
    have Hsn := Lib.hid hsn
    have Hol := Lib.hid hol
    have Hs := Lib.hid hs16
    have Hsz : Hid ((bytesV res.1).toArray.size = 16) := Lib.hid (by simp [bytesV, hs16])
    have Hres := Lib.hid hres
    have e3 := cells_of h3 0 _ rfl
    clear h1 h2 h3 h4 h5 hG5 h6 h7 h8 hsn hol hs16 hout hres
    refine wpIn_block (wpIn_seq (region_in (by kernel_rfl) ?_ ?_))
    · rintro ⟨_, _, h⟩
      exact h
    go_wp2_with (first
      | (go_at_call 130
         refine (c_dRead H2.out (8 + (o : Int) + (i : Int)) (by omega)).mono ?_
         rintro e w5 ⟨rfl, hb5⟩
         rw [Hres.out]
         unfold secV
         have hall := hb5.trans ((Below.refl W.heap.size w5).alloc hb5.size (.cells #[.int .u8 0, .int .u8 0, .int .u8 0, .int .u8 0, .int .u8 0, .int .u8 0, .int .u8 0, .int .u8 0, .int .u8 0, .int .u8 0, .int .u8 0, .int .u8 0, .int .u8 0, .int .u8 0, .int .u8 0, .int .u8 0] 127))
         have HB5 := Lib.hid hall
         have hw5 := hb5.size
         have HX5 := Lib.hid (heap_alloc_new w5 (.cells #[.int .u8 0, .int .u8 0, .int .u8 0, .int .u8 0, .int .u8 0, .int .u8 0, .int .u8 0, .int .u8 0, .int .u8 0, .int .u8 0, .int .u8 0, .int .u8 0, .int .u8 0, .int .u8 0, .int .u8 0, .int .u8 0] 127))
         clear e3 hb5 hall)
      | (refine wpL_store_all rfl rfl 127 (.tmp 10) (.tmp 30) rfl _ rfl _ rfl _ _ HX5.out (by rw [Hsz.out]; kernel_rfl) Hsz.out (fun v hv => bytesV_one v (by simpa using hv)) ?_
         intro w6 x6 g6
         have HX6 := Lib.hid x6
         have HB6 := Lib.hid (HB5.out.grown g6 HB5.out.size (by rintro k ⟨⟩; exact hw5))
         clear x6 g6 HX5))
    have G2 := Lib.hid (H2.out.bel HB6.out)
    have G4 := Lib.hid ((HB6.out.block _ (heap_lt H4.out)).trans H4.out)
    have G3 := Lib.hid ((HB6.out.block _ (heap_lt H3.out)).trans H3.out)
    have G5 := Lib.hid ((HB6.out.block _ (heap_lt H5.out)).trans H5.out)
    have G6 := Lib.hid ((HB6.out.block _ (heap_lt H6.out)).trans H6.out)
    have G7 := Lib.hid ((HB6.out.block _ (heap_lt H7.out)).trans H7.out)
    have G8 := Lib.hid (H8.out.trans (HB6.out.mono H8.out.size))
    have GW := Lib.hid (Fr.of_bel (S := fun _ => False) HB6.out)
    have hx6 := heap_lt HX6.out
    have hs6 := HB6.out.size
    clear H2 H3 H4 H5 H6 H7 H8 HB5 HB6
    obtain ⟨s, er⟩ := res
    simp only at Hs Hsz Hsn HX6
    by_cases her : er = 0
    · subst her
      have Hsn2 := Lib.hid (Hsn.out.trans (if_pos rfl))
      clear Hsn
      gi_wp2
      have Hsn3 : Hid (rseq o d (List.replicate (L * 16) 0) ((pre ++ [(⟨i, hi⟩ : Ix L)]).map Fin.val) = (layAt out i s, 0)) := Lib.hid (by rw [List.map_append]; exact Hsn2.out)
      have hgw := GW.out.size
      have hw5' : W.heap.size ≤ w5.heap.size := hw5
      refine wpIn_region_phi (by rintro ⟨_, _, h⟩; exact h) (by kernel_rfl) (by kernel_rfl) 4 none (fun _ => false) (fun i_ v wz => match i_ with
        | 0 => v = .slice (some ⟨G, 0, none⟩) (L * 16) (L * 16)
        | 1 => v = .int .i64 ((i : Int) * 16)
        | 2 => v = .slice (some ⟨G, i * 16, none⟩) (L * 16 - i * 16) (L * 16 - i * 16)
        | 3 => v = .slice (some ⟨w5.heap.size, 0, none⟩) 16 16
        | _ => True) (by kernel_rfl) ?_ ?_ ?_
      · (repeat' (first | exact allLt_zero | refine allLt_succ ?_ ?_))
        · exact fun _ _ _ h _ => h
        · exact fun _ _ _ h _ => h
        · exact fun _ _ _ h _ => h
        · exact fun _ _ _ h _ => h
      · (repeat' (first | exact allLt_zero | refine allLt_succ ?_ ?_))
        · intro a w' hf he
          have k7 : a.tmps.getD 7 undef = .pointer (some ⟨Bo, 0, none⟩) := hf.var (by kernel_rfl) rfl
          rw [show kindRow _ _ = none from by kernel_rfl] at hf
          have dd := (hf.bel.cell (p := ⟨Bo, 0, none⟩) (heap_lt G4.out)).trans (cells_of G4.out 0 _ rfl)
          refine wpOp_step rfl (fun K hK => ?_)
          go_simp
          exact hK _ _ ⟨_, rfl, rfl, World.grownBy.refl _ _⟩
        · intro a w' hf he
          have k9 : a.tmps.getD 9 undef = .int .i64 ((i : Int) * 16) := hf.var (by kernel_rfl) rfl
          refine wpOp_step rfl (fun K hK => ?_)
          go_simp
          exact hK _ _ ⟨_, rfl, rfl, World.grownBy.refl _ _⟩
        · intro a w' hf he
          have f0 : a.tmps.getD 35 undef = .slice (some ⟨G, 0, none⟩) (L * 16) (L * 16) := he 0 (by kernel_rfl)
          have f1 : a.tmps.getD 36 undef = .int .i64 ((i : Int) * 16) := he 1 (by kernel_rfl)
          rw [show kindRow _ _ = none from by kernel_rfl] at hf
          refine wpOp_step rfl (fun K hK => ?_)
          go_simp
          rw [if_pos (by omega), if_neg (by omega)]
          exact hK _ _ ⟨_, rfl, rfl, World.grownBy.refl _ _⟩
        · intro a w' hf he
          have k10 : a.tmps.getD 10 undef = .pointer (some ⟨w5.heap.size, 0, none⟩) := hf.var (by kernel_rfl) rfl
          refine wpOp_step rfl (fun K hK => ?_)
          go_simp
          exact hK _ _ ⟨_, rfl, rfl, World.grownBy.refl _ _⟩
      · intro a w' hf he
        obtain ⟨u35, f0⟩ : ∃ u, a.tmps.getD 35 undef = u := ⟨_, rfl⟩
        obtain ⟨u36, f1⟩ : ∃ u, a.tmps.getD 36 undef = u := ⟨_, rfl⟩
        have f2 : a.tmps.getD 37 undef = .slice (some ⟨G, i * 16, none⟩) (L * 16 - i * 16) (L * 16 - i * 16) := he 2 (by decide)
        have f3 : a.tmps.getD 38 undef = .slice (some ⟨w5.heap.size, 0, none⟩) 16 16 := he 3 (by decide)
        have hlit := hf.lit ((35, u35) :: (36, u36) :: (37, .slice (some ⟨G, i * 16, none⟩) (L * 16 - i * 16) (L * 16 - i * 16)) :: (38, .slice (some ⟨w5.heap.size, 0, none⟩) 16 16) :: []) (by kernel_rfl) ⟨f0, f1, f2, f3, trivial⟩
        have hB := hf.bel
        clear he hf f0 f1 f2 f3 
        subst hlit
        simp only [putAll_nil, putAll_cons, Act.put, List.setIfInBounds_toArray, List.set_cons_zero, List.set_cons_succ]
        simp only [List.drop_succ_cons, List.drop_zero]
        have G2 := Lib.hid (G2.out.bel hB)
        have G4 := Lib.hid ((hB.block _ (heap_lt G4.out)).trans G4.out)
        have G3 := Lib.hid ((hB.block _ (heap_lt G3.out)).trans G3.out)
        have G5 := Lib.hid ((hB.block _ (heap_lt G5.out)).trans G5.out)
        have G6 := Lib.hid ((hB.block _ (heap_lt G6.out)).trans G6.out)
        have G7 := Lib.hid ((hB.block _ (heap_lt G7.out)).trans G7.out)
        have HX6 := Lib.hid ((hB.block _ (heap_lt HX6.out)).trans HX6.out)
        have GW := Lib.hid ((GW.out.mono (S1 := fun k => k = G) (fun _ _ e => e.elim)).trans (Fr.of_bel (S := fun k => k = G) hB) (fun _ _ e => e))
        have G8 := Lib.hid (G8.out.trans (hB.mono G8.out.size))
        clear hB
        go_wp2_with (first
          | (refine wpL_copy rfl (.tmp 37) (.tmp 38) 23 23 rfl 5 Tryz.underlying23 (by kernel_rfl) _ _ (L * 16 - i * 16) (L * 16 - i * 16) 16 16 rfl rfl G (i * 16) _ 5 G5.out (bytesV s) 16 (by rw [bytesV_length, Hs.out]) (Nat.min_eq_left (by omega)).symm (fun h0 => ⟨rfl, _, rfl, (rd_of_heap (n := 16) HX6.out (by rw [bytesV_length, Hs.out]) (by simp [maxLen])).cell _ rfl⟩) (by rw [bytesV_length, Hol.out]; omega) bytesV_one (bytesV (layAt out i s)) (lay_splice out i s Hs.out) ?_
             intro w7 h7 hg7
             have L5 := Lib.hid h7
             have HG7 := Lib.hid hg7
             clear h7 hg7))
        have hfg : Fr (fun k => k = G) w' w7 := Fr.grown HG7.out (by rintro k ⟨⟩; rfl)
        have hfW := GW.out.trans hfg (fun _ _ e => e)
        have hsW := hfW.size
        exact ⟨keeps_fr hfW (fun k e => by omega), hfW.block Bs (by omega) (by omega), by rw [Hsn3.out], G2.out.fr hfg (by omega) (by omega) (by omega), heap_fr G3.out hfg (by omega), heap_fr G4.out hfg (by omega), fun _ => by rw [Hsn3.out]; exact L5.out, heap_fr G6.out hfg (by omega), heap_fr G7.out hfg (by omega), G8.out.grown HG7.out G8.out.size (by rintro k ⟨⟩; omega), by omega⟩
    · have hne : ((er : Int) != 0) = true := by simp; omega
      have Hsn2 := Lib.hid (Hsn.out.trans (if_neg her))
      clear Hsn
      have q6 := cells_of G6.out 0 _ rfl
      have q7 := cells_of G7.out 0 _ rfl
      have fz6 : w6.frozen? ⟨w.heap.size + 1 + 1, 0, none⟩ = false := by have h := G6.out; simp [World.frozen?, h]
      have fz7 : w6.frozen? ⟨w.heap.size + 1 + 1 + 1, 0, none⟩ = false := by have h := G7.out; simp [World.frozen?, h]
      gi_wp2
      have Hsn3 : Hid (rseq o d (List.replicate (L * 16) 0) ((pre ++ [(⟨i, hi⟩ : Ix L)]).map Fin.val) = ([], er)) := Lib.hid (by rw [List.map_append]; exact Hsn2.out)
      have fs : Fr (fun k => k = w.heap.size + 1 + 1 ∨ k = w.heap.size + 1 + 1 + 1) w6 ((w6.setCell ⟨w.heap.size + 1 + 1, 0, none⟩ (.slice none 0 0)).setCell ⟨w.heap.size + 1 + 1 + 1, 0, none⟩ (.int .i64 (er : Int))) :=
        (Fr.setCell (S := fun k => k = w.heap.size + 1 + 1 ∨ k = w.heap.size + 1 + 1 + 1) (p := ⟨w.heap.size + 1 + 1, 0, none⟩) (.inl rfl) _).trans (Fr.setCell (S := fun k => k = w.heap.size + 1 + 1 ∨ k = w.heap.size + 1 + 1 + 1) (p := ⟨w.heap.size + 1 + 1 + 1, 0, none⟩) (.inr rfl) _) (fun _ _ e => e)
      have fa : Fr (fun k => k = w.heap.size + 1 + 1) w6 (w6.setCell ⟨w.heap.size + 1 + 1, 0, none⟩ (.slice none 0 0)) := Fr.setCell (S := fun k => k = w.heap.size + 1 + 1) (p := ⟨w.heap.size + 1 + 1, 0, none⟩) rfl _
      have fb : Fr (fun k => k = w.heap.size + 1 + 1 + 1) (w6.setCell ⟨w.heap.size + 1 + 1, 0, none⟩ (.slice none 0 0)) ((w6.setCell ⟨w.heap.size + 1 + 1, 0, none⟩ (.slice none 0 0)).setCell ⟨w.heap.size + 1 + 1 + 1, 0, none⟩ (.int .i64 (er : Int))) := Fr.setCell (S := fun k => k = w.heap.size + 1 + 1 + 1) (p := ⟨w.heap.size + 1 + 1 + 1, 0, none⟩) rfl _
      have hfW := (GW.out.mono (S1 := fun k => k = w.heap.size + 1 + 1 ∨ k = w.heap.size + 1 + 1 + 1) (fun _ _ e => e.elim)).trans fs (fun _ _ e => e)
      have hsW := hfW.size
      have r6 := heap_setCell_same _ _ 0 _ _ (.slice none 0 0) G6.out
      have r7 := heap_setCell_same _ _ 0 _ _ (.int .i64 (er : Int)) (heap_fr G7.out fa (by omega))
      exact ⟨keeps_fr hfW (fun k e => by omega), rfl, er, her, by rw [Hsn3.out], G2.out.fr fs (by omega) (by omega) (by omega), heap_fr G3.out fs (by omega), heap_fr G4.out fs (by omega), fun e => absurd e her, heap_fr r6 fb (by omega), r7, G8.out.trans (fs.bel (fun k e => by omega) G8.out.size), by omega⟩
  case done =>
    rintro D ys W hD rfl ⟨h1, h2, h3, h4, h5, h6, h7, h8, h9⟩ hK
    rw [vals_range] at h1 h5
    obtain ⟨⟨out, er⟩, hout⟩ : ∃ r, rseq o d (List.replicate (L * 16) 0) (List.range L) = r := ⟨_, rfl⟩
    have hol : (rseq o d (List.replicate (L * 16) 0) (List.range L)).1.length = L * 16 := rseq_len h2.ok (by simp) (fun j hj => List.mem_range.1 hj) h1
    rw [hout] at h1 h5 hol
    simp only at h1 h5 hol
    subst h1
    have Hout := Lib.hid hout
    have H5 := Lib.hid (h5 trivial)
    have H6 := Lib.hid h6
    have H7 := Lib.hid h7
    have H8 := Lib.hid h8
    have Hol := Lib.hid hol
    have HK := Lib.hid hK
    have q4 := cells_of h4 0 _ rfl
    have q6 := cells_of h6 0 _ rfl
    have q7 := cells_of h7 0 _ rfl
    have fz6 : W.frozen? ⟨w.heap.size + 1 + 1, 0, none⟩ = false := by simp [World.frozen?, h6]
    have fz7 : W.frozen? ⟨w.heap.size + 1 + 1 + 1, 0, none⟩ = false := by simp [World.frozen?, h7]
    clear h2 h3 h4 h5 h6 h7 h8 hout hol hK
    gi_wp2
    have fa : Fr (fun k => k = w.heap.size + 1 + 1) W (W.setCell ⟨w.heap.size + 1 + 1, 0, none⟩ (.slice (some ⟨G, 0, none⟩) (L * 16) (L * 16))) := Fr.setCell (S := fun k => k = w.heap.size + 1 + 1) (p := ⟨w.heap.size + 1 + 1, 0, none⟩) rfl _
    have fb : Fr (fun k => k = w.heap.size + 1 + 1 + 1) (W.setCell ⟨w.heap.size + 1 + 1, 0, none⟩ (.slice (some ⟨G, 0, none⟩) (L * 16) (L * 16))) ((W.setCell ⟨w.heap.size + 1 + 1, 0, none⟩ (.slice (some ⟨G, 0, none⟩) (L * 16) (L * 16))).setCell ⟨w.heap.size + 1 + 1 + 1, 0, none⟩ (.int .i64 0)) := Fr.setCell (S := fun k => k = w.heap.size + 1 + 1 + 1) (p := ⟨w.heap.size + 1 + 1 + 1, 0, none⟩) rfl _
    have r6 := heap_fr (heap_setCell_same _ _ 0 _ _ (.slice (some ⟨G, 0, none⟩) (L * 16) (L * 16)) H6.out) fb (by omega)
    have r7 := heap_setCell_same _ _ 0 _ _ (.int .i64 0) (heap_fr H7.out fa (by omega))
    have r5 := heap_fr (heap_fr H5.out fa (by omega)) fb (by omega)
    have rK := heap_fr (heap_fr HK.out fa (by omega)) fb (by omega)
    have rB := (H8.out.trans (fa.bel (fun k e => by omega) H8.out.size)).trans (fb.bel (fun k e => by omega) (H8.out.trans (fa.bel (fun k e => by omega) H8.out.size)).size)
    generalize ((W.setCell ⟨w.heap.size + 1 + 1, 0, none⟩ (.slice (some ⟨G, 0, none⟩) (L * 16) (L * 16))).setCell ⟨w.heap.size + 1 + 1 + 1, 0, none⟩ (.int .i64 0)) = W9 at *
    have fd := fr_put W9 D (.deferred none)
    refine ⟨by simp, .inl ⟨_, _, rfl, run_takeDeferred rK, ?_⟩⟩
    rw [Hout.out]
    exact ⟨_, results_two rfl _ _ ⟨w.heap.size + 1 + 1, 0, none⟩ ⟨w.heap.size + 1 + 1 + 1, 0, none⟩ _ _ (.slice (some ⟨G, 0, none⟩) (L * 16) (L * 16)) (.int .i64 0) rfl rfl Tryz.underlying23 rfl (cells_of (heap_fr r6 fd (by omega)) 0 _ (by simp)) Tryz.underlying34 rfl (cells_of (heap_fr r7 fd (by omega)) 0 _ (by simp)), some ⟨G, 0, none⟩, L * 16, by rw [Hol.out]; rfl, by rw [Hol.out]; exact own_of_heap (heap_fr r5 fd (by omega)) (by omega) (by rw [bytesV_length, Hol.out]) (by unfold maxLen; omega), rB.trans (fd.bel (fun k e => by omega) rB.size)⟩
  case stop =>
    rintro D ex pre W hD hpre ⟨rfl, er, her, h1, h2, h3, h4, h5, h6, h7, h8, h9⟩ hK
    obtain ⟨sfx, hsfx⟩ := hpre
    have hall : rseq o d (List.replicate (L * 16) 0) (List.range L) = ([], er) := by
      have h10 : (rseq o d (List.replicate (L * 16) 0) (pre.map Fin.val)).2 ≠ 0 := by rw [h1]; exact her
      rw [← vals_range, ← hsfx, List.map_append, rseq_fail h10]
      exact Prod.ext (rseq_err h10) h1
    have Hout := Lib.hid hall
    have H6 := Lib.hid h6
    have H7 := Lib.hid h7
    have H8 := Lib.hid h8
    have HK := Lib.hid hK
    clear h1 h2 h3 h4 h5 h6 h7 h8 hall hsfx hK
    gi_wp2
    have fd := fr_put W D (.deferred none)
    refine ⟨by simp, .inl ⟨_, _, rfl, run_takeDeferred HK.out, ?_⟩⟩
    rw [Hout.out]
    exact ⟨_, results_two rfl _ _ ⟨w.heap.size + 1 + 1, 0, none⟩ ⟨w.heap.size + 1 + 1 + 1, 0, none⟩ _ _ (.slice none 0 0) (.int .i64 (er : Int)) rfl rfl Tryz.underlying23 rfl (cells_of (heap_fr H6.out fd (by omega)) 0 _ (by simp)) Tryz.underlying34 rfl (cells_of (heap_fr H7.out fd (by omega)) 0 _ (by simp)), none, 0, rfl, World.ownsRow_nil _ _ _ _, H8.out.trans (fd.bel (fun k e => by omega) H8.out.size)⟩
end
end Go.Proofs.YtaldlapnhhhclaaGreat.Data
