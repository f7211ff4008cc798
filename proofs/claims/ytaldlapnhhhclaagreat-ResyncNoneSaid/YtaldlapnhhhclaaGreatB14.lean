/- Texts joined: what the disks, the rings and their reference do. Conditions: none. -/
import Derived.Test.YtaldlapnhhhclaaGreatB13
import Derived.Maps.AppendAt
import Derived.Deep.MidRow
import Derived.Test.YtaldlapnhhhclaaGreatB6
import Derived.Test.YtaldlapnhhhclaaGreatB11
import Derived.Test.YtaldlapnhhhclaaGreatB10
/- Contract of data.Read. Conditions: none. -/
set_option linter.unusedVariables false
set_option linter.unusedSimpArgs false
namespace Go.Proofs.YtaldlapnhhhclaaGreat.Data
open Go.RowKit Tw Disk Go.Shelf
attribute [local go_sem] Oper.semAt_some
set_option maxHeartbeats 4000000
set_option maxRecDepth 100000

section
variable {w : World} {p g mb c : Nat} {d : Dsk}
/-- what stands at a place of Read's rounds -/
def RI (w : World) (B p g mb c B0 G Bo o L : Nat) (d : Dsk) (er : Nat) (pre : List Nat) (W : World) : Prop :=
  (rseq o d (List.replicate (L * 16) 0) pre).2 = er ∧ Dk W p g mb c d ∧ W.heap[B0]? = some (.cells #[.pointer (some ⟨p, 0, none⟩)] 29 (0, 0)) ∧ W.heap[Bo]? = some (.cells #[.slice (some ⟨G, 0, none⟩) (L * 16) (L * 16)] 23 (0, 0)) ∧
    (er = 0 → W.heap[G]? = some (.cells (bytesV (rseq o d (List.replicate (L * 16) 0) pre).1).toArray 5 (0, 0))) ∧
    W.heap[B0 + 1 + 1]? = some (.cells #[.slice none 0 0] 23 (0, 0)) ∧ W.heap[B0 + 1 + 1 + 1]? = some (.cells #[.int .i64 (er : Int)] 34 (0, 0)) ∧ Below w.heap.size w W ∧ B ≤ W.heap.size
theorem RI.fr {B0 G Bo o L er : Nat} {pre : List Nat} {W W' : World} {B : Nat} (h : RI w B p g mb c B0 G Bo o L d er pre W) (hw : w.heap.size ≤ B) (hB : B0 + 1 + 1 + 1 < B ∧ G < B ∧ Bo < B) (hp : p < B ∧ g < B ∧ mb < B)
    (hf : Fr (fun k => B ≤ k) W W') : RI w B p g mb c B0 G Bo o L d er pre W' := by
  obtain ⟨h1, h2, h3, h4, h5, h6, h7, h8, h9⟩ := h
  exact ⟨h1, h2.fr hf (by omega) (by omega) (by omega), heap_fr h3 hf (by omega), heap_fr h4 hf (by omega), fun e => heap_fr (h5 e) hf (by omega), heap_fr h6 hf (by omega), heap_fr h7 hf (by omega), h8.trans (hf.bel (fun k hk => by omega) h8.size), Nat.le_trans h9 hf.size⟩
theorem Read_in (h : Dk w p g mb c d) (o L : Nat) (hg : Span.Good (o : Int) (L : Int) (secs d)) :
    CallsIn Fence.wide 3 Tryz.prog 72 #[.pointer (some ⟨p, 0, none⟩), .agg #[.int .i64 (o : Int), .int .i64 (L : Int)]] w fun e w' =>
      ∃ A2 c2, e = .returned (.tuple #[.slice A2 (rseq o d (List.replicate (L * 16) 0) (List.range L)).1.length c2, .int .i64 ((rseq o d (List.replicate (L * 16) 0) (List.range L)).2 : Int)]) ∧ Tw.Own w' w.heap.size 5 1 A2 (rseq o d (List.replicate (L * 16) 0) (List.range L)).1.length c2 (bytesV (rseq o d (List.replicate (L * 16) 0) (List.range L)).1) ∧ Below w.heap.size w w' := by
  have hro : Fence.wide.round = none := rfl
  have hg2 := hg
  have hn := h.ok.n
  simp only [Span.Good, secs] at hg2
  have hlt := h.lts
  have HBX := Lib.hid ((((((Below.refl w.heap.size w).alloc (Nat.le_refl _) (.cells #[.pointer (some ⟨p, 0, none⟩)] 29)).alloc (by simp) (.cells #[.int .i64 (o : Int), .int .i64 (L : Int)] 144)).alloc (by simp; omega) (.cells #[.slice none 0 0] 23)).alloc (by simp; omega) (.cells #[.int .i64 0] 34)))
  obtain ⟨x0, x1, x2, x3⟩ := boxes4 w (.cells #[.pointer (some ⟨p, 0, none⟩)] 29) (.cells #[.int .i64 (o : Int), .int .i64 (L : Int)] 144) (.cells #[.slice none 0 0] 23) (.cells #[.int .i64 0] 34)
  have X0 := Lib.hid x0
  have X1 := Lib.hid x1
  have X2 := Lib.hid x2
  have X3 := Lib.hid x3
  have H := Lib.hid h
  have Hg := Lib.hid hg
  clear h hg x0 x1 x2 x3
  refine callsIn_of_wp_marks Tryz.func72 rfl trivial ?_ hro
  simp only [Tryz.ntmps72, List.size_toArray, List.length_cons, List.length_nil, Nat.reduceAdd, Nat.reduceSub, Array.replicate_succ, Array.replicate_zero, List.push_toArray, List.append_toArray, List.nil_append, List.cons_append]
  gi_wp2_with (fail)
  refine ⟨trivial, ?_⟩
  refine (callsIn_wide.2 (c_check (H.out.bel HBX.out) (o : Int) (L : Int))).mono ?_
  rintro e w1 ⟨rfl, hb1⟩
  rw [if_pos Hg.out]
  have B1 := Lib.hid (HBX.out.trans (hb1.mono HBX.out.size))
  have Y0 := Lib.hid ((hb1.block _ (heap_lt X0.out)).trans X0.out)
  have Y1 := Lib.hid ((hb1.block _ (heap_lt X1.out)).trans X1.out)
  have Y2 := Lib.hid ((hb1.block _ (heap_lt X2.out)).trans X2.out)
  have Y3 := Lib.hid ((hb1.block _ (heap_lt X3.out)).trans X3.out)
  have hb3 := heap_lt Y3.out
  have c1 : w1.cell? ⟨w.heap.size + 1, 0, none⟩ = some (.int .i64 (o : Int)) := cells_of Y1.out 0 _ rfl
  have c2 : w1.cell? ⟨w.heap.size + 1, 1, none⟩ = some (.int .i64 (L : Int)) := cells_of Y1.out 1 _ rfl
  clear X0 X1 X2 X3 HBX hb1
  obtain ⟨iu, hiu, hzu, hsu, hbu⟩ := info_parts Num.info_u8
  obtain ⟨wm, hmk, hown, hgm⟩ := run_make_full (P := Tryz.prog) w1 w.heap.size 23 5 iu _ 1 Tryz.underlying23 hiu hzu hsu .i64 .i64 (L * 16) (by rw [hbu]; omega) (by unfold maxLen; omega) B1.out.size
  rw [show ((L * 16 : Nat) : Int) = (L : Int) * 16 from by omega] at hmk
  rw [Tw.made_u8] at hown
  have hm0 := bel_grown hgm
  have B2 := Lib.hid (B1.out.trans (hm0.mono B1.out.size))
  have Y0 := Lib.hid ((hm0.block _ (heap_lt Y0.out)).trans Y0.out)
  have Y1 := Lib.hid ((hm0.block _ (heap_lt Y1.out)).trans Y1.out)
  have Y2 := Lib.hid ((hm0.block _ (heap_lt Y2.out)).trans Y2.out)
  have Y3 := Lib.hid ((hm0.block _ (heap_lt Y3.out)).trans Y3.out)
  have hG := Tw.Own.at0 hown _ rfl
  simp only at hG
  have YG := Lib.hid (Tw.Own.heap hown)
  have hGl : w.heap.size + 1 + 1 + 1 < w1.heap.size := by have h := B1.out.size; have h3 := hb3; omega
  generalize w1.heap.size = G at *
  -- the variable out, in a block of its own
  have hal := (Below.refl wm.heap.size wm).alloc (Nat.le_refl _) (.cells #[.slice (some ⟨G, 0, none⟩) (L * 16) (L * 16)] 23)
  have YB := Lib.hid (heap_alloc_new wm (.cells #[.slice (some ⟨G, 0, none⟩) (L * 16) (L * 16)] 23))
  have d1 : (wm.alloc (.cells #[.slice (some ⟨G, 0, none⟩) (L * 16) (L * 16)] 23)).cell? ⟨w.heap.size + 1, 0, none⟩ = some (.int .i64 (o : Int)) := cells_of ((hal.block _ (heap_lt Y1.out)).trans Y1.out) 0 _ rfl
  have d2 : (wm.alloc (.cells #[.slice (some ⟨G, 0, none⟩) (L * 16) (L * 16)] 23)).cell? ⟨w.heap.size + 1, 1, none⟩ = some (.int .i64 (L : Int)) := cells_of ((hal.block _ (heap_lt Y1.out)).trans Y1.out) 1 _ rfl
  clear hown hgm
  gi_wp2_with (fail)
  refine ⟨trivial, (each_in Fence.wide 2 trivial rfl _ _ _).mono ?_⟩
  rintro e w2 ⟨rfl, rfl⟩
  have B3 := Lib.hid (B2.out.trans (hal.mono B2.out.size))
  have Y0 := Lib.hid ((hal.block _ (heap_lt Y0.out)).trans Y0.out)
  have Y2 := Lib.hid ((hal.block _ (heap_lt Y2.out)).trans Y2.out)
  have Y3 := Lib.hid ((hal.block _ (heap_lt Y3.out)).trans Y3.out)
  have YG := Lib.hid ((hal.block _ (heap_lt YG.out)).trans YG.out)
  have hBo := heap_lt YB.out
  clear hal hmk hm0 c1 c2 d1 d2 B1 B2 hb3 hiu hzu hsu hbu Y1
  generalize (wm.alloc (.cells #[.slice (some ⟨G, 0, none⟩) (L * 16) (L * 16)] 23)) = W1 at *
  have hGB := hG.2
  generalize wm.heap.size = Bo at *
  have hal := (Below.refl W1.heap.size W1).alloc (Nat.le_refl _) (.cells #[.int .i64 (o : Int), .int .i64 (L : Int)] 144)
  have BS := Lib.hid (heap_alloc_new W1 (.cells #[.int .i64 (o : Int), .int .i64 (L : Int)] 144))
  have hBs : W1.heap.size < (W1.alloc (.cells #[.int .i64 (o : Int), .int .i64 (L : Int)] 144)).heap.size := by simp
  have B2 := Lib.hid (B3.out.trans (hal.mono B3.out.size))
  have Z0 := Lib.hid ((hal.block _ (heap_lt Y0.out)).trans Y0.out)
  have Z2 := Lib.hid ((hal.block _ (heap_lt Y2.out)).trans Y2.out)
  have Z3 := Lib.hid ((hal.block _ (heap_lt Y3.out)).trans Y3.out)
  have ZG := Lib.hid ((hal.block _ (heap_lt YG.out)).trans YG.out)
  have ZB := Lib.hid ((hal.block _ (heap_lt YB.out)).trans YB.out)
  clear hal Y0 Y2 Y3 YG YB B3
  gi_wp2_with (fail)
  generalize (W1.alloc (.cells #[.int .i64 (o : Int), .int .i64 (L : Int)] 144)) = W2 at *
  generalize W1.heap.size = Bs at *
  refine wpIn_range_two hro (by omega) (gf := 171) (lb := #[.pointer (some ⟨Bs, 0, none⟩)]) rfl trivial (enters_of Tryz.func171 (by kernel_rfl) rfl)
    (each_stops Fence.wide 2 trivial rfl (by omega) Bs o L (by omega) (by omega) W2 BS.out) kpS_t (kpS_b hBs) (Below.refl _ _) (fun _ => rfl)
    (fun pre W => RI w W2.heap.size p g mb c w.heap.size G Bo o L d 0 (pre.map Fin.val) W)
    (fun ex pre W => ex = .ret ∧ ∃ er, er ≠ 0 ∧ RI w W2.heap.size p g mb c w.heap.size G Bo o L d er (pre.map Fin.val) W)
    (fun pre W W' h hf => RI.fr h (by omega) (by omega) (by omega) hf)
    (fun ex pre W W' ⟨h1, er, h2, h3⟩ hf => ⟨h1, er, h2, RI.fr h3 (by omega) (by omega) (by omega) hf⟩)
    ⟨rfl, H.out.bel B2.out, Z0.out, ZB.out, fun _ => ZG.out, Z2.out, Z3.out, B2.out, Nat.le_refl _⟩
    8 9 (fun x => .int .i64 (8 + (o : Int) + (x.val : Int))) (fun x => .int .i64 ((x.val : Int) * 16)) ?assign ?body ?done ?stop
  case assign =>
    intro l x W K hK
    simp only [encI, fold_two, List.setIfInBounds_toArray, List.set_cons_zero, List.set_cons_succ] at hK ⊢
    gi_wp2
    exact hK
  case body =>
    rintro l pre ⟨i, hi⟩ W ⟨h1, h2, h3, h4, h5, h6, h7, h8, h9⟩ hlt2
    simp only [encI, fold_two, List.setIfInBounds_toArray, List.set_cons_zero, List.set_cons_succ]
    obtain ⟨out, hout⟩ : ∃ out, (rseq o d (List.replicate (L * 16) 0) (pre.map Fin.val)).1 = out := ⟨_, rfl⟩
    obtain ⟨res, hres⟩ : ∃ res, d.read (8 + (o : Int) + (i : Int)) = res := ⟨_, rfl⟩
    have hsn := rseq_snoc (o := o) (d := d) (out := List.replicate (L * 16) 0) (l := pre.map Fin.val) i h1
    rw [hout, hres] at hsn
    have hol : out.length = L * 16 := by
      rw [← hout]
      exact rseq_len h2.ok (by simp) (fun j hj => by obtain ⟨x, _, rfl⟩ := List.mem_map.1 hj; exact x.2) h1
    have hs16 : res.1.length = 16 := by rw [← hres]; exact read_len h2.ok _
    have hG5 := h5 rfl
    rw [hout] at hG5
    have H2 := Lib.hid h2
    have H3 := Lib.hid h3
    have H4 := Lib.hid h4
    have H5 := Lib.hid hG5
    have H6 := Lib.hid h6
    have H7 := Lib.hid h7
    have H8 := Lib.hid h8
    have Hsn := Lib.hid hsn
    have Hol := Lib.hid hol
    have Hs := Lib.hid hs16
    have Hsz : Hid ((bytesV res.1).toArray.size = 16) := Lib.hid (by simp [bytesV, hs16])
    have Hres := Lib.hid hres
    have e3 := cells_of h3 0 _ rfl
    clear h1 h2 h3 h4 h5 hG5 h6 h7 h8 hsn hol hs16 hout hres
    refine wpIn_block (wpIn_seq (region_in (by kernel_rfl) ?_ ?_))
    · rintro ⟨_, _, h⟩
      exact h
    go_wp2_with (first
      | (go_at_call 130
         refine (c_dRead H2.out (8 + (o : Int) + (i : Int)) (by omega)).mono ?_
         rintro e w5 ⟨rfl, hb5⟩
         rw [Hres.out]
         unfold secV
         have hall := hb5.trans ((Below.refl W.heap.size w5).alloc hb5.size (.cells #[.int .u8 0, .int .u8 0, .int .u8 0, .int .u8 0, .int .u8 0, .int .u8 0, .int .u8 0, .int .u8 0, .int .u8 0, .int .u8 0, .int .u8 0, .int .u8 0, .int .u8 0, .int .u8 0, .int .u8 0, .int .u8 0] 127))
         have HB5 := Lib.hid hall
         have hw5 := hb5.size
         have HX5 := Lib.hid (heap_alloc_new w5 (.cells #[.int .u8 0, .int .u8 0, .int .u8 0, .int .u8 0, .int .u8 0, .int .u8 0, .int .u8 0, .int .u8 0, .int .u8 0, .int .u8 0, .int .u8 0, .int .u8 0, .int .u8 0, .int .u8 0, .int .u8 0, .int .u8 0] 127))
         clear e3 hb5 hall)
      | (refine wpL_store_all rfl rfl 127 (.tmp 10) (.tmp 30) rfl _ rfl _ rfl _ _ HX5.out (by rw [Hsz.out]; kernel_rfl) Hsz.out (fun v hv => bytesV_one v (by simpa using hv)) ?_
         intro w6 x6 g6
         have HX6 := Lib.hid x6
         have HB6 := Lib.hid (HB5.out.grown g6 HB5.out.size (by rintro k ⟨⟩; exact hw5))
         clear x6 g6 HX5))
    have G2 := Lib.hid (H2.out.bel HB6.out)
    have G4 := Lib.hid ((HB6.out.block _ (heap_lt H4.out)).trans H4.out)
    have G3 := Lib.hid ((HB6.out.block _ (heap_lt H3.out)).trans H3.out)
    have G5 := Lib.hid ((HB6.out.block _ (heap_lt H5.out)).trans H5.out)
    have G6 := Lib.hid ((HB6.out.block _ (heap_lt H6.out)).trans H6.out)
    have G7 := Lib.hid ((HB6.out.block _ (heap_lt H7.out)).trans H7.out)
    have G8 := Lib.hid (H8.out.trans (HB6.out.mono H8.out.size))
    have GW := Lib.hid (Fr.of_bel (S := fun _ => False) HB6.out)
    have hx6 := heap_lt HX6.out
    have hs6 := HB6.out.size
    clear H2 H3 H4 H5 H6 H7 H8 HB5 HB6
    obtain ⟨s, er⟩ := res
    simp only at Hs Hsz Hsn HX6
    by_cases her : er = 0
    · subst her
      have Hsn2 := Lib.hid (Hsn.out.trans (if_pos rfl))
      clear Hsn
      gi_wp2
      have Hsn3 : Hid (rseq o d (List.replicate (L * 16) 0) ((pre ++ [(⟨i, hi⟩ : Ix L)]).map Fin.val) = (layAt out i s, 0)) := Lib.hid (by rw [List.map_append]; exact Hsn2.out)
      have hgw := GW.out.size
      have hw5' : W.heap.size ≤ w5.heap.size := hw5
      refine wpIn_region_phi (by rintro ⟨_, _, h⟩; exact h) (by kernel_rfl) (by kernel_rfl) 4 none (fun _ => false) (fun i_ v wz => match i_ with
        | 0 => v = .slice (some ⟨G, 0, none⟩) (L * 16) (L * 16)
        | 1 => v = .int .i64 ((i : Int) * 16)
        | 2 => v = .slice (some ⟨G, i * 16, none⟩) (L * 16 - i * 16) (L * 16 - i * 16)
        | 3 => v = .slice (some ⟨w5.heap.size, 0, none⟩) 16 16
        | _ => True) (by kernel_rfl) ?_ ?_ ?_
      · (repeat' (first | exact allLt_zero | refine allLt_succ ?_ ?_))
        · exact fun _ _ _ h _ => h
        · exact fun _ _ _ h _ => h
        · exact fun _ _ _ h _ => h
        · exact fun _ _ _ h _ => h
      · (repeat' (first | exact allLt_zero | refine allLt_succ ?_ ?_))
        · intro a w' hf he
          have k7 : a.tmps.getD 7 undef = .pointer (some ⟨Bo, 0, none⟩) := hf.var (by kernel_rfl) rfl
          rw [show kindRow _ _ = none from by kernel_rfl] at hf
          have dd := (hf.bel.cell (p := ⟨Bo, 0, none⟩) (heap_lt G4.out)).trans (cells_of G4.out 0 _ rfl)
          refine wpOp_step rfl (fun K hK => ?_)
          go_simp
          exact hK _ _ ⟨_, rfl, rfl, World.grownBy.refl _ _⟩
        · intro a w' hf he
          have k9 : a.tmps.getD 9 undef = .int .i64 ((i : Int) * 16) := hf.var (by kernel_rfl) rfl
          refine wpOp_step rfl (fun K hK => ?_)
          go_simp
          exact hK _ _ ⟨_, rfl, rfl, World.grownBy.refl _ _⟩
        · intro a w' hf he
          have f0 : a.tmps.getD 35 undef = .slice (some ⟨G, 0, none⟩) (L * 16) (L * 16) := he 0 (by kernel_rfl)
          have f1 : a.tmps.getD 36 undef = .int .i64 ((i : Int) * 16) := he 1 (by kernel_rfl)
          rw [show kindRow _ _ = none from by kernel_rfl] at hf
          refine wpOp_step rfl (fun K hK => ?_)
          go_simp
          rw [if_pos (by omega), if_neg (by omega)]
          exact hK _ _ ⟨_, rfl, rfl, World.grownBy.refl _ _⟩
        · intro a w' hf he
          have k10 : a.tmps.getD 10 undef = .pointer (some ⟨w5.heap.size, 0, none⟩) := hf.var (by kernel_rfl) rfl
          refine wpOp_step rfl (fun K hK => ?_)
          go_simp
          exact hK _ _ ⟨_, rfl, rfl, World.grownBy.refl _ _⟩
      · intro a w' hf he
        obtain ⟨u35, f0⟩ : ∃ u, a.tmps.getD 35 undef = u := ⟨_, rfl⟩
        obtain ⟨u36, f1⟩ : ∃ u, a.tmps.getD 36 undef = u := ⟨_, rfl⟩
        have f2 : a.tmps.getD 37 undef = .slice (some ⟨G, i * 16, none⟩) (L * 16 - i * 16) (L * 16 - i * 16) := he 2 (by decide)
        have f3 : a.tmps.getD 38 undef = .slice (some ⟨w5.heap.size, 0, none⟩) 16 16 := he 3 (by decide)
        have hlit := hf.lit ((35, u35) :: (36, u36) :: (37, .slice (some ⟨G, i * 16, none⟩) (L * 16 - i * 16) (L * 16 - i * 16)) :: (38, .slice (some ⟨w5.heap.size, 0, none⟩) 16 16) :: []) (by kernel_rfl) ⟨f0, f1, f2, f3, trivial⟩
        have hB := hf.bel
        clear he hf f0 f1 f2 f3 
        subst hlit
        simp only [putAll_nil, putAll_cons, Act.put, List.setIfInBounds_toArray, List.set_cons_zero, List.set_cons_succ]
        simp only [List.drop_succ_cons, List.drop_zero]
        have G2 := Lib.hid (G2.out.bel hB)
        have G4 := Lib.hid ((hB.block _ (heap_lt G4.out)).trans G4.out)
        have G3 := Lib.hid ((hB.block _ (heap_lt G3.out)).trans G3.out)
        have G5 := Lib.hid ((hB.block _ (heap_lt G5.out)).trans G5.out)
        have G6 := Lib.hid ((hB.block _ (heap_lt G6.out)).trans G6.out)
        have G7 := Lib.hid ((hB.block _ (heap_lt G7.out)).trans G7.out)
        have HX6 := Lib.hid ((hB.block _ (heap_lt HX6.out)).trans HX6.out)
        have GW := Lib.hid ((GW.out.mono (S1 := fun k => k = G) (fun _ _ e => e.elim)).trans (Fr.of_bel (S := fun k => k = G) hB) (fun _ _ e => e))
        have G8 := Lib.hid (G8.out.trans (hB.mono G8.out.size))
        clear hB
        go_wp2_with (first
          | (refine wpL_copy rfl (.tmp 37) (.tmp 38) 23 23 rfl 5 Tryz.underlying23 (by kernel_rfl) _ _ (L * 16 - i * 16) (L * 16 - i * 16) 16 16 rfl rfl G (i * 16) _ 5 G5.out (bytesV s) 16 (by rw [bytesV_length, Hs.out]) (Nat.min_eq_left (by omega)).symm (fun h0 => ⟨rfl, _, rfl, (rd_of_heap (n := 16) HX6.out (by rw [bytesV_length, Hs.out]) (by simp [maxLen])).cell _ rfl⟩) (by rw [bytesV_length, Hol.out]; omega) bytesV_one (bytesV (layAt out i s)) (lay_splice out i s Hs.out) ?_
             intro w7 h7 hg7
             have L5 := Lib.hid h7
             have HG7 := Lib.hid hg7
             clear h7 hg7))
        have hfg : Fr (fun k => k = G) w' w7 := Fr.grown HG7.out (by rintro k ⟨⟩; rfl)
        have hfW := GW.out.trans hfg (fun _ _ e => e)
        have hsW := hfW.size
        exact ⟨keeps_fr hfW (fun k e => by omega), hfW.block Bs (by omega) (by omega), by rw [Hsn3.out], G2.out.fr hfg (by omega) (by omega) (by omega), heap_fr G3.out hfg (by omega), heap_fr G4.out hfg (by omega), fun _ => by rw [Hsn3.out]; exact L5.out, heap_fr G6.out hfg (by omega), heap_fr G7.out hfg (by omega), G8.out.grown HG7.out G8.out.size (by rintro k ⟨⟩; omega), by omega⟩
    · have hne : ((er : Int) != 0) = true := by simp; omega
      have Hsn2 := Lib.hid (Hsn.out.trans (if_neg her))
      clear Hsn
      have q6 := cells_of G6.out 0 _ rfl
      have q7 := cells_of G7.out 0 _ rfl
      have fz6 : w6.frozen? ⟨w.heap.size + 1 + 1, 0, none⟩ = false := by have h := G6.out; simp [World.frozen?, h]
      have fz7 : w6.frozen? ⟨w.heap.size + 1 + 1 + 1, 0, none⟩ = false := by have h := G7.out; simp [World.frozen?, h]
      gi_wp2
      have Hsn3 : Hid (rseq o d (List.replicate (L * 16) 0) ((pre ++ [(⟨i, hi⟩ : Ix L)]).map Fin.val) = ([], er)) := Lib.hid (by rw [List.map_append]; exact Hsn2.out)
      have fs : Fr (fun k => k = w.heap.size + 1 + 1 ∨ k = w.heap.size + 1 + 1 + 1) w6 ((w6.setCell ⟨w.heap.size + 1 + 1, 0, none⟩ (.slice none 0 0)).setCell ⟨w.heap.size + 1 + 1 + 1, 0, none⟩ (.int .i64 (er : Int))) :=
        (Fr.setCell (S := fun k => k = w.heap.size + 1 + 1 ∨ k = w.heap.size + 1 + 1 + 1) (p := ⟨w.heap.size + 1 + 1, 0, none⟩) (.inl rfl) _).trans (Fr.setCell (S := fun k => k = w.heap.size + 1 + 1 ∨ k = w.heap.size + 1 + 1 + 1) (p := ⟨w.heap.size + 1 + 1 + 1, 0, none⟩) (.inr rfl) _) (fun _ _ e => e)
      have fa : Fr (fun k => k = w.heap.size + 1 + 1) w6 (w6.setCell ⟨w.heap.size + 1 + 1, 0, none⟩ (.slice none 0 0)) := Fr.setCell (S := fun k => k = w.heap.size + 1 + 1) (p := ⟨w.heap.size + 1 + 1, 0, none⟩) rfl _
      have fb : Fr (fun k => k = w.heap.size + 1 + 1 + 1) (w6.setCell ⟨w.heap.size + 1 + 1, 0, none⟩ (.slice none 0 0)) ((w6.setCell ⟨w.heap.size + 1 + 1, 0, none⟩ (.slice none 0 0)).setCell ⟨w.heap.size + 1 + 1 + 1, 0, none⟩ (.int .i64 (er : Int))) := Fr.setCell (S := fun k => k = w.heap.size + 1 + 1 + 1) (p := ⟨w.heap.size + 1 + 1 + 1, 0, none⟩) rfl _
      have hfW := (GW.out.mono (S1 := fun k => k = w.heap.size + 1 + 1 ∨ k = w.heap.size + 1 + 1 + 1) (fun _ _ e => e.elim)).trans fs (fun _ _ e => e)
      have hsW := hfW.size
      have r6 := heap_setCell_same _ _ 0 _ _ (.slice none 0 0) G6.out
      have r7 := heap_setCell_same _ _ 0 _ _ (.int .i64 (er : Int)) (heap_fr G7.out fa (by omega))
      exact ⟨keeps_fr hfW (fun k e => by omega), rfl, er, her, by rw [Hsn3.out], G2.out.fr fs (by omega) (by omega) (by omega), heap_fr G3.out fs (by omega), heap_fr G4.out fs (by omega), fun e => absurd e her, heap_fr r6 fb (by omega), r7, G8.out.trans (fs.bel (fun k e => by omega) G8.out.size), by omega⟩
  case done =>
    rintro D ys W hD rfl ⟨h1, h2, h3, h4, h5, h6, h7, h8, h9⟩ hK
    rw [vals_range] at h1 h5
    obtain ⟨⟨out, er⟩, hout⟩ : ∃ r, rseq o d (List.replicate (L * 16) 0) (List.range L) = r := ⟨_, rfl⟩
    have hol : (rseq o d (List.replicate (L * 16) 0) (List.range L)).1.length = L * 16 := rseq_len h2.ok (by simp) (fun j hj => List.mem_range.1 hj) h1
    rw [hout] at h1 h5 hol
    simp only at h1 h5 hol
    subst h1
    have Hout := Lib.hid hout
    have H5 := Lib.hid (h5 trivial)
    have H6 := Lib.hid h6
    have H7 := Lib.hid h7
    have H8 := Lib.hid h8
    have Hol := Lib.hid hol
    have HK := Lib.hid hK
    have q4 := cells_of h4 0 _ rfl
    have q6 := cells_of h6 0 _ rfl
    have q7 := cells_of h7 0 _ rfl
    have fz6 : W.frozen? ⟨w.heap.size + 1 + 1, 0, none⟩ = false := by simp [World.frozen?, h6]
    have fz7 : W.frozen? ⟨w.heap.size + 1 + 1 + 1, 0, none⟩ = false := by simp [World.frozen?, h7]
    clear h2 h3 h4 h5 h6 h7 h8 hout hol hK
    gi_wp2
    have fa : Fr (fun k => k = w.heap.size + 1 + 1) W (W.setCell ⟨w.heap.size + 1 + 1, 0, none⟩ (.slice (some ⟨G, 0, none⟩) (L * 16) (L * 16))) := Fr.setCell (S := fun k => k = w.heap.size + 1 + 1) (p := ⟨w.heap.size + 1 + 1, 0, none⟩) rfl _
    have fb : Fr (fun k => k = w.heap.size + 1 + 1 + 1) (W.setCell ⟨w.heap.size + 1 + 1, 0, none⟩ (.slice (some ⟨G, 0, none⟩) (L * 16) (L * 16))) ((W.setCell ⟨w.heap.size + 1 + 1, 0, none⟩ (.slice (some ⟨G, 0, none⟩) (L * 16) (L * 16))).setCell ⟨w.heap.size + 1 + 1 + 1, 0, none⟩ (.int .i64 0)) := Fr.setCell (S := fun k => k = w.heap.size + 1 + 1 + 1) (p := ⟨w.heap.size + 1 + 1 + 1, 0, none⟩) rfl _
    have r6 := heap_fr (heap_setCell_same _ _ 0 _ _ (.slice (some ⟨G, 0, none⟩) (L * 16) (L * 16)) H6.out) fb (by omega)
    have r7 := heap_setCell_same _ _ 0 _ _ (.int .i64 0) (heap_fr H7.out fa (by omega))
    have r5 := heap_fr (heap_fr H5.out fa (by omega)) fb (by omega)
    have rK := heap_fr (heap_fr HK.out fa (by omega)) fb (by omega)
    have rB := (H8.out.trans (fa.bel (fun k e => by omega) H8.out.size)).trans (fb.bel (fun k e => by omega) (H8.out.trans (fa.bel (fun k e => by omega) H8.out.size)).size)
    generalize ((W.setCell ⟨w.heap.size + 1 + 1, 0, none⟩ (.slice (some ⟨G, 0, none⟩) (L * 16) (L * 16))).setCell ⟨w.heap.size + 1 + 1 + 1, 0, none⟩ (.int .i64 0)) = W9 at *
    have fd := fr_put W9 D (.deferred none)
    refine ⟨by simp, .inl ⟨_, _, rfl, run_takeDeferred rK, ?_⟩⟩
    rw [Hout.out]
    exact ⟨_, results_two rfl _ _ ⟨w.heap.size + 1 + 1, 0, none⟩ ⟨w.heap.size + 1 + 1 + 1, 0, none⟩ _ _ (.slice (some ⟨G, 0, none⟩) (L * 16) (L * 16)) (.int .i64 0) rfl rfl Tryz.underlying23 rfl (cells_of (heap_fr r6 fd (by omega)) 0 _ (by simp)) Tryz.underlying34 rfl (cells_of (heap_fr r7 fd (by omega)) 0 _ (by simp)), some ⟨G, 0, none⟩, L * 16, by rw [Hol.out]; rfl, by rw [Hol.out]; exact own_of_heap (heap_fr r5 fd (by omega)) (by omega) (by rw [bytesV_length, Hol.out]) (by unfold maxLen; omega), rB.trans (fd.bel (fun k e => by omega) rB.size)⟩
  case stop =>
    rintro D ex pre W hD hpre ⟨rfl, er, her, h1, h2, h3, h4, h5, h6, h7, h8, h9⟩ hK
    obtain ⟨sfx, hsfx⟩ := hpre
    have hall : rseq o d (List.replicate (L * 16) 0) (List.range L) = ([], er) := by
      have h10 : (rseq o d (List.replicate (L * 16) 0) (pre.map Fin.val)).2 ≠ 0 := by rw [h1]; exact her
      rw [← vals_range, ← hsfx, List.map_append, rseq_fail h10]
      exact Prod.ext (rseq_err h10) h1
    have Hout := Lib.hid hall
    have H6 := Lib.hid h6
    have H7 := Lib.hid h7
    have H8 := Lib.hid h8
    have HK := Lib.hid hK
    clear h1 h2 h3 h4 h5 h6 h7 h8 hall hsfx hK
    gi_wp2
    have fd := fr_put W D (.deferred none)
    refine ⟨by simp, .inl ⟨_, _, rfl, run_takeDeferred HK.out, ?_⟩⟩
    rw [Hout.out]
    exact ⟨_, results_two rfl _ _ ⟨w.heap.size + 1 + 1, 0, none⟩ ⟨w.heap.size + 1 + 1 + 1, 0, none⟩ _ _ (.slice none 0 0) (.int .i64 (er : Int)) rfl rfl Tryz.underlying23 rfl (cells_of (heap_fr H6.out fd (by omega)) 0 _ (by simp)) Tryz.underlying34 rfl (cells_of (heap_fr H7.out fd (by omega)) 0 _ (by simp)), none, 0, rfl, World.ownsRow_nil _ _ _ _, H8.out.trans (fd.bel (fun k e => by omega) H8.out.size)⟩
end
end Go.Proofs.YtaldlapnhhhclaaGreat.Data
/- The data area of a disk that works, plainly: what is written is read, all other bytes are as they were. Conditions: none. -/
namespace Go.Proofs.YtaldlapnhhhclaaGreat.Data
open Go.RowKit Tw Disk

def viewAt (d : Dsk) (j : Nat) : Sec := view (d.cells.getD j c0)
/-- sectors one behind the other -/
def cat (f : Nat → Sec) (m : Nat) : List UInt8 := (List.range m).flatMap f
theorem cat_succ (f : Nat → Sec) (m : Nat) : cat f (m + 1) = cat f m ++ f m := by simp [cat, List.range_succ]
theorem cat_len {f : Nat → Sec} {m : Nat} (h : ∀ i, i < m → (f i).length = 16) : (cat f m).length = m * 16 := by
  induction m with
  | zero => rfl
  | succ m ih => rw [cat_succ, List.length_append, ih fun i hi => h i (by omega), h m (by omega)]; omega
theorem cat_congr {f g : Nat → Sec} {m : Nat} (h : ∀ i, i < m → f i = g i) : cat f m = cat g m := by
  induction m with
  | zero => rfl
  | succ m ih => rw [cat_succ, cat_succ, ih fun i hi => h i (by omega), h m (by omega)]
theorem cat_add (f : Nat → Sec) (k m : Nat) : cat f (k + m) = cat f k ++ cat (fun i => f (k + i)) m := by
  induction m with
  | zero => simp [cat]
  | succ m ih => rw [← Nat.add_assoc, cat_succ, ih, cat_succ, List.append_assoc]
theorem cat_take {f : Nat → Sec} {k m : Nat} (h : ∀ i, i < m → (f i).length = 16) (hk : k ≤ m) : (cat f m).take (k * 16) = cat f k := by
  obtain ⟨j, rfl⟩ : ∃ j, m = k + j := ⟨m - k, by omega⟩
  rw [cat_add]
  exact List.take_left' (cat_len fun i hi => h i (by omega))
theorem cat_drop {f : Nat → Sec} {k m : Nat} (h : ∀ i, i < m → (f i).length = 16) (hk : k ≤ m) : (cat f m).drop (k * 16) = cat (fun i => f (k + i)) (m - k) := by
  obtain ⟨j, rfl⟩ : ∃ j, m = k + j := ⟨m - k, by omega⟩
  rw [cat_add, Nat.add_sub_cancel_left]
  exact List.drop_left' (cat_len fun i hi => h i (by omega))
theorem cat_secs {b : List UInt8} : ∀ {L : Nat}, b.length = L * 16 → cat (secAt b) L = b := by
  intro L h
  have key : ∀ k, k ≤ L → cat (secAt b) k = b.take (k * 16) := by
    intro k hk
    induction k with
    | zero => simp [cat]
    | succ k ih =>
      rw [cat_succ, ih (by omega), secAt, Nat.succ_mul, List.take_add]
  rw [key L (Nat.le_refl _), ← h, List.take_length]

/-- the disk works, and does not break -/
structure Fine (d : Dsk) : Prop where
  ok : d.Ok
  fuse : d.fuse < 0
  broken : d.broken = false
theorem fine_new {n : Nat} (h1 : 1 ≤ n) (h2 : n ≤ 1024) : Fine (Dsk.new n) := ⟨ok_new h1 h2, by simp [Dsk.new], rfl⟩
theorem fine_spend {d : Dsk} (h : Fine d) : d.spend = ({ d with fuse := d.fuse, broken := d.broken, ops := d.ops + 1 }, 0) := by
  have h1 := h.fuse
  unfold Dsk.spend Dsk.burn
  have h0 : ¬ d.fuse = 0 := by omega
  have h2 : ¬ 0 < d.fuse := by omega
  simp [h0, h2, h.broken]
theorem viewAt_len {d : Dsk} (h : d.Ok) (j : Nat) : (viewAt d j).length = 16 := by
  unfold viewAt
  rw [List.getD_eq_getElem?_getD]
  cases hj : d.cells[j]? with
  | none => exact zs_len
  | some c => exact h.view (List.mem_of_getElem? hj)
theorem fine_read {d : Dsk} (h : Fine d) {j : Nat} (hj : j < d.cells.length) : d.read (j : Int) = (viewAt d j, 0) := by
  have hh : d.has (j : Int) := (has_iff d _).2 (by omega)
  unfold Dsk.read
  rw [if_pos hh, h.broken, if_neg (by simp)]
  rfl
theorem fine_write {d : Dsk} (h : Fine d) (ho : d.ops < 1000000000) {j : Nat} (hj : j < d.cells.length) {s : Sec} (hs : s.length = 16) :
    (d.write (j : Int) s).2 = 0 ∧ Fine (d.write (j : Int) s).1 ∧ (d.write (j : Int) s).1.cells.length = d.cells.length ∧ ∀ i, viewAt (d.write (j : Int) s).1 i = if i = j then s else viewAt d i := by
  have hh : d.has (j : Int) := (has_iff d _).2 (by omega)
  have hsp := fine_spend h
  have hw : d.write (j : Int) s = (({ d with fuse := d.fuse, broken := d.broken, ops := d.ops + 1 } : Dsk).put (j : Int) s, 0) := by
    unfold Dsk.write
    rw [if_pos hh, hsp, if_pos rfl]
  have hok := write_ok h.ok ho (j : Int) hs
  have hln := write_cells_len d (j : Int) s
  rw [hw] at hok hln ⊢
  refine ⟨rfl, ⟨hok, h.fuse, h.broken⟩, hln, fun i => ?_⟩
  unfold viewAt Dsk.put
  simp only [Int.toNat_natCast, List.getD_eq_getElem?_getD]
  by_cases hi : i = j
  · subst hi
    rw [if_pos rfl, List.getElem?_set_self hj]
    rfl
  · rw [if_neg hi, List.getElem?_set_ne (by omega)]
theorem fine_wseq {o L : Nat} {b : List UInt8} (hb : b.length = L * 16) {d : Dsk} (h : Fine d) (ho : d.ops + L < 1000000000) (hl : 8 + o + L ≤ d.cells.length) : ∀ k, k ≤ L →
    (wseq o b d (List.range k)).2 = 0 ∧ Fine (wseq o b d (List.range k)).1 ∧ (wseq o b d (List.range k)).1.cells.length = d.cells.length ∧ ∀ i, viewAt (wseq o b d (List.range k)).1 i = if 8 + o ≤ i ∧ i < 8 + o + k then secAt b (i - 8 - o) else viewAt d i := by
  intro k
  induction k with
  | zero => intro _; exact ⟨rfl, h, rfl, fun i => by rw [if_neg (by omega)]; rfl⟩
  | succ k ih =>
    intro hk
    obtain ⟨h1, h2, h3, h4⟩ := ih (by omega)
    have hops := wseq_ops (o := o) (b := b) (List.range k) d
    rw [List.length_range] at hops
    rw [List.range_succ, wseq_snoc k h1]
    have hc : (8 + (o : Int) + (k : Int)) = ((8 + o + k : Nat) : Int) := by omega
    rw [hc]
    obtain ⟨q1, q2, q3, q4⟩ := fine_write h2 (by omega) (j := 8 + o + k) (by omega) (secAt_len hb (by omega : k < L))
    refine ⟨q1, q2, q3.trans h3, fun i => ?_⟩
    rw [q4 i, h4 i]
    by_cases hi : i = 8 + o + k
    · subst hi
      rw [if_pos rfl, if_pos (by omega), show 8 + o + k - 8 - o = k from by omega]
    · rw [if_neg hi]
      by_cases hr : 8 + o ≤ i ∧ i < 8 + o + k
      · rw [if_pos hr, if_pos (by omega)]
      · rw [if_neg hr, if_neg (by omega)]
theorem fine_rseq {o L : Nat} {d : Dsk} (h : Fine d) (hl : 8 + o + L ≤ d.cells.length) : ∀ k, k ≤ L →
    rseq o d (List.replicate (L * 16) 0) (List.range k) = (cat (fun i => viewAt d (8 + o + i)) k ++ List.replicate ((L - k) * 16) 0, 0) := by
  intro k
  induction k with
  | zero => intro _; simp [cat, rseq]
  | succ k ih =>
    intro hk
    have h1 := ih (by omega)
    rw [List.range_succ, rseq_snoc k (by rw [h1]), h1]
    have hc : (8 + (o : Int) + (k : Int)) = ((8 + o + k : Nat) : Int) := by omega
    rw [hc, fine_read h (by omega), if_pos rfl]
    refine Prod.ext ?_ rfl
    simp only
    have hcl : (cat (fun i => viewAt d (8 + o + i)) k).length = k * 16 := cat_len fun i _ => viewAt_len h.ok _
    rw [layAt, cat_succ, List.take_left' hcl, List.append_assoc]
    congr 2
    rw [List.drop_append, hcl, List.drop_eq_nil_of_le (by omega), List.nil_append, List.drop_replicate]
    congr 1
    omega
theorem secs_nat {d : Dsk} : secs d = ((d.cells.length - 8 : Nat) : Int) := by unfold secs; omega
theorem fine_dRead {d : Dsk} (h : Fine d) {x y : Nat} (hg : Span.Good (x : Int) (y : Int) (secs d)) : dRead d (x : Int) (y : Int) = (cat (fun i => viewAt d (8 + x + i)) y, 0) := by
  have hg2 := hg
  unfold Span.Good at hg2
  rw [secs_nat] at hg2
  unfold dRead
  rw [if_pos hg, Int.toNat_natCast, Int.toNat_natCast, fine_rseq h (by omega) y (Nat.le_refl _)]
  simp
/-- all bytes of the area -/
def area (d : Dsk) : List UInt8 := cat (fun i => viewAt d (8 + i)) (d.cells.length - 8)
theorem area_len {d : Dsk} (h : d.Ok) : (area d).length = (d.cells.length - 8) * 16 := cat_len fun i _ => viewAt_len h _
theorem fine_image {d : Dsk} (h : Fine d) (hn : 8 < d.cells.length) : dRead d 0 (secs d) = (area d, 0) := by
  have h1 := h.ok.n
  rw [secs_nat]
  have := fine_dRead h (x := 0) (y := d.cells.length - 8) (by unfold Span.Good; rw [secs_nat]; omega)
  simpa [area] using this
theorem fine_dWrite {d : Dsk} (h : Fine d) (ho : d.ops + 1024 < 1000000000) (x y : Int) (b : List UInt8) :
    ((dWrite d x y b).2 ≠ 0 ∧ (dWrite d x y b).1 = d) ∨ ((dWrite d x y b).2 = 0 ∧ ∃ o L : Nat, x = (o : Int) ∧ y = (L : Int) ∧ o + L ≤ d.cells.length - 8 ∧ b.length = L * 16 ∧ Fine (dWrite d x y b).1 ∧ (dWrite d x y b).1.cells.length = d.cells.length ∧ (dWrite d x y b).1.ops ≤ d.ops + 1024 ∧
      ∀ i, viewAt (dWrite d x y b).1 i = if 8 + o ≤ i ∧ i < 8 + o + L then secAt b (i - 8 - o) else viewAt d i) := by
  unfold dWrite
  by_cases hg : Span.Good x y (secs d)
  · rw [if_pos hg]
    by_cases hl : (b.length : Int) = y * 16
    · rw [if_pos hl]
      right
      have hn := h.ok.n
      unfold Span.Good at hg
      rw [secs_nat] at hg
      obtain ⟨o, rfl⟩ : ∃ o : Nat, x = (o : Int) := ⟨x.toNat, by omega⟩
      obtain ⟨L, rfl⟩ : ∃ L : Nat, y = (L : Int) := ⟨y.toNat, by omega⟩
      rw [Int.toNat_natCast, Int.toNat_natCast]
      obtain ⟨q1, q2, q3, q4⟩ := fine_wseq (o := o) (L := L) (b := b) (by omega) h (by omega) (by omega) L (Nat.le_refl _)
      have hops := wseq_ops (o := o) (b := b) (List.range L) d
      rw [List.length_range] at hops
      exact ⟨q1, o, L, rfl, rfl, by omega, by omega, q2, q3, by omega, q4⟩
    · rw [if_neg hl]
      exact .inl ⟨by simp, rfl⟩
  · rw [if_neg hg]
    exact .inl ⟨by simp, rfl⟩
/-- the law: what was written is read, all other bytes are as they were -/
theorem keeps_plain {d d' : Dsk} (h : Fine d) (h' : Fine d') (hc : d'.cells.length = d.cells.length) {o L : Nat} {b : List UInt8} (hl : o + L ≤ d.cells.length - 8) (hb : b.length = L * 16)
    (hv : ∀ i, viewAt d' i = if 8 + o ≤ i ∧ i < 8 + o + L then secAt b (i - 8 - o) else viewAt d i) :
    ((area d').take (16 * (o + L))).drop (16 * o) = b ∧ (area d').take (16 * o) = (area d).take (16 * o) ∧ (area d').drop (16 * (o + L)) = (area d).drop (16 * (o + L)) := by
  have k1 : ∀ i, i < d.cells.length - 8 → (viewAt d' (8 + i)).length = 16 := fun i _ => viewAt_len h'.ok _
  have k2 : ∀ i, i < d.cells.length - 8 → (viewAt d (8 + i)).length = 16 := fun i _ => viewAt_len h.ok _
  unfold area
  rw [hc, Nat.mul_comm 16 o, Nat.mul_comm 16 (o + L), cat_take k1 hl, cat_take k1 (by omega), cat_take k2 (by omega), cat_drop k1 hl, cat_drop k2 hl]
  refine ⟨?_, ?_, ?_⟩
  · rw [cat_drop (fun i hi => k1 i (by omega)) (by omega), Nat.add_sub_cancel_left]
    rw [← cat_secs hb]
    refine cat_congr fun i hi => ?_
    rw [hv, if_pos (by omega), show 8 + (o + i) - 8 - o = i from by omega]
  · refine cat_congr fun i hi => ?_
    rw [hv, if_neg (by omega)]
  · refine cat_congr fun i hi => ?_
    rw [hv, if_neg (by omega)]
end Go.Proofs.YtaldlapnhhhclaaGreat.Data
/- Contracts of data.Read (any span), Image, and of a disk that no call made. Conditions: none. -/
namespace Go.Proofs.YtaldlapnhhhclaaGreat.Data
open Go.RowKit Tw Disk
set_option maxHeartbeats 4000000
set_option maxRecDepth 100000

section
variable {w : World} {p g mb c : Nat} {d : Dsk}
theorem c_Read (h : Dk w p g mb c d) (x y : Int) :
    Calls Tryz.prog 72 #[.pointer (some ⟨p, 0, none⟩), .agg #[.int .i64 x, .int .i64 y]] w fun e w' => ∃ A2 c2, e = .returned (.tuple #[.slice A2 (dRead d x y).1.length c2, .int .i64 ((dRead d x y).2 : Int)]) ∧ Tw.Own w' w.heap.size 5 1 A2 (dRead d x y).1.length c2 (bytesV (dRead d x y).1) ∧ Below w.heap.size w w' := by
  by_cases hg : Span.Good x y (secs d)
  · obtain ⟨o, rfl⟩ : ∃ o : Nat, x = (o : Int) := ⟨x.toNat, by unfold Span.Good at hg; omega⟩
    obtain ⟨L, rfl⟩ : ∃ L : Nat, y = (L : Int) := ⟨y.toNat, by unfold Span.Good at hg; omega⟩
    have hw : dRead d (o : Int) (L : Int) = rseq o d (List.replicate (L * 16) 0) (List.range L) := by unfold dRead; rw [if_pos hg]; rfl
    rw [hw]
    exact callsIn_wide.1 (Read_in h o L hg)
  · have hw : Hid (dRead d x y = ([], 13)) := Lib.hid (by unfold dRead; rw [if_neg hg])
    have HBX := Lib.hid ((((((Below.refl w.heap.size w).alloc (Nat.le_refl _) (.cells #[.pointer (some ⟨p, 0, none⟩)] 29)).alloc (by simp) (.cells #[.int .i64 x, .int .i64 y] 144)).alloc (by simp; omega) (.cells #[.slice none 0 0] 23)).alloc (by simp; omega) (.cells #[.int .i64 0] 34)))
    obtain ⟨x0, x1, x2, x3⟩ := boxes4 w (.cells #[.pointer (some ⟨p, 0, none⟩)] 29) (.cells #[.int .i64 x, .int .i64 y] 144) (.cells #[.slice none 0 0] 23) (.cells #[.int .i64 0] 34)
    have X2 := Lib.hid x2
    have X3 := Lib.hid x3
    have H := Lib.hid h
    have Hg := Lib.hid hg
    clear h hg x0 x1 x2 x3
    go_enter Tryz.func72, Tryz.ntmps72
    go_wp2_with (first
      | (go_at_call 126
         refine (c_check (H.out.bel HBX.out) x y).mono ?_
         rintro e w1 ⟨rfl, hb1⟩
         rw [if_neg Hg.out]
         have B1 := Lib.hid (HBX.out.trans (hb1.mono HBX.out.size))
         have Y2 := Lib.hid ((hb1.block _ (heap_lt X2.out)).trans X2.out)
         have Y3 := Lib.hid ((hb1.block _ (heap_lt X3.out)).trans X3.out)
         have c4 : w1.cell? ⟨w.heap.size + 1 + 1, 0, none⟩ = some (.slice none 0 0) := cells_of Y2.out 0 _ rfl
         have c5 : w1.cell? ⟨w.heap.size + 1 + 1 + 1, 0, none⟩ = some (.int .i64 0) := cells_of Y3.out 0 _ rfl
         have fz4 : w1.frozen? ⟨w.heap.size + 1 + 1, 0, none⟩ = false := by have h := Y2.out; simp [World.frozen?, h]
         have fz5 : w1.frozen? ⟨w.heap.size + 1 + 1 + 1, 0, none⟩ = false := by have h := Y3.out; simp [World.frozen?, h]
         clear X2 X3 hb1))
    have fa : Fr (fun k => k = w.heap.size + 1 + 1) w1 (w1.setCell ⟨w.heap.size + 1 + 1, 0, none⟩ (.slice none 0 0)) := Fr.setCell (S := fun k => k = w.heap.size + 1 + 1) (p := ⟨w.heap.size + 1 + 1, 0, none⟩) rfl _
    have fb : Fr (fun k => k = w.heap.size + 1 + 1 + 1) (w1.setCell ⟨w.heap.size + 1 + 1, 0, none⟩ (.slice none 0 0)) ((w1.setCell ⟨w.heap.size + 1 + 1, 0, none⟩ (.slice none 0 0)).setCell ⟨w.heap.size + 1 + 1 + 1, 0, none⟩ (.int .i64 13)) := Fr.setCell (S := fun k => k = w.heap.size + 1 + 1 + 1) (p := ⟨w.heap.size + 1 + 1 + 1, 0, none⟩) rfl _
    have r6 := heap_fr (heap_setCell_same _ _ 0 _ _ (.slice none 0 0) Y2.out) fb (by omega)
    have r7 := heap_setCell_same _ _ 0 _ _ (.int .i64 13) (heap_fr Y3.out fa (by omega))
    have rB := (B1.out.trans (fa.bel (fun k e => by omega) B1.out.size)).trans (fb.bel (fun k e => by omega) (B1.out.trans (fa.bel (fun k e => by omega) B1.out.size)).size)
    refine bodyPost_ret (results_two rfl _ _ ⟨w.heap.size + 1 + 1, 0, none⟩ ⟨w.heap.size + 1 + 1 + 1, 0, none⟩ _ _ (.slice none 0 0) (.int .i64 13) rfl rfl Tryz.underlying23 rfl (cells_of r6 0 _ (by simp)) Tryz.underlying34 rfl (cells_of r7 0 _ (by simp))) rfl ?_
    rw [hw.out]
    exact ⟨none, 0, rfl, World.ownsRow_nil _ _ _ _, rB⟩
theorem c_Read_nil (x y : Int) (w : World) : Calls Tryz.prog 72 #[.pointer none, .agg #[.int .i64 x, .int .i64 y]] w fun e w' => e = .returned (.tuple #[.slice none 0 0, .int .i64 1]) ∧ Below w.heap.size w w' := by
  have HBX := Lib.hid ((((((Below.refl w.heap.size w).alloc (Nat.le_refl _) (.cells #[.pointer none] 29)).alloc (by simp) (.cells #[.int .i64 x, .int .i64 y] 144)).alloc (by simp; omega) (.cells #[.slice none 0 0] 23)).alloc (by simp; omega) (.cells #[.int .i64 0] 34)))
  obtain ⟨x0, x1, x2, x3⟩ := boxes4 w (.cells #[.pointer none] 29) (.cells #[.int .i64 x, .int .i64 y] 144) (.cells #[.slice none 0 0] 23) (.cells #[.int .i64 0] 34)
  have X2 := Lib.hid x2
  have X3 := Lib.hid x3
  clear x0 x1 x2 x3
  go_enter Tryz.func72, Tryz.ntmps72
  go_wp2_with (first
    | (go_at_call 126
       refine (c_check_nil (.bool true) x y _).mono ?_
       rintro e w1 ⟨rfl, hb1⟩
       skip
       have B1 := Lib.hid (HBX.out.trans (hb1.mono HBX.out.size))
       have Y2 := Lib.hid ((hb1.block _ (heap_lt X2.out)).trans X2.out)
       have Y3 := Lib.hid ((hb1.block _ (heap_lt X3.out)).trans X3.out)
       have c4 : w1.cell? ⟨w.heap.size + 1 + 1, 0, none⟩ = some (.slice none 0 0) := cells_of Y2.out 0 _ rfl
       have c5 : w1.cell? ⟨w.heap.size + 1 + 1 + 1, 0, none⟩ = some (.int .i64 0) := cells_of Y3.out 0 _ rfl
       have fz4 : w1.frozen? ⟨w.heap.size + 1 + 1, 0, none⟩ = false := by have h := Y2.out; simp [World.frozen?, h]
       have fz5 : w1.frozen? ⟨w.heap.size + 1 + 1 + 1, 0, none⟩ = false := by have h := Y3.out; simp [World.frozen?, h]
       clear X2 X3 hb1))
  have fa : Fr (fun k => k = w.heap.size + 1 + 1) w1 (w1.setCell ⟨w.heap.size + 1 + 1, 0, none⟩ (.slice none 0 0)) := Fr.setCell (S := fun k => k = w.heap.size + 1 + 1) (p := ⟨w.heap.size + 1 + 1, 0, none⟩) rfl _
  have fb : Fr (fun k => k = w.heap.size + 1 + 1 + 1) (w1.setCell ⟨w.heap.size + 1 + 1, 0, none⟩ (.slice none 0 0)) ((w1.setCell ⟨w.heap.size + 1 + 1, 0, none⟩ (.slice none 0 0)).setCell ⟨w.heap.size + 1 + 1 + 1, 0, none⟩ (.int .i64 1)) := Fr.setCell (S := fun k => k = w.heap.size + 1 + 1 + 1) (p := ⟨w.heap.size + 1 + 1 + 1, 0, none⟩) rfl _
  have r6 := heap_fr (heap_setCell_same _ _ 0 _ _ (.slice none 0 0) Y2.out) fb (by omega)
  have r7 := heap_setCell_same _ _ 0 _ _ (.int .i64 1) (heap_fr Y3.out fa (by omega))
  have rB := (B1.out.trans (fa.bel (fun k e => by omega) B1.out.size)).trans (fb.bel (fun k e => by omega) (B1.out.trans (fa.bel (fun k e => by omega) B1.out.size)).size)
  refine bodyPost_ret (results_two rfl _ _ ⟨w.heap.size + 1 + 1, 0, none⟩ ⟨w.heap.size + 1 + 1 + 1, 0, none⟩ _ _ (.slice none 0 0) (.int .i64 1) rfl rfl Tryz.underlying23 rfl (cells_of r6 0 _ (by simp)) Tryz.underlying34 rfl (cells_of r7 0 _ (by simp))) rfl ?_
  exact ⟨rfl, rB⟩
theorem c_Write_nil (x y : Int) (A : Option Addr) (n cb : Nat) (w : World) :
    Calls Tryz.prog 70 #[.pointer none, .agg #[.int .i64 x, .int .i64 y], .slice A n cb] w fun e w' => e = .returned (.int .i64 1) ∧ Below w.heap.size w w' := by
  have HBX := Lib.hid ((((((Below.refl w.heap.size w).alloc (Nat.le_refl _) (.cells #[.pointer none] 29)).alloc (by simp) (.cells #[.int .i64 x, .int .i64 y] 144)).alloc (by simp; omega) (.cells #[.slice A n cb] 23)).alloc (by simp; omega) (.cells #[.int .i64 0] 34)))
  obtain ⟨x0, x1, x2, x3⟩ := boxes4 w (.cells #[.pointer none] 29) (.cells #[.int .i64 x, .int .i64 y] 144) (.cells #[.slice A n cb] 23) (.cells #[.int .i64 0] 34)
  have X3 := Lib.hid x3
  clear x0 x1 x2 x3
  go_enter Tryz.func70, Tryz.ntmps70
  go_wp2_with (first
    | (go_at_call 126
       refine (c_check_nil (.bool true) x y _).mono ?_
       rintro e w1 ⟨rfl, hb1⟩
       have B1 := Lib.hid (HBX.out.trans (hb1.mono HBX.out.size))
       have Y3 := Lib.hid ((hb1.block _ (heap_lt X3.out)).trans X3.out)
       have c5 : w1.cell? ⟨w.heap.size + 1 + 1 + 1, 0, none⟩ = some (.int .i64 0) := cells_of Y3.out 0 _ rfl
       have fz : w1.frozen? ⟨w.heap.size + 1 + 1 + 1, 0, none⟩ = false := by have h := Y3.out; simp [World.frozen?, h]
       clear X3 hb1))
  have fs : Fr (fun k => k = w.heap.size + 1 + 1 + 1) w1 (w1.setCell ⟨w.heap.size + 1 + 1 + 1, 0, none⟩ (.int .i64 1)) := Fr.setCell (S := fun k => k = w.heap.size + 1 + 1 + 1) (p := ⟨w.heap.size + 1 + 1 + 1, 0, none⟩) rfl _
  have h5 := heap_setCell_same _ _ 0 _ _ (.int .i64 1) Y3.out
  refine bodyPost_ret (results_one rfl _ _ ⟨w.heap.size + 1 + 1 + 1, 0, none⟩ _ (.int .i64 1) rfl Tryz.underlying34 rfl (cells_of h5 0 _ (by simp))) rfl ?_
  exact ⟨rfl, B1.out.trans (fs.bel (fun k e => by omega) B1.out.size)⟩
theorem c_Image (h : Dk w p g mb c d) (hf : Fine d) (hn : 8 < d.cells.length) : Calls Tryz.prog 31 #[.pointer (some ⟨p, 0, none⟩)] w fun e w' => ∃ A2 c2, e = .returned (.slice A2 (area d).length c2) ∧ Tw.Own w' w.heap.size 5 1 A2 (area d).length c2 (bytesV (area d)) ∧ Below w.heap.size w w' := by
  have hr := c_Read h 0 (secs d)
  rw [fine_image hf hn] at hr
  have H := Lib.hid h
  have Hr := Lib.hid hr
  clear h hf hr
  go_enter Tryz.func31, Tryz.ntmps31
  go_wp2_with (first
    | (go_at_call 73
       (with_reducible refine (c_Sectors H.out).mono ?_)
       rintro e w' ⟨rfl, rfl⟩)
    | (go_at_call 72
       refine Hr.out.mono ?_
       rintro e w1 ⟨A2, c2, rfl, ho, hb⟩))
  go_ret
  exact ⟨A2, c2, rfl, ho, hb⟩
end
theorem c_Image_nil (w : World) : Calls Tryz.prog 31 #[.pointer none] w fun e w' => e = .returned (.slice none 0 0) ∧ Below w.heap.size w w' := by
  go_enter Tryz.func31, Tryz.ntmps31
  go_wp2_with (first
    | (go_at_call 73
       (with_reducible refine (c_Sectors_nil _).mono ?_)
       rintro e w' ⟨rfl, rfl⟩)
    | (go_at_call 72
       refine (c_Read_nil _ _ _).mono ?_
       rintro e w1 ⟨rfl, hb⟩))
  go_ret
  exact ⟨rfl, hb⟩
end Go.Proofs.YtaldlapnhhhclaaGreat.Data
/- The laws DataNone and DataKeeps: the calls of a disk that no call made, the example. Conditions: none. -/
namespace Go.Proofs.YtaldlapnhhhclaaGreat.Data
open Go.RowKit Tw Disk
set_option maxHeartbeats 4000000
set_option maxRecDepth 100000

def SpanR (e : Ending) : Prop := ∃ o l : Int, e = .returned (.agg #[.int .i64 o, .int .i64 l])
theorem c_Whole (x : Int) (w : World) (hx : -9223372036854775808 ≤ x ∧ x ≤ 9223372036854775807) : Calls Tryz.prog 132 #[.int .i64 x] w fun e w' => SpanR e ∧ Below w.heap.size w w' := by
  go_enter Tryz.func132, Tryz.ntmps132
  go_wp2_with fail
  all_goals
    refine bodyPost_ret (results_cell_row rfl _ _ w.heap.size _ _ (0, 0) _ rfl (heap_alloc_new w _) Tryz.underlying144 rfl (by kernel_rfl)) rfl ?_
    exact ⟨⟨_, _, rfl⟩, (Below.refl _ _).alloc (Nat.le_refl _) _⟩
theorem c_Extent_nil (x : Int) (w : World) (hx : -9223372036854775808 ≤ x ∧ x ≤ 9223372036854775807) : Calls Tryz.prog 75 #[.pointer none, .int .i64 x] w fun e w' => e = .returned (.tuple #[.slice none 0 0, .int .i64 1]) ∧ Below w.heap.size w w' := by
  go_enter Tryz.func75, Tryz.ntmps75
  go_wp2_with (first
    | (go_at_call 132
       (with_reducible refine (c_Whole x _ hx).mono ?_)
       rintro e w1 ⟨⟨o, l, rfl⟩, hb1⟩
       have B1 := Lib.hid hb1
       clear hb1)
    | (go_at_call 72
       refine (c_Read_nil _ _ _).mono ?_
       rintro e w2 ⟨rfl, hb2⟩
       have B2 := Lib.hid (B1.out.trans (hb2.mono B1.out.size))
       clear hb2))
  go_ret2
  exact ⟨rfl, B2.out⟩
theorem c_SetExtent_nil (x : Int) (A : Option Addr) (n cb : Nat) (w : World) (hx : -9223372036854775808 ≤ x ∧ x ≤ 9223372036854775807) : Calls Tryz.prog 87 #[.pointer none, .int .i64 x, .slice A n cb] w fun e w' => e = .returned (.int .i64 1) ∧ Below w.heap.size w w' := by
  go_enter Tryz.func87, Tryz.ntmps87
  go_wp2_with (first
    | (go_at_call 132
       (with_reducible refine (c_Whole x _ hx).mono ?_)
       rintro e w1 ⟨⟨o, l, rfl⟩, hb1⟩
       have B1 := Lib.hid hb1
       clear hb1)
    | (go_at_call 70
       refine (c_Write_nil _ _ _ _ _ _).mono ?_
       rintro e w2 ⟨rfl, hb2⟩
       have B2 := Lib.hid (B1.out.trans (hb2.mono B1.out.size))
       clear hb2))
  go_ret
  exact ⟨rfl, B2.out⟩

theorem c_dNewI (X : Int) (n : Nat) (hX : X = (n : Int)) (w : World) (h1 : 1 ≤ n) (h2 : n ≤ 1024) :
    Calls Tryz.prog 17 #[.int .i64 X] w fun e w' => ∃ p g mb, e = .returned (.tuple #[.pointer (some ⟨p, 0, none⟩), .int .i64 0]) ∧ Dk w' p g mb n (Dsk.new n) ∧ (w.heap.size ≤ p ∧ w.heap.size ≤ g ∧ w.heap.size ≤ mb) ∧ Below w.heap.size w w' := by
  subst hX
  exact c_dNew n w h1 h2
theorem lives_w1 : (dWrite (Dsk.new 12) 3 1 (List.replicate 16 0)).2 = 0 := by decide +kernel
theorem lives_w2 : (dWrite (dWrite (Dsk.new 12) 3 1 (List.replicate 16 0)).1 3 2 (List.replicate 32 0)) = ((dWrite (Dsk.new 12) 3 1 (List.replicate 16 0)).1, 13) := by
  rw [dWrite, if_neg (by decide +kernel)]
theorem lives_secs : secs (dWrite (Dsk.new 12) 3 1 (List.replicate 16 0)).1 = 4 := by decide +kernel
theorem lives_fine : Fine (dWrite (Dsk.new 12) 3 1 (List.replicate 16 0)).1 ∧ (dWrite (Dsk.new 12) 3 1 (List.replicate 16 0)).1.cells.length = 12 ∧ (dWrite (Dsk.new 12) 3 1 (List.replicate 16 0)).1.ops ≤ 1024 := by
  rcases fine_dWrite (fine_new (n := 12) (by omega) (by omega)) (by simp [Dsk.new]) 3 1 (List.replicate 16 0) with ⟨h, _⟩ | ⟨_, o, L, _, _, _, _, h1, h2, h3, _⟩
  · exact absurd lives_w1 h
  · exact ⟨h1, by rw [h2]; simp [Dsk.new], by simpa [Dsk.new] using h3⟩
theorem new_block {w : World} {p g mb c n : Nat} {d : Dsk} (h : Dk w p g mb c d) : ∀ ad, some (⟨w.heap.size, 0, none⟩ : Addr) = some ad → 0 < n → ad.block ≠ p ∧ ad.block ≠ mb := fun ad e _ => by
  have := h.lts
  injection e with e
  subst e
  simp only
  omega
end Go.Proofs.YtaldlapnhhhclaaGreat.Data
/- The data area of a disk: Whole, Extent, SetExtent, Image, exactly. Conditions: at most 10^9 operations. -/
namespace Go.Proofs.YtaldlapnhhhclaaGreat.Data
open Go.RowKit Tw Disk
set_option maxHeartbeats 4000000
set_option maxRecDepth 100000
def whole (x : Int) : Int × Int := if 0 ≤ x ∧ x ≤ 63 then (4 * x, 4) else (0, 0)
def spanV (s : Int × Int) : Value := .agg #[.int .i64 s.1, .int .i64 s.2]
theorem c_WholeE (x : Int) (w : World) (hx : -9223372036854775808 ≤ x ∧ x ≤ 9223372036854775807) : Calls Tryz.prog 132 #[.int .i64 x] w fun e w' => e = .returned (spanV (whole x)) ∧ Below w.heap.size w w' := by
  by_cases h1 : x < 0
  · have hw : Hid (whole x = (0, 0)) := Lib.hid (by unfold whole; rw [if_neg (by omega)])
    go_enter Tryz.func132, Tryz.ntmps132
    go_wp2_with fail
    refine bodyPost_ret (results_cell_row rfl _ _ w.heap.size _ _ (0, 0) _ rfl (heap_alloc_new w _) Tryz.underlying144 rfl (by kernel_rfl)) rfl ?_
    rw [hw.out]
    exact ⟨rfl, (Below.refl _ _).alloc (Nat.le_refl _) _⟩
  · by_cases h2 : 63 < x
    · have hw : Hid (whole x = (0, 0)) := Lib.hid (by unfold whole; rw [if_neg (by omega)])
      have h3 : 64 ≤ x := by omega
      go_enter Tryz.func132, Tryz.ntmps132
      go_wp2_with fail
      refine bodyPost_ret (results_cell_row rfl _ _ w.heap.size _ _ (0, 0) _ rfl (heap_alloc_new w _) Tryz.underlying144 rfl (by kernel_rfl)) rfl ?_
      rw [hw.out]
      exact ⟨rfl, (Below.refl _ _).alloc (Nat.le_refl _) _⟩
    · have hw : Hid (whole x = (4 * x, 4)) := Lib.hid (by unfold whole; rw [if_pos (by omega)])
      have h3 : ¬ 64 ≤ x := by omega
      go_enter Tryz.func132, Tryz.ntmps132
      go_wp2_with fail
      refine bodyPost_ret (results_cell_row rfl _ _ w.heap.size _ _ (0, 0) _ rfl (heap_alloc_new w _) Tryz.underlying144 rfl (by kernel_rfl)) rfl ?_
      rw [hw.out]
      refine ⟨?_, (Below.refl _ _).alloc (Nat.le_refl _) _⟩
      first | rfl | (unfold spanV; rw [Int.mul_comm])
theorem dRead_err {d : Dsk} {x y : Int} (h : (dRead d x y).2 ≠ 0) : (dRead d x y).1 = [] := by
  unfold dRead at h ⊢
  split
  · rename_i h1
    rw [if_pos h1] at h
    exact rseq_err h
  · rfl
def img (d : Dsk) : List UInt8 := (dRead d 0 (secs d)).1
section
variable {w : World} {p g mb c : Nat} {d : Dsk}
theorem c_ExtentE (h : Dk w p g mb c d) (x : Int) (hx : -9223372036854775808 ≤ x ∧ x ≤ 9223372036854775807) : Calls Tryz.prog 75 #[.pointer (some ⟨p, 0, none⟩), .int .i64 x] w fun e w' => ∃ A2 c2, e = .returned (.tuple #[.slice A2 (dRead d (whole x).1 (whole x).2).1.length c2, .int .i64 ((dRead d (whole x).1 (whole x).2).2 : Int)]) ∧ Tw.Own w' w.heap.size 5 1 A2 (dRead d (whole x).1 (whole x).2).1.length c2 (bytesV (dRead d (whole x).1 (whole x).2).1) ∧ Below w.heap.size w w' := by
  have H := Lib.hid h
  clear h
  go_enter Tryz.func75, Tryz.ntmps75
  go_wp2_with (first
    | (go_at_call 132
       (with_reducible refine (c_WholeE x _ hx).mono ?_)
       rintro e w1 ⟨rfl, hb1⟩
       have H := Lib.hid (H.out.bel hb1)
       have HB := Lib.hid hb1
       unfold spanV
       clear hb1)
    | (go_at_call 72
       (with_reducible refine (c_Read H.out _ _).mono ?_)
       rintro e w2 ⟨A2, c2, rfl, ho2, hb2⟩
       have HO := Lib.hid (Tw.Own.mono ho2 HB.out.size)
       have HB := Lib.hid (HB.out.trans (hb2.mono HB.out.size))
       clear ho2 hb2))
  go_ret2
  exact ⟨A2, c2, rfl, HO.out, HB.out⟩
theorem c_SetExtentE (h : Dk w p g mb c d) (ho : d.ops + 1024 < 1000000000) (x : Int) (hx : -9223372036854775808 ≤ x ∧ x ≤ 9223372036854775807) (A : Option Addr) (n cb : Nat) (b : List UInt8) (hb : Byt w A n cb b) (hA : ∀ ad, A = some ad → 0 < n → ad.block ≠ p ∧ ad.block ≠ mb) : Calls Tryz.prog 87 #[.pointer (some ⟨p, 0, none⟩), .int .i64 x, .slice A n cb] w fun e w' => e = .returned (.int .i64 ((dWrite d (whole x).1 (whole x).2 b).2 : Int)) ∧ Dk w' p g mb c (dWrite d (whole x).1 (whole x).2 b).1 ∧ Fr (fun k => k = p ∨ k = mb) w w' := by
  have H := Lib.hid h
  have Hb := Lib.hid hb
  have HA := Lib.hid hA
  clear h hb hA
  go_enter Tryz.func87, Tryz.ntmps87
  go_wp2_with (first
    | (go_at_call 132
       (with_reducible refine (c_WholeE x _ hx).mono ?_)
       rintro e w1 ⟨rfl, hb1⟩
       have H := Lib.hid (H.out.bel hb1)
       have Hb := Lib.hid (Hb.out.bel hb1)
       have HB := Lib.hid hb1
       unfold spanV
       clear hb1)
    | (go_at_call 70
       (with_reducible refine (c_Write H.out ho _ _ A n cb b Hb.out HA.out).mono ?_)
       rintro e w2 ⟨rfl, h2, f2⟩
       have H2 := Lib.hid h2
       have F2 := Lib.hid ((Fr.of_bel HB.out).trans f2 (fun _ _ e => e))
       clear h2 f2))
  go_ret
  exact ⟨rfl, H2.out, F2.out⟩
theorem c_ImageE (h : Dk w p g mb c d) : Calls Tryz.prog 31 #[.pointer (some ⟨p, 0, none⟩)] w fun e w' => ∃ A2 c2, e = .returned (.slice A2 (img d).length c2) ∧ Tw.Own w' w.heap.size 5 1 A2 (img d).length c2 (bytesV (img d)) ∧ Below w.heap.size w w' := by
  have H := Lib.hid h
  clear h
  by_cases he : (dRead d 0 (secs d)).2 = 0
  · have He := Lib.hid he
    clear he
    go_enter Tryz.func31, Tryz.ntmps31
    go_wp2_with (first
      | (go_at_call 73
         (with_reducible refine (c_Sectors H.out).mono ?_)
         rintro e w' ⟨rfl, rfl⟩)
      | (go_at_call 72
         refine (c_Read H.out 0 (secs d)).mono ?_
         rintro e w1 ⟨A2, c2, rfl, ho, hb⟩
         rw [He.out]))
    go_ret
    exact ⟨A2, c2, rfl, ho, hb⟩
  · have hne : (((dRead d 0 (secs d)).2 : Int) != 0) = true := by simp; omega
    have hi : Hid (img d = []) := Lib.hid (dRead_err he)
    clear he
    go_enter Tryz.func31, Tryz.ntmps31
    go_wp2_with (first
      | (go_at_call 73
         (with_reducible refine (c_Sectors H.out).mono ?_)
         rintro e w' ⟨rfl, rfl⟩)
      | (go_at_call 72
         refine (c_Read H.out 0 (secs d)).mono ?_
         rintro e w1 ⟨A2, c2, rfl, ho, hb⟩))
    go_ret
    rw [hi.out]
    exact ⟨none, 0, rfl, World.ownsRow_nil _ _ _ _, hb⟩
end
end Go.Proofs.YtaldlapnhhhclaaGreat.Data
/- Contracts of the package copying: Give, the steps of Put. Conditions: at most 10^9 operations. -/
namespace Go.Proofs.YtaldlapnhhhclaaGreat.Copying
open Go.RowKit Tw Disk Go.Proofs.YtaldlapnhhhclaaGreat.Data
set_option maxHeartbeats 4000000
set_option maxRecDepth 100000
theorem wpL_load_rdG {P : Program} {ops : Array Oper} {rest : List Oper} {w : World} {o : Oper} {a : Act} {Q : Exit → Act → World → Prop} (hgd : Region.wanted o (yielded ops a.tmps) = true) (ty : TypeId) (x : Operand) (ho : o.op = .load ty x)
    (ad : Addr) (hx : a.eval x = .pointer (some ad)) (cs : List Value) (d : TypeDesc) (hc : ∀ j v, cs[j]? = some v → w.cell? (ad.add j) = some v)
    (hu : P.underlying ty = some d) (hd : d.isRow = true) (hi : (P.info? ty).map (·.size) = some cs.length) (h : wpList P ops Q rest (a.put o.dst (.agg cs.toArray)) w) : wpList P ops Q (o :: rest) a w :=
  wpList_step fun K hK => by
    rw [if_pos hgd]
    exact wp_load_rd ty x ho ad hx cs d hc hu hd hi (hK _ _ h)
/-- a message as cells -/
def msV (k i o : Int) (m : Nat) (wb : Bool) (A : Option Addr) (n cb : Nat) : List Value := [.int .i64 k, .int .i64 i, .int .i64 o, .int .u64 (m : Int), .bool wb, .slice A n cb]
def m0 : Array Value := #[.int .i64 0, .int .i64 0, .int .i64 0, .int .u64 0, .bool false, .slice none 0 0]
theorem ms_one {k i o : Int} {m : Nat} {wb : Bool} {A : Option Addr} {n cb : Nat} : ∀ v ∈ (msV k i o m wb A n cb).toArray, v.oneCell' = true := by
  intro v hv
  simp only [msV, List.mem_toArray, List.mem_cons, List.not_mem_nil, or_false] at hv
  rcases hv with rfl | rfl | rfl | rfl | rfl | rfl <;> rfl
theorem ms6 {W : World} {g : Nat} {k i o : Int} {m : Nat} {wb : Bool} {A : Option Addr} {n cb : Nat} {t : TypeId} (h : W.heap[g]? = some (.cells (msV k i o m wb A n cb).toArray t (0, 0))) :
    W.cell? ⟨g, 0, none⟩ = some (.int .i64 k) ∧ W.cell? ⟨g, 2, none⟩ = some (.int .i64 o) ∧ W.cell? ⟨g, 5, none⟩ = some (.slice A n cb) :=
  ⟨cells_of h 0 _ rfl, cells_of h 2 _ rfl, cells_of h 5 _ rfl⟩
theorem c_Give_nil (x : Int) (w : World) (hx : -9223372036854775808 ≤ x ∧ x ≤ 9223372036854775807) : Calls Tryz.prog 40 #[.pointer none, .int .i64 x] w fun e w' => e = .returned (.tuple #[.agg m0, .int .i64 1]) ∧ Below w.heap.size w w' := by
  have HB := Lib.hid ((Below.refl w.heap.size w).alloc (Nat.le_refl _) (.cells m0 25))
  have HX := Lib.hid (heap_alloc_new w (.cells m0 25))
  unfold m0 at HB HX
  go_enter Tryz.func40, Tryz.ntmps40
  go_wp2_with (first
    | (go_at_call 75
       (with_reducible refine (c_Extent_nil x _ hx).mono ?_)
       rintro e w2 ⟨rfl, hb2⟩
       have HX := Lib.hid ((hb2.block _ (heap_lt HX.out)).trans HX.out)
       have HB := Lib.hid (HB.out.trans (hb2.mono HB.out.size))
       clear hb2)
    | (refine wpL_store_all rfl rfl 25 (.tmp 4) (.tmp 16) rfl _ rfl _ rfl _ _ HX.out (by kernel_rfl) rfl (by simp [Value.oneCell']) ?_
       intro w8 x8 g8
       have HX8 := Lib.hid x8
       have HB8 := Lib.hid (HB.out.grown g8 HB.out.size (by rintro k ⟨⟩; exact Nat.le_refl _))
       have G8 := Lib.hid g8
       clear x8 g8)
    )
  refine bodyPost_ret (results_cell2 rfl _ _ w.heap.size _ _ (0, 0) _ rfl HX8.out Tryz.underlying25 rfl (by kernel_rfl) _ rfl) rfl ?_
  exact ⟨rfl, HB8.out⟩
section
variable {w : World} {p g mb c : Nat} {d d1 d2 d3 : Dsk}
theorem c_Give_ok (h : Dk w p g mb c d) (x : Int) (hx : -9223372036854775808 ≤ x ∧ x ≤ 9223372036854775807) (t : List UInt8) (hr : dRead d (whole x).1 (whole x).2 = (t, 0)) : Calls Tryz.prog 40 #[.pointer (some ⟨p, 0, none⟩), .int .i64 x] w fun e w' => ∃ A2 c2, e = .returned (.tuple #[.agg (msV 6 0 x 0 false A2 t.length c2).toArray, .int .i64 0]) ∧ Tw.Own w' w.heap.size 5 1 A2 t.length c2 (bytesV t) ∧ Below w.heap.size w w' := by
  have HB := Lib.hid ((Below.refl w.heap.size w).alloc (Nat.le_refl _) (.cells m0 25))
  have HX := Lib.hid (heap_alloc_new w (.cells m0 25))
  unfold m0 at HB HX
  have H := Lib.hid (h.bel HB.out)
  have HR := Lib.hid hr
  clear h hr
  go_enter Tryz.func40, Tryz.ntmps40
  go_wp2_with (first
    | (go_at_call 75
       (with_reducible refine (c_ExtentE H.out x hx).mono ?_)
       rw [HR.out]
       rintro e w2 ⟨A2, c2, rfl, ho2, hb2⟩
       have HX := Lib.hid ((hb2.block _ (heap_lt HX.out)).trans HX.out)
       have HO := Lib.hid ho2
       have HB := Lib.hid (HB.out.trans (hb2.mono HB.out.size))
       clear hb2 ho2)
    | (refine wpL_store_all rfl rfl 25 (.tmp 4) (.tmp 20) rfl _ rfl _ rfl _ _ HX.out (by kernel_rfl) rfl (by simp [Value.oneCell']) ?_
       intro w8 x8 g8
       have HX8 := Lib.hid x8
       have HB8 := Lib.hid (HB.out.grown g8 HB.out.size (by rintro k ⟨⟩; exact Nat.le_refl _))
       have G8 := Lib.hid g8
       clear x8 g8)
    )
  refine bodyPost_ret (results_cell2 rfl _ _ w.heap.size _ _ (0, 0) _ rfl HX8.out Tryz.underlying25 rfl (by kernel_rfl) _ rfl) rfl ?_
  exact ⟨A2, c2, rfl, Tw.Own.mono (HO.out.kept G8.out (own_apart HO.out (by rintro k ⟨⟩; simp))) (by simp), HB8.out⟩
/-- the first step: the extent's bytes -/
theorem c_put1 {g1 g2 : Nat} {t1 t2 : TypeId} (h : Dk w p g mb c d) (ho : d.ops + 1024 < 1000000000) (k i x : Int) (m : Nat) (wb : Bool) (A : Option Addr) (n cb : Nat) (b : List UInt8) (hx : -9223372036854775808 ≤ x ∧ x ≤ 9223372036854775807) (hb : Byt w A n cb b) (hA : ∀ ad, A = some ad → 0 < n → ad.block ≠ p ∧ ad.block ≠ mb)
    (h1 : w.heap[g1]? = some (.cells #[.pointer (some ⟨p, 0, none⟩)] t1 (0, 0))) (h2 : w.heap[g2]? = some (.cells (msV k i x m wb A n cb).toArray t2 (0, 0))) :
    Calls Tryz.prog 86 #[.pointer (some ⟨g1, 0, none⟩), .pointer (some ⟨g2, 0, none⟩)] w fun e w' => e = .returned (.int .i64 ((dWrite d (whole x).1 (whole x).2 b).2 : Int)) ∧ Dk w' p g mb c (dWrite d (whole x).1 (whole x).2 b).1 ∧ Fr (fun k => k = p ∨ k = mb) w w' := by
  have d0 := Actlog.cell1 h1
  obtain ⟨e0, e2, e5⟩ := ms6 h2
  have H := Lib.hid h
  have Hb := Lib.hid hb
  have HA := Lib.hid hA
  clear h hb hA h1 h2
  go_enter Tryz.func86, Tryz.ntmps86
  go_wp2_with (first
    | (go_at_call 87
       (with_reducible refine (c_SetExtentE H.out ho x hx A n cb b Hb.out HA.out).mono ?_)
       rintro e w2 ⟨rfl, h2, f2⟩
       have H2 := Lib.hid h2
       have F2 := Lib.hid f2
       clear h2 f2 d0 e0 e2 e5))
  go_ret
  exact ⟨rfl, H2.out, F2.out⟩
theorem c_put1_nil {g1 g2 : Nat} {t1 t2 : TypeId} (k i x : Int) (m : Nat) (wb : Bool) (A : Option Addr) (n cb : Nat) (hx : -9223372036854775808 ≤ x ∧ x ≤ 9223372036854775807)
    (h1 : w.heap[g1]? = some (.cells #[.pointer none] t1 (0, 0))) (h2 : w.heap[g2]? = some (.cells (msV k i x m wb A n cb).toArray t2 (0, 0))) :
    Calls Tryz.prog 86 #[.pointer (some ⟨g1, 0, none⟩), .pointer (some ⟨g2, 0, none⟩)] w fun e w' => e = .returned (.int .i64 1) ∧ Below w.heap.size w w' := by
  have d0 := Actlog.cell1 h1
  obtain ⟨e0, e2, e5⟩ := ms6 h2
  clear h1 h2
  go_enter Tryz.func86, Tryz.ntmps86
  go_wp2_with (first
    | (go_at_call 87
       (with_reducible refine (c_SetExtent_nil x A n cb _ hx).mono ?_)
       rintro e w2 ⟨rfl, b2⟩
       have B2 := Lib.hid b2
       clear b2 d0 e0 e2 e5))
  go_ret
  exact ⟨rfl, B2.out⟩
/-- the last step: the extent's bit -/
theorem c_put2 {g1 g2 : Nat} {t1 t2 : TypeId} (h : Dk w p g mb c d) (k i x : Int) (m : Nat) (wb : Bool) (A : Option Addr) (n cb : Nat) (r : Int) (E : Nat)
    (hcl : ∀ W, Dk W p g mb c d → Calls Tryz.prog 25 #[.pointer (some ⟨p, 0, none⟩), .int .i64 x] W fun e' w' => e' = .returned (.tuple #[.int .u64 r, .int .i64 (E : Int)]) ∧ Dk w' p g mb c d1 ∧ Fr (fun k => k = p ∨ k = g ∨ k = mb) W w')
    (h1 : w.heap[g1]? = some (.cells #[.pointer (some ⟨p, 0, none⟩)] t1 (0, 0))) (h2 : w.heap[g2]? = some (.cells (msV k i x m wb A n cb).toArray t2 (0, 0))) :
    Calls Tryz.prog 88 #[.pointer (some ⟨g1, 0, none⟩), .pointer (some ⟨g2, 0, none⟩)] w fun e w' => e = .returned (.int .i64 (E : Int)) ∧ Dk w' p g mb c d1 ∧ Fr (fun k => k = p ∨ k = g ∨ k = mb) w w' := by
  have d0 := Actlog.cell1 h1
  obtain ⟨e0, e2, e5⟩ := ms6 h2
  have H := Lib.hid h
  have HC := Lib.hid hcl
  clear h hcl h1 h2
  go_enter Tryz.func88, Tryz.ntmps88
  go_wp2_with (first
    | (go_at_call 25
       refine (HC.out _ H.out).mono ?_
       rintro e w2 ⟨rfl, h2, f2⟩
       have H2 := Lib.hid h2
       have F2 := Lib.hid f2
       clear h2 f2 d0 e0 e2 e5))
  go_ret
  exact ⟨rfl, H2.out, F2.out⟩
end
def F1 (g1 g2 : Nat) : Value := .func (.func 86) #[] #[.pointer (some ⟨g1, 0, none⟩), .pointer (some ⟨g2, 0, none⟩)]
def F2 (v : Value) : Value := .func (.func 71) #[v] #[]
def F3 (g1 g2 : Nat) : Value := .func (.func 88) #[] #[.pointer (some ⟨g1, 0, none⟩), .pointer (some ⟨g2, 0, none⟩)]
theorem fcells {W : World} {g : Nat} {t : TypeId} {a b c : Value} (h : W.heap[g]? = some (.cells #[a, b, c] t (0, 0))) : W.cell? ⟨g, 0, none⟩ = some a ∧ W.cell? ⟨g, 1, none⟩ = some b ∧ W.cell? ⟨g, 2, none⟩ = some c :=
  ⟨cells_of h 0 _ rfl, cells_of h 1 _ rfl, cells_of h 2 _ rfl⟩
section
variable {w : World} {p g mb c : Nat} {d d1 d2 d3 : Dsk}
theorem c_steps_nil {Bf g1 g2 : Nat} {t1 t2 t3 : TypeId} (v : Value) (k i x : Int) (m : Nat) (wb : Bool) (A : Option Addr) (n cb : Nat) (hx : -9223372036854775808 ≤ x ∧ x ≤ 9223372036854775807)
    (h1 : w.heap[g1]? = some (.cells #[.pointer none] t1 (0, 0))) (h2 : w.heap[g2]? = some (.cells (msV k i x m wb A n cb).toArray t2 (0, 0))) (h3 : w.heap[Bf]? = some (.cells #[F1 g1 g2, F2 v, F3 g1 g2] t3 (0, 0))) :
    Calls Tryz.prog 89 #[.slice (some ⟨Bf, 0, none⟩) 3 3] w fun e w' => e = .returned (.int .i64 1) ∧ Below w.heap.size w w' := by
  obtain ⟨c0, c1, c2⟩ := fcells h3
  have X1 := Lib.hid h1
  have X2 := Lib.hid h2
  simp only [F1, F2, F3] at c0 c1 c2
  clear h1 h2 h3
  go_enter Tryz.func89, Tryz.ntmps89
  go_wp2_with fail
  go_loopw [7] (fun v wr => v = .int .i64 0 ∧ wr = w) (fun _ _ => 0)
  case atStart => exact ⟨rfl, rfl⟩
  case round =>
    obtain ⟨rfl, rfl⟩ := hrel
    go_wp2_with (first
      | (go_at_call 86
         (with_reducible refine (c_put1_nil k i x m wb A n cb hx X1.out X2.out).mono ?_)
         rintro e w2 ⟨rfl, b2⟩
         have B2 := Lib.hid b2
         clear b2 c0 c1 c2))
    go_ret
    exact ⟨rfl, B2.out⟩
theorem c_steps_ok {Bf g1 g2 : Nat} {t1 t2 t3 : TypeId} (h : Dk w p g mb c d) (ho : d.ops + 1024 < 1000000000) (k i x : Int) (m : Nat) (wb : Bool) (A : Option Addr) (n cb : Nat) (b : List UInt8) (hx : -9223372036854775808 ≤ x ∧ x ≤ 9223372036854775807) (hb : Byt w A n cb b) (hA : ∀ ad, A = some ad → 0 < n → ad.block ≠ p ∧ ad.block ≠ mb)
    (hs1 : dWrite d (whole x).1 (whole x).2 b = (d1, 0)) (ho1 : d1.ops < 1000000000) (hs2 : d1.flush = (d2, 0)) (r : Int)
    (hcl : ∀ W, Dk W p g mb c d2 → Calls Tryz.prog 25 #[.pointer (some ⟨p, 0, none⟩), .int .i64 x] W fun e' w' => e' = .returned (.tuple #[.int .u64 r, .int .i64 0]) ∧ Dk w' p g mb c d3 ∧ Fr (fun k => k = p ∨ k = g ∨ k = mb) W w')
    (h1 : w.heap[g1]? = some (.cells #[.pointer (some ⟨p, 0, none⟩)] t1 (0, 0))) (h2 : w.heap[g2]? = some (.cells (msV k i x m wb A n cb).toArray t2 (0, 0))) (h3 : w.heap[Bf]? = some (.cells #[F1 g1 g2, F2 (.pointer (some ⟨p, 0, none⟩)), F3 g1 g2] t3 (0, 0)))
    (hg : ∀ z, z = g1 ∨ z = g2 ∨ z = Bf → z ≠ p ∧ z ≠ g ∧ z ≠ mb) :
    Calls Tryz.prog 89 #[.slice (some ⟨Bf, 0, none⟩) 3 3] w fun e w' => e = .returned (.int .i64 0) ∧ Dk w' p g mb c d3 ∧ Fr (fun k => k = p ∨ k = g ∨ k = mb) w w' := by
  have X1 := Lib.hid h1
  have X2 := Lib.hid h2
  have X3 := Lib.hid h3
  have G1 := Lib.hid (hg g1 (.inl rfl))
  have G2 := Lib.hid (hg g2 (.inr (.inl rfl)))
  have G3 := Lib.hid (hg Bf (.inr (.inr rfl)))
  have H := Lib.hid h
  have Hb := Lib.hid hb
  have HA := Lib.hid hA
  have S1 := Lib.hid hs1
  have S2 := Lib.hid hs2
  have HC := Lib.hid hcl
  have Ho1 := Lib.hid ho1
  clear h1 h2 h3 hg h hb hA hs1 hs2 hcl ho1
  go_enter Tryz.func89, Tryz.ntmps89
  go_wp2_with fail
  go_loopw [2, 7] (fun u v wr => ∃ (j : Nat) (D : Dsk), j ≤ 3 ∧ u = .int .i64 0 ∧ v = .int .i64 (j : Int) ∧ Hid ((j = 0 ∧ D = d ∧ wr = w) ∨ (j = 1 ∧ D = d1) ∨ (j = 2 ∧ D = d2) ∨ (j = 3 ∧ D = d3)) ∧ Hid (Dk wr p g mb c D) ∧ Hid (Fr (fun k => k = p ∨ k = g ∨ k = mb) w wr)) (fun _ v _ => 3 - (intOf v).toNat)
  case atStart => exact ⟨0, d, by omega, rfl, rfl, Lib.hid (.inl ⟨rfl, rfl, rfl⟩), H, Lib.hid (Fr.refl _ _)⟩
  case round =>
    obtain ⟨j, D, hj, rfl, rfl, HJ, HD, HF⟩ := hrel
    have x1 := heap_fr X1.out HF.out (by have := G1.out; omega)
    have x2 := heap_fr X2.out HF.out (by have := G2.out; omega)
    obtain ⟨c0, c1, c2⟩ := fcells (heap_fr X3.out HF.out (by have := G3.out; omega))
    have Y1 := Lib.hid x1
    have Y2 := Lib.hid x2
    simp only [F1, F2, F3] at c0 c1 c2
    clear x1 x2
    rcases HJ.out with ⟨rfl, rfl, rfl⟩ | ⟨rfl, rfl⟩ | ⟨rfl, rfl⟩ | ⟨rfl, rfl⟩
    · clear HJ
      go_wp2_with (first
        | (go_at_call 86
           (with_reducible refine (c_put1 HD.out ho k i x m wb A n cb b hx Hb.out HA.out Y1.out Y2.out).mono ?_)
           rw [S1.out]
           rintro e w2 ⟨rfl, h2, f2⟩
           have H2 := Lib.hid h2
           have FF2 := Lib.hid (HF.out.trans (f2.mono (S1 := fun k => k = p ∨ k = g ∨ k = mb) (fun k _ e => e.elim .inl (fun e => .inr (.inr e)))) (fun _ _ e => e))
           clear h2 f2 c0 c1 c2))
      go_roundw
      case rel => exact ⟨1, d1, by omega, rfl, by go_num, Lib.hid (.inr (.inl ⟨rfl, rfl⟩)), H2, FF2⟩
      case measure => simp [intOf] <;> omega
    · clear HJ
      go_wp2_with (first
        | (go_at_call 71
           (with_reducible refine (c_Flush HD.out Ho1.out).mono ?_)
           rw [S2.out]
           rintro e w2 ⟨rfl, h2, f2⟩
           have H2 := Lib.hid h2
           have FF2 := Lib.hid (HF.out.trans f2 (fun _ _ e => e))
           clear h2 f2 c0 c1 c2))
      go_roundw
      case rel => exact ⟨2, d2, by omega, rfl, by go_num, Lib.hid (.inr (.inr (.inl ⟨rfl, rfl⟩))), H2, FF2⟩
      case measure => simp [intOf] <;> omega
    · clear HJ
      go_wp2_with (first
        | (go_at_call 88
           (with_reducible refine (c_put2 HD.out k i x m wb A n cb r 0 HC.out Y1.out Y2.out).mono ?_)
           rintro e w2 ⟨rfl, h2, f2⟩
           have H2 := Lib.hid h2
           have FF2 := Lib.hid (HF.out.trans f2 (fun _ _ e => e))
           clear h2 f2 c0 c1 c2))
      go_roundw
      case rel => exact ⟨3, d3, by omega, rfl, by go_num, Lib.hid (.inr (.inr (.inr ⟨rfl, rfl⟩))), H2, FF2⟩
      case measure => simp [intOf] <;> omega
    · clear HJ
      go_wp2_with fail
      go_ret
      exact ⟨rfl, HD.out, HF.out⟩
end
theorem good_ms (k i x : Int) (m : Nat) (wb : Bool) (A : Option Addr) (n cb : Nat) (w : World) : Calls Tryz.prog 85 #[.agg (msV k i x m wb A n cb).toArray] w fun e w' => e = .returned (.bool (decide (Pack.Good k i x m wb n))) ∧ Below w.heap.size w w' := Pack.c_Good k i x m wb A n cb w
/-- a disk that no call made -/
theorem c_Put_nil (k i x : Int) (m : Nat) (wb : Bool) (A : Option Addr) (n cb : Nat) (w : World) (hx : -9223372036854775808 ≤ x ∧ x ≤ 9223372036854775807) (hn : n ≤ 200) :
    Calls Tryz.prog 43 #[.pointer none, .agg (msV k i x m wb A n cb).toArray] w fun e w' => (∃ E : Int, e = .returned (.tuple #[.agg m0, .int .i64 E]) ∧ E ≠ 0) ∧ Below w.heap.size w w' := by
  obtain ⟨W3, hW3, x0, x1, x2, hB, hsz⟩ := Slots.three w (.cells #[.pointer none] 29) (.cells (msV k i x m wb A n cb).toArray 25) (.cells m0 25)
  simp only [m0] at hW3 x2
  obtain ⟨e0, e2, e5⟩ := ms6 x1
  have d0 := Actlog.cell1 x0
  have X0 := Lib.hid x0
  have X1 := Lib.hid x1
  have X2 := Lib.hid x2
  have HB := Lib.hid hB
  have HW := Lib.hid hW3
  clear x0 x1 x2 hB hW3
  by_cases hk : k = 6
  · cases hg : decide (Pack.Good k i x m wb n) with
    | true =>
      have Hg := Lib.hid hg
      have hk2 : (k != 6) = false := by simp [hk]
      clear hg hk
      go_enter Tryz.func43, Tryz.ntmps43
      go_upto_region 1 with (fail)
      rw [← HW.out]
      go_wp2_with (first
        | (refine wpL_load_rdG rfl 25 (.tmp 3) rfl ⟨w.heap.size + 1, 0, none⟩ rfl (msV k i x m wb A n cb) _ ((rd_of_heap (n := 6) X1.out rfl (by simp [maxLen])).cell _ rfl) Tryz.underlying25 rfl (by kernel_rfl) ?_)
        | (go_at_call 85
           (with_reducible refine (good_ms k i x m wb A n cb _).mono ?_)
           rintro e w2 ⟨rfl, hb2⟩
           rw [Hg.out]
           have X0 := Lib.hid ((hb2.block _ (heap_lt X0.out)).trans X0.out)
           have X1 := Lib.hid ((hb2.block _ (heap_lt X1.out)).trans X1.out)
           have X2 := Lib.hid ((hb2.block _ (heap_lt X2.out)).trans X2.out)
           have HB := Lib.hid (HB.out.trans (hb2.mono HB.out.size))
           clear d0 e0 e2 e5
           obtain ⟨e0, e2, e5⟩ := ms6 X1.out
           have d0 := Actlog.cell1 X0.out
           have hsz := Nat.le_trans (Nat.le_of_eq hsz.symm) hb2.size
           skip
           clear hb2)
        | (go_at_call 89
           refine (c_steps_nil (g1 := w.heap.size) (g2 := w.heap.size + 1) (.pointer none) k i x m wb A n cb hx ((Below.heap_alloc _ _ _ (heap_lt X0.out)).trans X0.out) ((Below.heap_alloc _ _ _ (heap_lt X1.out)).trans X1.out) (heap_alloc_new _ _)).mono ?_
           rintro e w3 ⟨rfl, hb3⟩
           have hbs := ((Below.refl _ _).alloc (Nat.le_refl _) _).trans (hb3.mono (by simp))
           have X2 := Lib.hid ((hbs.block _ (heap_lt X2.out)).trans X2.out)
           have HB := Lib.hid (HB.out.trans (hbs.mono HB.out.size))
           clear hb3 hbs e0 e2 e5)
        | (refine wpL_store_all rfl rfl 25 (.tmp 4) (.tmp 28) rfl _ rfl _ rfl _ _ X2.out (by kernel_rfl) rfl (by simp [Value.oneCell']) ?_
           intro w8 x8 g8
           have HX8 := Lib.hid x8
           have HB8 := Lib.hid (HB.out.grown g8 HB.out.size (by rintro k ⟨⟩; omega))
           have G8 := Lib.hid g8
           clear x8 g8 d0)
        )
      refine bodyPost_ret (results_cell2 rfl _ _ (w.heap.size + 1 + 1) _ _ (0, 0) _ rfl HX8.out Tryz.underlying25 rfl (by kernel_rfl) _ rfl) rfl ?_
      exact ⟨⟨1, rfl, by omega⟩, HB8.out⟩
    | false =>
      have Hg := Lib.hid hg
      have hk2 : (k != 6) = false := by simp [hk]
      clear hg hk
      go_enter Tryz.func43, Tryz.ntmps43
      go_upto_region 1 with (fail)
      rw [← HW.out]
      go_wp2_with (first
        | (refine wpL_load_rdG rfl 25 (.tmp 3) rfl ⟨w.heap.size + 1, 0, none⟩ rfl (msV k i x m wb A n cb) _ ((rd_of_heap (n := 6) X1.out rfl (by simp [maxLen])).cell _ rfl) Tryz.underlying25 rfl (by kernel_rfl) ?_)
        | (go_at_call 85
           (with_reducible refine (good_ms k i x m wb A n cb _).mono ?_)
           rintro e w2 ⟨rfl, hb2⟩
           rw [Hg.out]
           have X0 := Lib.hid ((hb2.block _ (heap_lt X0.out)).trans X0.out)
           have X1 := Lib.hid ((hb2.block _ (heap_lt X1.out)).trans X1.out)
           have X2 := Lib.hid ((hb2.block _ (heap_lt X2.out)).trans X2.out)
           have HB := Lib.hid (HB.out.trans (hb2.mono HB.out.size))
           clear d0 e0 e2 e5
           obtain ⟨e0, e2, e5⟩ := ms6 X1.out
           have d0 := Actlog.cell1 X0.out
           have hsz := Nat.le_trans (Nat.le_of_eq hsz.symm) hb2.size
           skip
           clear hb2)
        | (refine wpL_store_all rfl rfl 25 (.tmp 4) (.tmp 17) rfl _ rfl _ rfl _ _ X2.out (by kernel_rfl) rfl (by simp [Value.oneCell']) ?_
           intro w8 x8 g8
           have HX8 := Lib.hid x8
           have HB8 := Lib.hid (HB.out.grown g8 HB.out.size (by rintro k ⟨⟩; omega))
           have G8 := Lib.hid g8
           clear x8 g8 d0)
        )
      refine bodyPost_ret (results_cell2 rfl _ _ (w.heap.size + 1 + 1) _ _ (0, 0) _ rfl HX8.out Tryz.underlying25 rfl (by kernel_rfl) _ rfl) rfl ?_
      exact ⟨⟨2, rfl, by omega⟩, HB8.out⟩
  · have hk2 : (k != 6) = true := by simp [hk]
    clear hk
    go_enter Tryz.func43, Tryz.ntmps43
    go_upto_region 1 with (fail)
    rw [← HW.out]
    go_wp2_with (first
      | (refine wpL_store_all rfl rfl 25 (.tmp 4) (.tmp 17) rfl _ rfl _ rfl _ _ X2.out (by kernel_rfl) rfl (by simp [Value.oneCell']) ?_
         intro w8 x8 g8
         have HX8 := Lib.hid x8
         have HB8 := Lib.hid (HB.out.grown g8 HB.out.size (by rintro k ⟨⟩; omega))
         have G8 := Lib.hid g8
         clear x8 g8 d0)
      )
    refine bodyPost_ret (results_cell2 rfl _ _ (w.heap.size + 1 + 1) _ _ (0, 0) _ rfl HX8.out Tryz.underlying25 rfl (by kernel_rfl) _ rfl) rfl ?_
    exact ⟨⟨2, rfl, by omega⟩, HB8.out⟩
section
variable {w : World} {p g mb c : Nat} {d d1 d2 d3 : Dsk}
theorem c_Put_ok (h : Dk w p g mb c d) (ho : d.ops + 1024 < 1000000000) (i x : Int) (m : Nat) (wb : Bool) (A : Option Addr) (n cb : Nat) (b : List UInt8) (hx : -9223372036854775808 ≤ x ∧ x ≤ 9223372036854775807) (hb : Byt w A n cb b) (hA : ∀ ad, A = some ad → 0 < n → ad.block ≠ p ∧ ad.block ≠ mb)
    (hg : Pack.Good 6 i x m wb n) (hs1 : dWrite d (whole x).1 (whole x).2 b = (d1, 0)) (ho1 : d1.ops < 1000000000) (hs2 : d1.flush = (d2, 0)) (r : Int)
    (hcl : ∀ W, Dk W p g mb c d2 → Calls Tryz.prog 25 #[.pointer (some ⟨p, 0, none⟩), .int .i64 x] W fun e' w' => e' = .returned (.tuple #[.int .u64 r, .int .i64 0]) ∧ Dk w' p g mb c d3 ∧ Fr (fun k => k = p ∨ k = g ∨ k = mb) W w') :
    Calls Tryz.prog 43 #[.pointer (some ⟨p, 0, none⟩), .agg (msV 6 i x m wb A n cb).toArray] w fun e w' => e = .returned (.tuple #[.agg (msV 7 0 x 0 false none 0 0).toArray, .int .i64 0]) ∧ Dk w' p g mb c d3 ∧ Fr (fun k => k = p ∨ k = g ∨ k = mb) w w' := by
  obtain ⟨k, hk⟩ : ∃ k : Int, k = 6 := ⟨_, rfl⟩
  rw [← hk] at hg ⊢
  have hlt := h.lts
  obtain ⟨W3, hW3, x0, x1, x2, hB, hsz⟩ := Slots.three w (.cells #[.pointer (some ⟨p, 0, none⟩)] 29) (.cells (msV k i x m wb A n cb).toArray 25) (.cells m0 25)
  simp only [m0] at hW3 x2
  obtain ⟨e0, e2, e5⟩ := ms6 x1
  have d0 := Actlog.cell1 x0
  have X0 := Lib.hid x0
  have X1 := Lib.hid x1
  have X2 := Lib.hid x2
  have HB := Lib.hid hB
  have HW := Lib.hid hW3
  clear x0 x1 x2 hB hW3
  have Hg := Lib.hid (decide_eq_true hg)
  have hk2 : (k != 6) = false := by simp [hk]
  have H := Lib.hid (h.bel (HB.out.mono (by omega)))
  have Hb := Lib.hid (hb.bel (HB.out.mono (by omega)))
  have HA := Lib.hid hA
  have S1 := Lib.hid hs1
  have S2 := Lib.hid hs2
  have HC := Lib.hid hcl
  have HF := Lib.hid (Fr.of_bel (S := fun k => k = p ∨ k = g ∨ k = mb) HB.out)
  clear hg hk h hb hA hs1 hs2 hcl
  go_enter Tryz.func43, Tryz.ntmps43
  go_upto_region 1 with (fail)
  rw [← HW.out]
  go_wp2_with (first
    | (refine wpL_load_rdG rfl 25 (.tmp 3) rfl ⟨w.heap.size + 1, 0, none⟩ rfl (msV k i x m wb A n cb) _ ((rd_of_heap (n := 6) X1.out rfl (by simp [maxLen])).cell _ rfl) Tryz.underlying25 rfl (by kernel_rfl) ?_)
    | (go_at_call 85
       (with_reducible refine (good_ms k i x m wb A n cb _).mono ?_)
       rintro e w2 ⟨rfl, hb2⟩
       rw [Hg.out]
       have X0 := Lib.hid ((hb2.block _ (heap_lt X0.out)).trans X0.out)
       have X1 := Lib.hid ((hb2.block _ (heap_lt X1.out)).trans X1.out)
       have X2 := Lib.hid ((hb2.block _ (heap_lt X2.out)).trans X2.out)
       have HB := Lib.hid (HB.out.trans (hb2.mono HB.out.size))
       clear d0 e0 e2 e5
       obtain ⟨e0, e2, e5⟩ := ms6 X1.out
       have d0 := Actlog.cell1 X0.out
       have hsz := Nat.le_trans (Nat.le_of_eq hsz.symm) hb2.size
       have H := Lib.hid (H.out.bel hb2); have Hb := Lib.hid (Hb.out.bel hb2)
       clear hb2)
    | (go_at_call 89
       refine (c_steps_ok (g1 := w.heap.size) (g2 := w.heap.size + 1) (H.out.bel ((Below.refl _ _).alloc (Nat.le_refl _) _)) ho k i x m wb A n cb b hx (Hb.out.bel ((Below.refl _ _).alloc (Nat.le_refl _) _)) HA.out S1.out ho1 S2.out r HC.out ((Below.heap_alloc _ _ _ (heap_lt X0.out)).trans X0.out) ((Below.heap_alloc _ _ _ (heap_lt X1.out)).trans X1.out) (heap_alloc_new _ _) (by intro z hz; omega)).mono ?_
       rintro e w3 ⟨rfl, h3, f3⟩
       have fbs := (Fr.of_bel (S := fun k => k = p ∨ k = g ∨ k = mb) ((Below.refl _ _).alloc (Nat.le_refl _) _)).trans f3 (fun _ _ e => e)
       have hx1 := heap_fr X1.out fbs (by omega)
       have X2 := Lib.hid (heap_fr X2.out fbs (by omega))
       have HF3 := Lib.hid ((Fr.of_bel (S := fun k => k = p ∨ k = g ∨ k = mb) HB.out).trans fbs (fun _ _ e => e))
       have H3 := Lib.hid h3
       clear d0 e0 e2 e5
       obtain ⟨e0, e2, e5⟩ := ms6 hx1
       clear h3 f3 fbs hx1)
    | (refine wpL_store_all rfl rfl 25 (.tmp 4) (.tmp 32) rfl _ rfl _ rfl _ _ X2.out (by kernel_rfl) rfl (by simp [Value.oneCell']) ?_
       intro w8 x8 g8
       have HX8 := Lib.hid x8
       have f8 := Fr.grown (S := fun k => k = w.heap.size + 1 + 1) g8 (by rintro k ⟨⟩; rfl)
       have H8 := Lib.hid (H3.out.fr f8 (by omega) (by omega) (by omega))
       have HF8 := Lib.hid (HF3.out.trans f8 (fun z hz e => by omega))
       clear x8 g8 f8 e0 e2 e5))
  refine bodyPost_ret (results_cell2 rfl _ _ (w.heap.size + 1 + 1) _ _ (0, 0) _ rfl HX8.out Tryz.underlying25 rfl (by kernel_rfl) _ rfl) rfl ?_
  exact ⟨rfl, H8.out, HF8.out⟩
end
end Go.Proofs.YtaldlapnhhhclaaGreat.Copying
/- What a crash leaves of an extent that is put, plainly. Conditions: none. -/
namespace Go.Proofs.YtaldlapnhhhclaaGreat.Slots
open Tw Disk Seal Dsk Go.Proofs.YtaldlapnhhhclaaGreat.Data

theorem write_step {d : Dsk} {P : Int} (hb : d.broken = false) (hP : d.has P) (s : Sec) :
    (d.fuse = 0 ∧ d.write P s = ({ d with broken := true }, 3)) ∨ (d.fuse ≠ 0 ∧ d.write P s = ({ d.put P s with fuse := if 0 < d.fuse then d.fuse - 1 else d.fuse, ops := d.ops + 1 }, 0)) := by
  obtain ⟨cells, fuse, broken, ops⟩ := d
  simp only at hb
  subst hb
  unfold Dsk.write
  rw [if_pos hP]
  by_cases h0 : fuse = 0
  · subst h0
    exact .inl ⟨rfl, by simp [Dsk.spend, Dsk.burn]⟩
  · exact .inr ⟨h0, by simp [Dsk.spend, Dsk.burn, Dsk.put, Dsk.cell, h0]⟩
theorem flush_step {d : Dsk} (hb : d.broken = false) :
    (d.fuse = 0 ∧ d.flush = ({ d with broken := true }, 3)) ∨ (d.fuse ≠ 0 ∧ d.flush = ({ d.allSafe with fuse := if 0 < d.fuse then d.fuse - 1 else d.fuse, ops := d.ops + 1 }, 0)) := by
  obtain ⟨cells, fuse, broken, ops⟩ := d
  simp only at hb
  subst hb
  unfold Dsk.flush
  by_cases h0 : fuse = 0
  · subst h0
    exact .inl ⟨rfl, by simp [Dsk.spend, Dsk.burn]⟩
  · exact .inr ⟨h0, by simp [Dsk.spend, Dsk.burn, Dsk.allSafe, h0]⟩
theorem Clean.at {d : Dsk} (h : Clean d) {i : Nat} {c : Cl} (hc : d.cells[i]? = some c) : c.2 = Option.none := h.none c (List.mem_of_getElem? hc)
/-- a crash keeps what is off the sectors that were written -/
theorem Off.crash {d d' : Dsk} {b s : Int} (hc : Clean d) (h : Off d d' b s) (mask : Nat) : Off d (d'.crash mask) b s := by
  refine ⟨(crash_len d' mask).trans h.len, fun i hi => ?_⟩
  have ho := h.off i hi
  show (keep mask 0 d'.cells)[i]? = _
  cases hci : d.cells[i]? with
  | none =>
    have hl := h.len
    rw [List.getElem?_eq_none_iff] at hci ⊢
    rw [keep_len]
    omega
  | some c =>
    have h1 := hc.at hci
    obtain ⟨c1, c2⟩ := c
    simp only at h1
    subst h1
    exact keep_get mask _ 0 i c1 (ho.trans hci)
theorem Off.safe {d d' : Dsk} {b s : Int} (hc : Clean d) (h : Off d d' b s) : Off d d'.allSafe b s := by
  refine ⟨by simp [Dsk.allSafe, h.len], fun i hi => ?_⟩
  have ho := h.off i hi
  show (d'.cells.map fun c => ((Disk.view c, none) : Cl))[i]? = _
  rw [safe_cells fun c h1 => hc.at (ho.symm.trans h1)]
  exact ho
theorem Off.crash' {d d' : Dsk} {b s : Int} (h : Off d d' b s) (hc' : Clean d') (mask : Nat) : Off d (d'.crash mask) b s :=
  ⟨(crash_len d' mask).trans h.len, fun i hi => by rw [hc'.crash_cells]; exact h.off i hi⟩
structure Wrote (d d' : Dsk) (o k : Nat) (b : List UInt8) : Prop where
  up : d'.broken = false
  off : Off d d' (8 + (o : Int)) (k : Int)
  new : ∀ i : Nat, i < k → ∃ c1, d'.cells[8 + o + i]? = some (c1, some (secAt b i))
  fuse1 : d.fuse < 0 → d'.fuse = d.fuse
  fuse2 : 0 ≤ d.fuse → d'.fuse = d.fuse - k ∧ (k : Int) ≤ d.fuse
theorem off_wider {d d' : Dsk} {b s s' : Int} (h : Off d d' b s) (hs : s ≤ s') : Off d d' b s' := ⟨h.len, fun i hi => h.off i (by omega)⟩
theorem wseq_safe {o : Nat} {b : List UInt8} {d : Dsk} (hc : Clean d) (hf : -1 ≤ d.fuse) : ∀ k : Nat, 8 + o + k ≤ d.cells.length →
    ((wseq o b d (List.range k)).2 = 0 ∧ Wrote d (wseq o b d (List.range k)).1 o k b) ∨ ((wseq o b d (List.range k)).2 = 3 ∧ Off d (wseq o b d (List.range k)).1 (8 + (o : Int)) (k : Int) ∧ 0 ≤ d.fuse ∧ d.fuse < (k : Int))
  | 0, _ => .inl ⟨rfl, hc.up, Off.refl _ _ _, fun i hi => absurd hi (by omega), fun _ => rfl, fun h => ⟨by show d.fuse = _; omega, by omega⟩⟩
  | k + 1, hl => by
    rw [List.range_succ]
    rcases wseq_safe (o := o) (b := b) hc hf k (by omega) with ⟨he, h⟩ | ⟨he, h1, h2, h3⟩
    · obtain ⟨⟨d1, e1⟩, hw⟩ : ∃ r, wseq o b d (List.range k) = r := ⟨_, rfl⟩
      rw [wseq_snoc k he, hw]
      rw [hw] at he h
      simp only at he h ⊢
      have hP : d1.has (8 + (o : Int) + (k : Int)) := (has_iff _ _).2 (by have := h.off.len; omega)
      have hPn : (8 + (o : Int) + (k : Int)).toNat = 8 + o + k := by omega
      rcases write_step h.up hP (secAt b k) with ⟨f0, hs⟩ | ⟨f1, hs⟩
      · rw [hs]
        refine .inr ⟨rfl, off_wider ⟨h.off.len, h.off.off⟩ (by omega), ?_⟩
        by_cases h0 : d.fuse < 0
        · have := h.fuse1 h0; omega
        · have := h.fuse2 (by omega); omega
      · rw [hs]
        have hlk : 8 + o + k < d1.cells.length := by have := h.off.len; omega
        have hcs : ({ d1.put (8 + (o : Int) + (k : Int)) (secAt b k) with fuse := if 0 < d1.fuse then d1.fuse - 1 else d1.fuse, ops := d1.ops + 1 } : Dsk).cells = d1.cells.set (8 + o + k) ((d1.cell (8 + (o : Int) + (k : Int))).1, some (secAt b k)) := by
          show d1.cells.set (8 + (o : Int) + (k : Int)).toNat _ = _
          rw [hPn]
        refine .inl ⟨rfl, h.up, ⟨by rw [hcs, List.length_set]; exact h.off.len, fun i hi => ?_⟩, fun i hi => ?_, fun h0 => ?_, fun h0 => ?_⟩
        · rw [hcs, List.getElem?_set_ne (by omega)]
          exact h.off.off i (by omega)
        · rw [hcs]
          by_cases hik : i = k
          · subst hik
            exact ⟨_, List.getElem?_set_self hlk⟩
          · obtain ⟨c1, h1⟩ := h.new i (by omega)
            exact ⟨c1, by rw [List.getElem?_set_ne (by omega)]; exact h1⟩
        · have := h.fuse1 h0
          show (if 0 < d1.fuse then d1.fuse - 1 else d1.fuse) = _
          rw [if_neg (by omega)]
          omega
        · have := h.fuse2 h0
          show (if 0 < d1.fuse then d1.fuse - 1 else d1.fuse) = _ ∧ _
          rw [if_pos (by omega)]
          omega
    · rw [wseq_fail (by omega)]
      exact .inr ⟨he, off_wider h1 (by omega), h2, by omega⟩
/-- an extent that is put: written, flushed, and then no more out of sync -/
def cput (d : Dsk) (x : Int) (b : List UInt8) : Dsk × Nat :=
  if (dWrite d (whole x).1 (whole x).2 b).2 = 0 then
    if (dWrite d (whole x).1 (whole x).2 b).1.flush.2 = 0 then ((dclear (dWrite d (whole x).1 (whole x).2 b).1.flush.1 x).1, (dclear (dWrite d (whole x).1 (whole x).2 b).1.flush.1 x).2.2)
    else (dWrite d (whole x).1 (whole x).2 b).1.flush
  else dWrite d (whole x).1 (whole x).2 b
theorem Off.st {d d' : Dsk} {N c B H D : Nat} {b s : Int} (h : St d N c B H D) (ho : Off d d' b s) (hb : 8 ≤ b) (hc : Clean d') (hf : -1 ≤ d'.fuse) : St d' N c B H D := by
  obtain ⟨n2, k2, l2⟩ := h.hot
  obtain ⟨n3, k3, l3⟩ := h.dirty
  exact ⟨hc, ho.len.trans h.len, h.n8, hf, by rw [ho.boot h.clean.up hc.up (by omega)]; exact h.boot, ⟨n2, k2, by rw [ho.latest h.clean.up hc.up (.inl (by omega))]; exact l2⟩, ⟨n3, k3, by rw [ho.latest h.clean.up hc.up (.inl (by omega))]; exact l3⟩⟩
/-- the sectors of the area, as they are seen -/
def has_ext (d : Dsk) (o k : Nat) (b : List UInt8) : Prop := ∀ i : Nat, i < k → Data.viewAt d (8 + o + i) = secAt b i
theorem Off.ext {d d' : Dsk} {s t : Int} {o k : Nat} {b : List UInt8} (h : Off d d' s t) (hs : s + t ≤ 8) (he : has_ext d o k b) : has_ext d' o k b := fun i hi => by
  have h1 := h.off (8 + o + i) (by omega)
  rw [← he i hi]
  unfold Data.viewAt
  rw [List.getD_eq_getElem?_getD, List.getD_eq_getElem?_getD, h1]
theorem crash_ext {d : Dsk} (hc : Clean d) {o k : Nat} {b : List UInt8} (he : has_ext d o k b) (mask : Nat) : has_ext (d.crash mask) o k b := fun i hi => by
  rw [← he i hi]
  unfold Data.viewAt
  rw [hc.crash_cells]
theorem dput_off {d d' : Dsk} {N c B H D m e : Nat} (h : St d N c B H D) (hc : c < 4294967290) (hm : m < 18446744073709551616) (hs : dput d m = (d', e)) : (e = 0 → Off d d' 6 2) ∧ ∀ mask, Off d (d'.crash mask) 6 2 := by
  obtain ⟨n3, k3, l3⟩ := h.dirty
  rcases rput_safe h.clean h.fuse (on62 h.len h.n8) l3 (by omega) hm hs with ⟨rfl, k⟩ | ⟨rfl, k⟩
  · exact ⟨fun _ => k.off, fun mask => k.off.crash' k.clean mask⟩
  · exact ⟨fun e => (by cases e), k.off⟩
theorem dclear_off {d d' : Dsk} {N c B H D r e : Nat} (h : St d N c B H D) (hc : c < 4294967290) (x : Int) (hs : dclear d x = (d', r, e)) (mask : Nat) : Off d (d'.crash mask) 6 2 := by
  obtain ⟨n3, k3, l3⟩ := h.dirty
  have hD := (latest_lt d 6 2).2
  unfold dclear at hs
  rw [l3] at hs hD
  simp only at hs hD
  obtain ⟨⟨d1, e1⟩, h1⟩ : ∃ r, Slots.dput d (Bt.without D x) = r := ⟨_, rfl⟩
  rw [h1] at hs
  have h2 := (dput_off h hc (Bt.without_lt hD x) h1).2 mask
  by_cases h0 : e1 = 0
  · subst h0
    simp only [if_pos] at hs
    obtain ⟨rfl, hs⟩ := Prod.mk.inj hs
    exact h2
  · simp only at hs
    rw [if_neg h0] at hs
    obtain ⟨rfl, hs⟩ := Prod.mk.inj hs
    exact h2
/-- a crash within: the extent is out of sync, unless it is as it was told -/
theorem cput_safe {d d' : Dsk} {N c B H D g x : Nat} {b : List UInt8} (h : St d N c B H D) (hc : c < 4294967280) (hf : 0 ≤ d.fuse) (hx : x ≤ 63) (hN : 8 + 4 * x + 4 ≤ N) (hb : b.length = 64) (hs : cput d (x : Int) b = (d', g)) (mask : Nat) :
    ∃ D', St (d'.crash mask) N (c + 1) B H D' ∧ (has_ext (d'.crash mask) (4 * x) 4 b ∨ D' = D) ∧ (g = 0 → has_ext (d'.crash mask) (4 * x) 4 b ∧ D' = Bt.without D x) ∧ (7 ≤ d.fuse → g = 0) := by
  have hw : whole (x : Int) = (((4 * x : Nat) : Int), ((4 : Nat) : Int)) := by
    unfold whole
    rw [if_pos (by omega)]
    exact Prod.ext (by simp only; omega) rfl
  have hlen := h.len
  have hdw : dWrite d (whole (x : Int)).1 (whole (x : Int)).2 b = wseq (4 * x) b d (List.range 4) := by
    rw [hw]
    unfold dWrite
    rw [if_pos ?_, if_pos (by simp only; omega)]
    · simp only [Int.toNat_natCast]
    · unfold Span.Good secs
      simp only
      omega
  unfold cput at hs
  rw [hdw] at hs
  obtain ⟨⟨d1, e1⟩, h1⟩ : ∃ r, wseq (4 * x) b d (List.range 4) = r := ⟨_, rfl⟩
  have hk := wseq_safe (o := 4 * x) (b := b) h.clean h.fuse 4 (by omega)
  rw [h1] at hs hk
  simp only at hs hk
  rcases hk with ⟨rfl, k⟩ | ⟨rfl, k1, k2, k3⟩
  · rw [if_pos rfl] at hs
    have hf2 := k.fuse2 hf
    rcases flush_step k.up with ⟨f0, hfl⟩ | ⟨f1, hfl⟩
    · rw [hfl] at hs
      simp only at hs
      rw [if_neg (by omega)] at hs
      obtain ⟨rfl, rfl⟩ := Prod.mk.inj hs
      have ho := Off.crash h.clean (d' := { d1 with broken := true }) ⟨k.off.len, k.off.off⟩ mask
      exact ⟨D, (ho.st h (by omega) (clean_crash _ mask) (by simp [Dsk.crash])).mono (by omega), .inr rfl, fun e => (by cases e), fun h7 => by omega⟩
    · rw [hfl] at hs
      simp only [if_pos] at hs
      have ho := k.off.safe h.clean
      obtain ⟨d2, hd2⟩ : ∃ d2, d2 = ({ d1.allSafe with fuse := if 0 < d1.fuse then d1.fuse - 1 else d1.fuse, ops := d1.ops + 1 } : Dsk) := ⟨_, rfl⟩
      rw [← hd2] at hs
      have ho2 : Off d d2 (8 + ((4 * x : Nat) : Int)) ((4 : Nat) : Int) := by rw [hd2]; exact ⟨ho.len, ho.off⟩
      have hc2 : Clean d2 := by
        rw [hd2]
        refine ⟨fun cc hcc => ?_, k.up⟩
        obtain ⟨c', _, rfl⟩ := List.mem_map.1 hcc
        rfl
      have hfu : d2.fuse = d.fuse - 5 := by
        rw [hd2]
        show (if 0 < d1.fuse then d1.fuse - 1 else d1.fuse) = _
        rw [if_pos (by omega)]
        omega
      have hst := ho2.st h (by omega) hc2 (by rw [hfu]; omega)
      have hext : has_ext d2 (4 * x) 4 b := fun i hi => by
        obtain ⟨c1, hc1⟩ := k.new i hi
        have h3 : d2.cells[8 + 4 * x + i]? = some (secAt b i, none) := by
          rw [hd2]
          show (d1.cells.map fun c => ((view c, none) : Cl))[8 + 4 * x + i]? = _
          rw [List.getElem?_map, hc1]
          rfl
        unfold Data.viewAt
        rw [List.getD_eq_getElem?_getD, h3]
        rfl
      obtain ⟨⟨d3, r3, e3⟩, h3⟩ : ∃ r, dclear d2 (x : Int) = r := ⟨_, rfl⟩
      have hoff := dclear_off hst (by omega) (x : Int) h3 mask
      have hex := hoff.ext (by omega) hext
      rw [h3] at hs
      obtain ⟨rfl, rfl⟩ := Prod.mk.inj hs
      rcases hst.clear (by omega) (x : Int) h3 with ⟨rfl, _, s3, _, _⟩ | ⟨rfl, _, f3, s3⟩
      · exact ⟨_, s3.crash mask, .inl hex, fun _ => ⟨hex, rfl⟩, fun _ => rfl⟩
      · obtain ⟨D', hD, s4⟩ := s3 mask
        exact ⟨D', s4, .inl hex, fun e => (by cases e), fun h7 => by omega⟩
  · rw [if_neg (by omega)] at hs
    obtain ⟨rfl, rfl⟩ := Prod.mk.inj hs
    have ho := k1.crash h.clean mask
    exact ⟨D, (ho.st h (by omega) (clean_crash _ mask) (by simp [Dsk.crash])).mono (by omega), .inr rfl, fun e => (by cases e), fun h7 => by omega⟩
end Go.Proofs.YtaldlapnhhhclaaGreat.Slots
/- Exact contracts of the package copying on a disk: Put, Give, Told. Conditions: at most 10^9 operations. -/
namespace Go.Proofs.YtaldlapnhhhclaaGreat.Copying
open Go.RowKit Tw Disk Slots Go.Proofs.YtaldlapnhhhclaaGreat.Data
set_option maxHeartbeats 8000000
set_option maxRecDepth 100000
section
variable {w : World} {p g mb c : Nat} {d d1 d2 d3 : Dsk}
theorem c_stepsX {Bf g1 g2 : Nat} {t1 t2 t3 : TypeId} (h : Dk w p g mb c d) (ho : d.ops + 1024 < 1000000000) (k i x : Int) (m : Nat) (wb : Bool) (A : Option Addr) (n cb : Nat) (b : List UInt8) (hx : -9223372036854775808 ≤ x ∧ x ≤ 9223372036854775807) (hb : Byt w A n cb b) (hA : ∀ ad, A = some ad → 0 < n → ad.block ≠ p ∧ ad.block ≠ mb) (E1 E2 E3 r : Nat)
    (hs1 : dWrite d (whole x).1 (whole x).2 b = (d1, E1)) (ho1 : d1.ops < 1000000000) (hs2 : d1.flush = (d2, E2)) (ho2 : d2.ops + 1 < 1000000000) (hs3 : dclear d2 x = (d3, r, E3))
    (h1 : w.heap[g1]? = some (.cells #[.pointer (some ⟨p, 0, none⟩)] t1 (0, 0))) (h2 : w.heap[g2]? = some (.cells (msV k i x m wb A n cb).toArray t2 (0, 0))) (h3 : w.heap[Bf]? = some (.cells #[F1 g1 g2, F2 (.pointer (some ⟨p, 0, none⟩)), F3 g1 g2] t3 (0, 0)))
    (hg : ∀ z, z = g1 ∨ z = g2 ∨ z = Bf → z ≠ p ∧ z ≠ g ∧ z ≠ mb) :
    Calls Tryz.prog 89 #[.slice (some ⟨Bf, 0, none⟩) 3 3] w fun e w' => e = .returned (.int .i64 ((if E1 = 0 then if E2 = 0 then E3 else E2 else E1 : Nat) : Int)) ∧ Dk w' p g mb c (if E1 = 0 then if E2 = 0 then d3 else d2 else d1) ∧ Fr (fun k => k = p ∨ k = g ∨ k = mb) w w' := by
  have hcl : ∀ W, Dk W p g mb c d2 → Calls Tryz.prog 25 #[.pointer (some ⟨p, 0, none⟩), .int .i64 x] W fun e' w' => e' = .returned (.tuple #[.int .u64 (r : Int), .int .i64 (E3 : Int)]) ∧ Dk w' p g mb c d3 ∧ Fr (fun k => k = p ∨ k = g ∨ k = mb) W w' := fun W hW => by
    have := Dirty.c_ClearE hW ho2 x
    rw [hs3] at this
    exact this
  have X1 := Lib.hid h1
  have X2 := Lib.hid h2
  have X3 := Lib.hid h3
  have G1 := Lib.hid (hg g1 (.inl rfl))
  have G2 := Lib.hid (hg g2 (.inr (.inl rfl)))
  have G3 := Lib.hid (hg Bf (.inr (.inr rfl)))
  have H := Lib.hid h
  have Hb := Lib.hid hb
  have HA := Lib.hid hA
  have S1 := Lib.hid hs1
  have S2 := Lib.hid hs2
  have HC := Lib.hid hcl
  have Ho1 := Lib.hid ho1
  clear h1 h2 h3 hg h hb hA hs1 hs2 hcl ho1 hs3 ho2
  go_enter Tryz.func89, Tryz.ntmps89
  go_wp2_with fail
  go_loopw [2, 7] (fun u v wr => ∃ (j : Nat) (D : Dsk), j ≤ 3 ∧ u = .int .i64 0 ∧ v = .int .i64 (j : Int) ∧ Hid ((j = 0 ∧ D = d ∧ wr = w) ∨ (j = 1 ∧ D = d1 ∧ E1 = 0) ∨ (j = 2 ∧ D = d2 ∧ E1 = 0 ∧ E2 = 0) ∨ (j = 3 ∧ D = d3 ∧ E1 = 0 ∧ E2 = 0 ∧ E3 = 0)) ∧ Hid (Dk wr p g mb c D) ∧ Hid (Fr (fun k => k = p ∨ k = g ∨ k = mb) w wr)) (fun _ v _ => 3 - (intOf v).toNat)
  case atStart => exact ⟨0, d, by omega, rfl, rfl, Lib.hid (.inl ⟨rfl, rfl, rfl⟩), H, Lib.hid (Fr.refl _ _)⟩
  case round =>
    obtain ⟨j, D, hj, rfl, rfl, HJ, HD, HF⟩ := hrel
    have x1 := heap_fr X1.out HF.out (by have := G1.out; omega)
    have x2 := heap_fr X2.out HF.out (by have := G2.out; omega)
    obtain ⟨c0, c1, c2⟩ := fcells (heap_fr X3.out HF.out (by have := G3.out; omega))
    have Y1 := Lib.hid x1
    have Y2 := Lib.hid x2
    simp only [F1, F2, F3] at c0 c1 c2
    clear x1 x2
    rcases HJ.out with ⟨rfl, rfl, rfl⟩ | ⟨rfl, rfl, hz1⟩ | ⟨rfl, rfl, hz1, hz2⟩ | ⟨rfl, rfl, hz1, hz2, hz3⟩
    · clear HJ
      by_cases hz : E1 = 0
      · subst hz
        go_wp2_with (first
        | (go_at_call 86
           (with_reducible refine (c_put1 HD.out ho k i x m wb A n cb b hx Hb.out HA.out Y1.out Y2.out).mono ?_)
           rw [S1.out]
           rintro e w2 ⟨rfl, h2, f2⟩
           have H2 := Lib.hid h2
           have FF2 := Lib.hid (HF.out.trans (f2.mono (S1 := fun k => k = p ∨ k = g ∨ k = mb) (fun k _ e => e.elim .inl (fun e => .inr (.inr e)))) (fun _ _ e => e))
           clear h2 f2 c0 c1 c2)
        | (go_at_call 71
           (with_reducible refine (c_Flush HD.out Ho1.out).mono ?_)
           rw [S2.out]
           rintro e w2 ⟨rfl, h2, f2⟩
           have H2 := Lib.hid h2
           have FF2 := Lib.hid (HF.out.trans f2 (fun _ _ e => e))
           clear h2 f2 c0 c1 c2)
        | (go_at_call 88
           (with_reducible refine (c_put2 HD.out k i x m wb A n cb r _ HC.out Y1.out Y2.out).mono ?_)
           rintro e w2 ⟨rfl, h2, f2⟩
           have H2 := Lib.hid h2
           have FF2 := Lib.hid (HF.out.trans f2 (fun _ _ e => e))
           clear h2 f2 c0 c1 c2)
        )
        go_roundw
        case rel => exact ⟨1, d1, by omega, rfl, by go_num, Lib.hid (.inr (.inl ⟨by trivial, by trivial, by trivial⟩)), H2, FF2⟩
        case measure => simp [intOf] <;> omega
      · have hne : ((E1 : Int) != 0) = true := by simp; omega
        go_wp2_with (first
        | (go_at_call 86
           (with_reducible refine (c_put1 HD.out ho k i x m wb A n cb b hx Hb.out HA.out Y1.out Y2.out).mono ?_)
           rw [S1.out]
           rintro e w2 ⟨rfl, h2, f2⟩
           have H2 := Lib.hid h2
           have FF2 := Lib.hid (HF.out.trans (f2.mono (S1 := fun k => k = p ∨ k = g ∨ k = mb) (fun k _ e => e.elim .inl (fun e => .inr (.inr e)))) (fun _ _ e => e))
           clear h2 f2 c0 c1 c2)
        | (go_at_call 71
           (with_reducible refine (c_Flush HD.out Ho1.out).mono ?_)
           rw [S2.out]
           rintro e w2 ⟨rfl, h2, f2⟩
           have H2 := Lib.hid h2
           have FF2 := Lib.hid (HF.out.trans f2 (fun _ _ e => e))
           clear h2 f2 c0 c1 c2)
        | (go_at_call 88
           (with_reducible refine (c_put2 HD.out k i x m wb A n cb r _ HC.out Y1.out Y2.out).mono ?_)
           rintro e w2 ⟨rfl, h2, f2⟩
           have H2 := Lib.hid h2
           have FF2 := Lib.hid (HF.out.trans f2 (fun _ _ e => e))
           clear h2 f2 c0 c1 c2)
        )
        go_ret
        simp only [if_neg hz, if_true, if_pos]
        exact ⟨rfl, H2.out, FF2.out⟩
    · clear HJ
      subst hz1
      by_cases hz : E2 = 0
      · subst hz
        go_wp2_with (first
        | (go_at_call 86
           (with_reducible refine (c_put1 HD.out ho k i x m wb A n cb b hx Hb.out HA.out Y1.out Y2.out).mono ?_)
           rw [S1.out]
           rintro e w2 ⟨rfl, h2, f2⟩
           have H2 := Lib.hid h2
           have FF2 := Lib.hid (HF.out.trans (f2.mono (S1 := fun k => k = p ∨ k = g ∨ k = mb) (fun k _ e => e.elim .inl (fun e => .inr (.inr e)))) (fun _ _ e => e))
           clear h2 f2 c0 c1 c2)
        | (go_at_call 71
           (with_reducible refine (c_Flush HD.out Ho1.out).mono ?_)
           rw [S2.out]
           rintro e w2 ⟨rfl, h2, f2⟩
           have H2 := Lib.hid h2
           have FF2 := Lib.hid (HF.out.trans f2 (fun _ _ e => e))
           clear h2 f2 c0 c1 c2)
        | (go_at_call 88
           (with_reducible refine (c_put2 HD.out k i x m wb A n cb r _ HC.out Y1.out Y2.out).mono ?_)
           rintro e w2 ⟨rfl, h2, f2⟩
           have H2 := Lib.hid h2
           have FF2 := Lib.hid (HF.out.trans f2 (fun _ _ e => e))
           clear h2 f2 c0 c1 c2)
        )
        go_roundw
        case rel => exact ⟨2, d2, by omega, rfl, by go_num, Lib.hid (.inr (.inr (.inl ⟨by trivial, by trivial, by trivial, by trivial⟩))), H2, FF2⟩
        case measure => simp [intOf] <;> omega
      · have hne : ((E2 : Int) != 0) = true := by simp; omega
        go_wp2_with (first
        | (go_at_call 86
           (with_reducible refine (c_put1 HD.out ho k i x m wb A n cb b hx Hb.out HA.out Y1.out Y2.out).mono ?_)
           rw [S1.out]
           rintro e w2 ⟨rfl, h2, f2⟩
           have H2 := Lib.hid h2
           have FF2 := Lib.hid (HF.out.trans (f2.mono (S1 := fun k => k = p ∨ k = g ∨ k = mb) (fun k _ e => e.elim .inl (fun e => .inr (.inr e)))) (fun _ _ e => e))
           clear h2 f2 c0 c1 c2)
        | (go_at_call 71
           (with_reducible refine (c_Flush HD.out Ho1.out).mono ?_)
           rw [S2.out]
           rintro e w2 ⟨rfl, h2, f2⟩
           have H2 := Lib.hid h2
           have FF2 := Lib.hid (HF.out.trans f2 (fun _ _ e => e))
           clear h2 f2 c0 c1 c2)
        | (go_at_call 88
           (with_reducible refine (c_put2 HD.out k i x m wb A n cb r _ HC.out Y1.out Y2.out).mono ?_)
           rintro e w2 ⟨rfl, h2, f2⟩
           have H2 := Lib.hid h2
           have FF2 := Lib.hid (HF.out.trans f2 (fun _ _ e => e))
           clear h2 f2 c0 c1 c2)
        )
        go_ret
        simp only [if_neg hz, if_true, if_pos]
        exact ⟨rfl, H2.out, FF2.out⟩
    · clear HJ
      subst hz1 hz2
      by_cases hz : E3 = 0
      · subst hz
        go_wp2_with (first
        | (go_at_call 86
           (with_reducible refine (c_put1 HD.out ho k i x m wb A n cb b hx Hb.out HA.out Y1.out Y2.out).mono ?_)
           rw [S1.out]
           rintro e w2 ⟨rfl, h2, f2⟩
           have H2 := Lib.hid h2
           have FF2 := Lib.hid (HF.out.trans (f2.mono (S1 := fun k => k = p ∨ k = g ∨ k = mb) (fun k _ e => e.elim .inl (fun e => .inr (.inr e)))) (fun _ _ e => e))
           clear h2 f2 c0 c1 c2)
        | (go_at_call 71
           (with_reducible refine (c_Flush HD.out Ho1.out).mono ?_)
           rw [S2.out]
           rintro e w2 ⟨rfl, h2, f2⟩
           have H2 := Lib.hid h2
           have FF2 := Lib.hid (HF.out.trans f2 (fun _ _ e => e))
           clear h2 f2 c0 c1 c2)
        | (go_at_call 88
           (with_reducible refine (c_put2 HD.out k i x m wb A n cb r _ HC.out Y1.out Y2.out).mono ?_)
           rintro e w2 ⟨rfl, h2, f2⟩
           have H2 := Lib.hid h2
           have FF2 := Lib.hid (HF.out.trans f2 (fun _ _ e => e))
           clear h2 f2 c0 c1 c2)
        )
        go_roundw
        case rel => exact ⟨3, d3, by omega, rfl, by go_num, Lib.hid (.inr (.inr (.inr ⟨by trivial, by trivial, by trivial, by trivial, by trivial⟩))), H2, FF2⟩
        case measure => simp [intOf] <;> omega
      · have hne : ((E3 : Int) != 0) = true := by simp; omega
        go_wp2_with (first
        | (go_at_call 86
           (with_reducible refine (c_put1 HD.out ho k i x m wb A n cb b hx Hb.out HA.out Y1.out Y2.out).mono ?_)
           rw [S1.out]
           rintro e w2 ⟨rfl, h2, f2⟩
           have H2 := Lib.hid h2
           have FF2 := Lib.hid (HF.out.trans (f2.mono (S1 := fun k => k = p ∨ k = g ∨ k = mb) (fun k _ e => e.elim .inl (fun e => .inr (.inr e)))) (fun _ _ e => e))
           clear h2 f2 c0 c1 c2)
        | (go_at_call 71
           (with_reducible refine (c_Flush HD.out Ho1.out).mono ?_)
           rw [S2.out]
           rintro e w2 ⟨rfl, h2, f2⟩
           have H2 := Lib.hid h2
           have FF2 := Lib.hid (HF.out.trans f2 (fun _ _ e => e))
           clear h2 f2 c0 c1 c2)
        | (go_at_call 88
           (with_reducible refine (c_put2 HD.out k i x m wb A n cb r _ HC.out Y1.out Y2.out).mono ?_)
           rintro e w2 ⟨rfl, h2, f2⟩
           have H2 := Lib.hid h2
           have FF2 := Lib.hid (HF.out.trans f2 (fun _ _ e => e))
           clear h2 f2 c0 c1 c2)
        )
        go_ret
        simp only [if_true, if_pos]
        exact ⟨rfl, H2.out, FF2.out⟩
    · clear HJ
      subst hz1 hz2 hz3
      go_wp2_with fail
      go_ret
      simp only [if_true, if_pos]
      exact ⟨rfl, HD.out, HF.out⟩
end

/-- a message that came, put: the disk, the error -/
def cputM (d : Dsk) (k i x : Int) (m : Nat) (wb : Bool) (n : Nat) (b : List UInt8) : Dsk × Nat := if k = 6 ∧ Pack.Good k i x m wb n then cput d x b else (d, 2)
def told (x : Int) (E : Nat) : Array Value := if E = 0 then (msV 7 0 x 0 false none 0 0).toArray else m0
section
variable {w : World} {p g mb c : Nat} {d d1 d2 d3 : Dsk}
theorem c_PutX (h : Dk w p g mb c d) (ho : d.ops + 1030 < 1000000000) (k i x : Int) (m : Nat) (wb : Bool) (A : Option Addr) (n cb : Nat) (b : List UInt8) (hx : -9223372036854775808 ≤ x ∧ x ≤ 9223372036854775807) (hb : Byt w A n cb b) (hA : ∀ ad, A = some ad → 0 < n → ad.block ≠ p ∧ ad.block ≠ mb) (hw1 : (dWrite d (whole x).1 (whole x).2 b).1.ops ≤ d.ops + 1024) (hw2 : (dWrite d (whole x).1 (whole x).2 b).1.flush.1.ops ≤ d.ops + 1025) :
    Calls Tryz.prog 43 #[.pointer (some ⟨p, 0, none⟩), .agg (msV k i x m wb A n cb).toArray] w fun e w' => e = .returned (.tuple #[.agg (told x (cputM d k i x m wb n b).2), .int .i64 ((cputM d k i x m wb n b).2 : Int)]) ∧ Dk w' p g mb c (cputM d k i x m wb n b).1 ∧ Fr (fun k => k = p ∨ k = g ∨ k = mb) w w' := by
  have hlt := h.lts
  by_cases hk : k = 6
  · by_cases hg : Pack.Good k i x m wb n
    · rw [show cputM d k i x m wb n b = cput d x b from if_pos ⟨hk, hg⟩]
      obtain ⟨⟨d1, E1⟩, hs1⟩ : ∃ r, dWrite d (whole x).1 (whole x).2 b = r := ⟨_, rfl⟩
      rw [hs1] at hw1 hw2
      simp only at hw1 hw2
      obtain ⟨⟨d2, E2⟩, hs2⟩ : ∃ r, d1.flush = r := ⟨_, rfl⟩
      rw [hs2] at hw2
      simp only at hw2
      obtain ⟨⟨d3, r, E3⟩, hs3⟩ : ∃ r, dclear d2 x = r := ⟨_, rfl⟩
      have hcp : cput d x b = (if E1 = 0 then if E2 = 0 then d3 else d2 else d1, if E1 = 0 then if E2 = 0 then E3 else E2 else E1) := by
        unfold cput
        rw [hs1]
        simp only
        rw [hs2]
        simp only
        rw [hs3]
        by_cases q1 : E1 = 0
        · by_cases q2 : E2 = 0
          · simp [q1, q2]
          · simp [q1, q2]
        · simp [q1]
      rw [hcp]
      have hst := fun W (hd : Dk W p g mb c d) (hbb : Byt W A n cb b) (Bf g1 g2 : Nat) (t1 t2 t3 : TypeId) => c_stepsX (Bf := Bf) (g1 := g1) (g2 := g2) (t1 := t1) (t2 := t2) (t3 := t3) hd (by omega) k i x m wb A n cb b hx hbb hA E1 E2 E3 r hs1 (by omega) hs2 (by omega) hs3
      simp only
      generalize (if E1 = 0 then if E2 = 0 then E3 else E2 else E1) = E at *
      generalize (if E1 = 0 then if E2 = 0 then d3 else d2 else d1) = dE at *
      obtain ⟨W3, hW3, x0, x1, x2, hB, hsz⟩ := Slots.three w (.cells #[.pointer (some ⟨p, 0, none⟩)] 29) (.cells (msV k i x m wb A n cb).toArray 25) (.cells m0 25)
      simp only [m0] at hW3 x2
      obtain ⟨e0, e2, e5⟩ := ms6 x1
      have d0 := Actlog.cell1 x0
      have X0 := Lib.hid x0
      have X1 := Lib.hid x1
      have X2 := Lib.hid x2
      have HB := Lib.hid hB
      have HW := Lib.hid hW3
      clear x0 x1 x2 hB hW3
      have Hg := Lib.hid (decide_eq_true hg)
      have hk2 : (k != 6) = false := by simp [hk]
      have H := Lib.hid (h.bel (HB.out.mono (by omega)))
      have Hb := Lib.hid (hb.bel (HB.out.mono (by omega)))
      have HS := Lib.hid hst
      clear hg hk h hb hst hs1 hs2 hs3 hcp hA
      by_cases hE : E = 0
      · subst hE
        go_enter Tryz.func43, Tryz.ntmps43
        go_upto_region 1 with (fail)
        rw [← HW.out]
        go_wp2_with (first
    | (refine wpL_load_rdG rfl 25 (.tmp 3) rfl ⟨w.heap.size + 1, 0, none⟩ rfl (msV k i x m wb A n cb) _ ((rd_of_heap (n := 6) X1.out rfl (by simp [maxLen])).cell _ rfl) Tryz.underlying25 rfl (by kernel_rfl) ?_)
    | (go_at_call 85
       (with_reducible refine (good_ms k i x m wb A n cb _).mono ?_)
       rintro e w2 ⟨rfl, hb2⟩
       rw [Hg.out]
       have X0 := Lib.hid ((hb2.block _ (heap_lt X0.out)).trans X0.out)
       have X1 := Lib.hid ((hb2.block _ (heap_lt X1.out)).trans X1.out)
       have X2 := Lib.hid ((hb2.block _ (heap_lt X2.out)).trans X2.out)
       have HB := Lib.hid (HB.out.trans (hb2.mono HB.out.size))
       clear d0 e0 e2 e5
       obtain ⟨e0, e2, e5⟩ := ms6 X1.out
       have d0 := Actlog.cell1 X0.out
       have hsz := Nat.le_trans (Nat.le_of_eq hsz.symm) hb2.size
       have H := Lib.hid (H.out.bel hb2); have Hb := Lib.hid (Hb.out.bel hb2)
       clear hb2)
    | (go_at_call 89
       refine (HS.out _ (H.out.bel ((Below.refl _ _).alloc (Nat.le_refl _) _)) (Hb.out.bel ((Below.refl _ _).alloc (Nat.le_refl _) _)) _ w.heap.size (w.heap.size + 1) _ _ _ ((Below.heap_alloc _ _ _ (heap_lt X0.out)).trans X0.out) ((Below.heap_alloc _ _ _ (heap_lt X1.out)).trans X1.out) (heap_alloc_new _ _) (by intro z hz; omega)).mono ?_
       rintro e w3 ⟨rfl, h3, f3⟩
       have fbs := (Fr.of_bel (S := fun k => k = p ∨ k = g ∨ k = mb) ((Below.refl _ _).alloc (Nat.le_refl _) _)).trans f3 (fun _ _ e => e)
       have hx1 := heap_fr X1.out fbs (by omega)
       have X2 := Lib.hid (heap_fr X2.out fbs (by omega))
       have HF3 := Lib.hid ((Fr.of_bel (S := fun k => k = p ∨ k = g ∨ k = mb) HB.out).trans fbs (fun _ _ e => e))
       have H3 := Lib.hid h3
       clear d0 e0 e2 e5
       obtain ⟨e0, e2, e5⟩ := ms6 hx1
       clear h3 f3 fbs hx1)
    | (refine wpL_store_all rfl rfl 25 (.tmp 4) (.tmp 32) rfl _ rfl _ rfl _ _ X2.out (by kernel_rfl) rfl (by simp [Value.oneCell']) ?_
       intro w8 x8 g8
       have HX8 := Lib.hid x8
       have f8 := Fr.grown (S := fun k => k = w.heap.size + 1 + 1) g8 (by rintro k ⟨⟩; rfl)
       have H8 := Lib.hid (H3.out.fr f8 (by omega) (by omega) (by omega))
       have HF8 := Lib.hid (HF3.out.trans f8 (fun z hz e => by omega))
       clear x8 g8 f8 e0 e2 e5)
        )
        refine bodyPost_ret (results_cell2 rfl _ _ (w.heap.size + 1 + 1) _ _ (0, 0) _ rfl HX8.out Tryz.underlying25 rfl (by kernel_rfl) _ rfl) rfl ?_
        exact ⟨rfl, H8.out, HF8.out⟩
      · have hne : ((E : Int) != 0) = true := by simp; omega
        have ht : told x E = m0 := if_neg hE
        rw [ht]
        go_enter Tryz.func43, Tryz.ntmps43
        go_upto_region 1 with (fail)
        rw [← HW.out]
        go_wp2_with (first
    | (refine wpL_load_rdG rfl 25 (.tmp 3) rfl ⟨w.heap.size + 1, 0, none⟩ rfl (msV k i x m wb A n cb) _ ((rd_of_heap (n := 6) X1.out rfl (by simp [maxLen])).cell _ rfl) Tryz.underlying25 rfl (by kernel_rfl) ?_)
    | (go_at_call 85
       (with_reducible refine (good_ms k i x m wb A n cb _).mono ?_)
       rintro e w2 ⟨rfl, hb2⟩
       rw [Hg.out]
       have X0 := Lib.hid ((hb2.block _ (heap_lt X0.out)).trans X0.out)
       have X1 := Lib.hid ((hb2.block _ (heap_lt X1.out)).trans X1.out)
       have X2 := Lib.hid ((hb2.block _ (heap_lt X2.out)).trans X2.out)
       have HB := Lib.hid (HB.out.trans (hb2.mono HB.out.size))
       clear d0 e0 e2 e5
       obtain ⟨e0, e2, e5⟩ := ms6 X1.out
       have d0 := Actlog.cell1 X0.out
       have hsz := Nat.le_trans (Nat.le_of_eq hsz.symm) hb2.size
       have H := Lib.hid (H.out.bel hb2); have Hb := Lib.hid (Hb.out.bel hb2)
       clear hb2)
    | (go_at_call 89
       refine (HS.out _ (H.out.bel ((Below.refl _ _).alloc (Nat.le_refl _) _)) (Hb.out.bel ((Below.refl _ _).alloc (Nat.le_refl _) _)) _ w.heap.size (w.heap.size + 1) _ _ _ ((Below.heap_alloc _ _ _ (heap_lt X0.out)).trans X0.out) ((Below.heap_alloc _ _ _ (heap_lt X1.out)).trans X1.out) (heap_alloc_new _ _) (by intro z hz; omega)).mono ?_
       rintro e w3 ⟨rfl, h3, f3⟩
       have fbs := (Fr.of_bel (S := fun k => k = p ∨ k = g ∨ k = mb) ((Below.refl _ _).alloc (Nat.le_refl _) _)).trans f3 (fun _ _ e => e)
       have hx1 := heap_fr X1.out fbs (by omega)
       have X2 := Lib.hid (heap_fr X2.out fbs (by omega))
       have HF3 := Lib.hid ((Fr.of_bel (S := fun k => k = p ∨ k = g ∨ k = mb) HB.out).trans fbs (fun _ _ e => e))
       have H3 := Lib.hid h3
       clear d0 e0 e2 e5
       obtain ⟨e0, e2, e5⟩ := ms6 hx1
       clear h3 f3 fbs hx1)
    | (refine wpL_store_all rfl rfl 25 (.tmp 4) (.tmp 28) rfl _ rfl _ rfl _ _ X2.out (by kernel_rfl) rfl (by simp [Value.oneCell']) ?_
       intro w8 x8 g8
       have HX8 := Lib.hid x8
       have f8 := Fr.grown (S := fun k => k = w.heap.size + 1 + 1) g8 (by rintro k ⟨⟩; rfl)
       have H8 := Lib.hid (H3.out.fr f8 (by omega) (by omega) (by omega))
       have HF8 := Lib.hid (HF3.out.trans f8 (fun z hz e => by omega))
       clear x8 g8 f8 e0 e2 e5)
        )
        refine bodyPost_ret (results_cell2 rfl _ _ (w.heap.size + 1 + 1) _ _ (0, 0) _ rfl HX8.out Tryz.underlying25 rfl (by kernel_rfl) _ rfl) rfl ?_
        exact ⟨rfl, H8.out, HF8.out⟩
    · rw [show cputM d k i x m wb n b = (d, 2) from if_neg (fun e => hg e.2)]
      have ht : told x 2 = m0 := if_neg (by omega)
      simp only
      rw [ht]
      obtain ⟨W3, hW3, x0, x1, x2, hB, hsz⟩ := Slots.three w (.cells #[.pointer (some ⟨p, 0, none⟩)] 29) (.cells (msV k i x m wb A n cb).toArray 25) (.cells m0 25)
      simp only [m0] at hW3 x2
      obtain ⟨e0, e2, e5⟩ := ms6 x1
      have d0 := Actlog.cell1 x0
      have X0 := Lib.hid x0
      have X1 := Lib.hid x1
      have X2 := Lib.hid x2
      have HB := Lib.hid hB
      have HW := Lib.hid hW3
      clear x0 x1 x2 hB hW3
      have Hg := Lib.hid (decide_eq_false hg)
      have hk2 : (k != 6) = false := by simp [hk]
      have H3 := Lib.hid (h.bel (HB.out.mono (by omega)))
      have HF3 := Lib.hid (Fr.of_bel (S := fun k => k = p ∨ k = g ∨ k = mb) HB.out)
      clear hg hk h hb
      go_enter Tryz.func43, Tryz.ntmps43
      go_upto_region 1 with (fail)
      rw [← HW.out]
      go_wp2_with (first
    | (refine wpL_load_rdG rfl 25 (.tmp 3) rfl ⟨w.heap.size + 1, 0, none⟩ rfl (msV k i x m wb A n cb) _ ((rd_of_heap (n := 6) X1.out rfl (by simp [maxLen])).cell _ rfl) Tryz.underlying25 rfl (by kernel_rfl) ?_)
    | (go_at_call 85
       (with_reducible refine (good_ms k i x m wb A n cb _).mono ?_)
       rintro e w2 ⟨rfl, hb2⟩
       rw [Hg.out]
       have X0 := Lib.hid ((hb2.block _ (heap_lt X0.out)).trans X0.out)
       have X1 := Lib.hid ((hb2.block _ (heap_lt X1.out)).trans X1.out)
       have X2 := Lib.hid ((hb2.block _ (heap_lt X2.out)).trans X2.out)
       have HB := Lib.hid (HB.out.trans (hb2.mono HB.out.size))
       clear d0 e0 e2 e5
       obtain ⟨e0, e2, e5⟩ := ms6 X1.out
       have d0 := Actlog.cell1 X0.out
       have hsz := Nat.le_trans (Nat.le_of_eq hsz.symm) hb2.size
       have H3 := Lib.hid (H3.out.bel hb2); have HF3 := Lib.hid (Fr.of_bel (S := fun k => k = p ∨ k = g ∨ k = mb) HB.out)
       clear hb2)
    | (refine wpL_store_all rfl rfl 25 (.tmp 4) (.tmp 17) rfl _ rfl _ rfl _ _ X2.out (by kernel_rfl) rfl (by simp [Value.oneCell']) ?_
       intro w8 x8 g8
       have HX8 := Lib.hid x8
       have f8 := Fr.grown (S := fun k => k = w.heap.size + 1 + 1) g8 (by rintro k ⟨⟩; rfl)
       have H8 := Lib.hid (H3.out.fr f8 (by omega) (by omega) (by omega))
       have HF8 := Lib.hid (HF3.out.trans f8 (fun z hz e => by omega))
       clear x8 g8 f8 e0 e2 e5)
      )
      refine bodyPost_ret (results_cell2 rfl _ _ (w.heap.size + 1 + 1) _ _ (0, 0) _ rfl HX8.out Tryz.underlying25 rfl (by kernel_rfl) _ rfl) rfl ?_
      exact ⟨rfl, H8.out, HF8.out⟩
  · rw [show cputM d k i x m wb n b = (d, 2) from if_neg (fun e => hk e.1)]
    have ht : told x 2 = m0 := if_neg (by omega)
    simp only
    rw [ht]
    obtain ⟨W3, hW3, x0, x1, x2, hB, hsz⟩ := Slots.three w (.cells #[.pointer (some ⟨p, 0, none⟩)] 29) (.cells (msV k i x m wb A n cb).toArray 25) (.cells m0 25)
    simp only [m0] at hW3 x2
    obtain ⟨e0, e2, e5⟩ := ms6 x1
    have d0 := Actlog.cell1 x0
    have X0 := Lib.hid x0
    have X1 := Lib.hid x1
    have X2 := Lib.hid x2
    have HB := Lib.hid hB
    have HW := Lib.hid hW3
    clear x0 x1 x2 hB hW3
    have hk2 : (k != 6) = true := by simp [hk]
    have H3 := Lib.hid (h.bel (HB.out.mono (by omega)))
    have HF3 := Lib.hid (Fr.of_bel (S := fun k => k = p ∨ k = g ∨ k = mb) HB.out)
    clear hk h hb
    go_enter Tryz.func43, Tryz.ntmps43
    go_upto_region 1 with (fail)
    rw [← HW.out]
    go_wp2_with (first
    | (refine wpL_store_all rfl rfl 25 (.tmp 4) (.tmp 17) rfl _ rfl _ rfl _ _ X2.out (by kernel_rfl) rfl (by simp [Value.oneCell']) ?_
       intro w8 x8 g8
       have HX8 := Lib.hid x8
       have f8 := Fr.grown (S := fun k => k = w.heap.size + 1 + 1) g8 (by rintro k ⟨⟩; rfl)
       have H8 := Lib.hid (H3.out.fr f8 (by omega) (by omega) (by omega))
       have HF8 := Lib.hid (HF3.out.trans f8 (fun z hz e => by omega))
       clear x8 g8 f8 e0 e2 e5)
    )
    refine bodyPost_ret (results_cell2 rfl _ _ (w.heap.size + 1 + 1) _ _ (0, 0) _ rfl HX8.out Tryz.underlying25 rfl (by kernel_rfl) _ rfl) rfl ?_
    exact ⟨rfl, H8.out, HF8.out⟩
end
end Go.Proofs.YtaldlapnhhhclaaGreat.Copying
