/- Contracts of the package pack's reference: Parse, the other shapes. Conditions: none. -/
import Derived.Test.YtdpggcpbgfancaaPack14
set_option linter.unusedVariables false
set_option linter.unusedSimpArgs false
namespace Go.Proofs.Ytdpggcpbgfancaa.Pack
open Go.RowKit Tw
set_option maxHeartbeats 8000000
set_option maxRecDepth 100000
theorem c_rParseW (A : Option Addr) (n c : Nat) (b : List UInt8) (w : World) (hb : Byt w A n c b) (h0 : 0 < n) (h1 : n ≤ 200) (hkk : kk (headM b) = true) (hl : nd true false false < n)
    (ha : kW (headM b) = true) (hbb : kI (headM b) = false) (hcc : kO (headM b) = false) (hV : True) :
    Calls Try.prog 36 #[.slice A n c] w fun e w' => ∃ A2 n2 c2, e = .returned (.tuple #[msV (parse b).1 A2 n2 c2, .int .i64 ((parse b).2 : Nat)]) ∧ Byt w' A2 n2 c2 (parse b).1.d ∧ Below w.heap.size w w' := by
  have hlen := hb.blen
  have hdl : (b.drop 1).length = n - 1 := by rw [List.length_drop]; omega
  have hnd : nd (kW (headM b)) (kI (headM b)) (kO (headM b)) ≤ (b.drop 1).length := by rw [ha, hbb, hcc]; omega
  have hW := fun w => c_hasWas (headM b) w
  have hI := fun w => c_hasId (headM b) w
  have hO := fun w => c_hasOff (headM b) w
  have hN := fun w => c_need (headM b) w
  rw [ha] at hW hN
  rw [hbb] at hI hN
  rw [hcc] at hO hN
  have hp := parse_ref (b := b) (by omega) (by omega) hkk hnd (fun h => by rw [hbb] at h; cases h)
  have hpy : bytesM (fieldsM (headM b) (b.drop 1)) = b → parse b = (fieldsM (headM b) (b.drop 1), 0) := fun h => by rw [hp, if_pos h]
  have hpn : bytesM (fieldsM (headM b) (b.drop 1)) ≠ b → parse b = (zm, 9) := fun h => by rw [hp, if_neg h]
  have hFe : fieldsM (headM b) (b.drop 1) = ⟨headM b, 0, 0, Num.gv 8 (b.drop 2), ((((b.drop 1).getD 0 0).toNat : Int) == 1), b.drop 10⟩ := by unfold fieldsM; rw [ha, hbb, hcc, show nd true false false = 9 from rfl, List.drop_drop]; unfold fM; rw [if_pos rfl, List.drop_drop]; rfl
  rw [hFe] at hpy hpn
  have HB := Lib.hid ((Below.refl _ _).alloc (Nat.le_refl w.heap.size) (.cells #[.int .i64 0, .int .i64 0, .int .i64 0, .int .u64 0, .bool false, .slice none 0 0] 42))
  have HR := Lib.hid (heap_alloc_new w (.cells #[.int .i64 0, .int .i64 0, .int .i64 0, .int .u64 0, .bool false, .slice none 0 0] 42))
  have hb1 := hb.bel HB.out
  obtain ⟨ad, x, rfl, hx, hc0, hxl⟩ := hb1.atB (k := 0) h0
  have hx0 : b.getD 0 0 = x := by have h := hx; unfold RowKit.Hid at h; rw [List.getD_eq_getElem?_getD, h]; rfl
  have hK : headM b = (x.toNat : Int) := by unfold headM; rw [hx0]
  have hK8 : (1 : Int) ≤ headM b ∧ headM b ≤ 8 := of_decide_eq_true hkk
  rw [hK] at hW hI hO hN hK8
  have hcell : (w.alloc (.cells #[.int .i64 0, .int .i64 0, .int .i64 0, .int .u64 0, .bool false, .slice none 0 0] 42)).cell? ad = some (.int .u8 (x.toNat : Int)) := by simpa [Addr.add] using hc0
  have hsub : ∀ (q : Nat), q < n → Byt w (some (ad.add q)) (n - q) (c - q) (b.drop q) := fun q hq => by
    have h9 := hb.cutB (k := q) (by omega)
    have hle := hb.le
    rw [if_neg (by omega)] at h9
    exact h9
  have Hsub := Lib.hid hsub
  have hle := hb.le
  have Hb := Lib.hid hb
  obtain ⟨X, hX⟩ : ∃ X : Nat, x.toNat = X := ⟨_, rfl⟩
  rw [hX] at hW hI hO hN hK hcell hK8
  rw [hK] at hpy hpn
  have HPy := Lib.hid hpy
  have HPn := Lib.hid hpn
  obtain ⟨hk1, hk2⟩ := hK8
  have hk1' : ¬ ((X : Int) < 1) := by omega
  have hk2' : ¬ ((8 : Int) < (X : Int)) := by omega
  have HKe := Lib.hid hK
  have hn0 : ((n : Int) == 0) = false := by simp; omega
  clear hb hb1 hx hc0 hx0 hK hkk ha hbb hcc hsub hX hdl hnd hk1 hk2 hp hFe hpy hpn
  go_enter Try.func36, Try.ntmps36
  go_upto_region 1 with (fail)
  generalize w.alloc (.cells #[.int .i64 0, .int .i64 0, .int .i64 0, .int .u64 0, .bool false, .slice none 0 0] 42) = W1 at *
  go_upto_region 11 with (first
    | (go_at_call 97
       (with_reducible refine (hN _).mono ?_)
       rintro e w5 ⟨rfl, rfl⟩)
    | (refine Bx.wpL_store_all rfl rfl 42 (.tmp 5) (.tmp 39) rfl _ rfl _ rfl _ _ (heap_alloc_new W1 _) (by kernel_rfl) rfl (one6 _ _ _ _ _ _ _ _) ?_
       intro w4 x4 g4
       have F4 : Fr (fun k => k = W1.heap.size) W1 w4 := (Fr.alloc _).trans (Fr.grown (S := fun k => k = W1.heap.size) g4 (by rintro k ⟨⟩; rfl)) (fun _ _ h => h)
       have bel4 : Below W1.heap.size W1 w4 := F4.bel (fun k e => by omega) (Nat.le_refl _)
       have hrl := heap_lt HR.out
       have HX := Lib.hid x4
       replace HR := Lib.hid ((bel4.block _ hrl).trans HR.out)
       replace hcell := (bel4.cell (block_lt_of_cell hcell)).trans hcell
       replace HB := Lib.hid (HB.out.trans (bel4.mono HB.out.size))
       clear x4 g4 F4 bel4)
    | fail)
  generalize W1.heap.size = g5 at *
  have hnd0 : nd true false false = 9 := rfl
  rw [hnd0] at hl
  have hFMl : Num.gv 8 (b.drop 2) < 18446744073709551616 := Num.gv_lt 8 _
  have hget := fun w' (hB : Below w.heap.size w w') => Num.c_rGetAll (some ⟨ad.block, ad.off + 2, none⟩) (n - 2) (c - 2) (b.drop 2) 8 8 w' rfl (by omega) ((Hsub.out 2 (by omega)).below hB (Nat.le_refl _))
  obtain ⟨ad', x1, had, hx1, hc1, hxl1⟩ := (Hb.out.below HB.out (Nat.le_refl _)).atB (k := 1) (by omega)
  injection had with had
  subst had
  have hx1' : (b.drop 1).getD 0 0 = x1 := by have h := hx1; unfold RowKit.Hid at h; rw [List.getD_eq_getElem?_getD, List.getElem?_drop, h]; rfl
  rw [hx1'] at HPy HPn
  have hcell1 : w4.cell? ⟨ad.block, ad.off + 1, none⟩ = some (.int .u8 (x1.toNat : Int)) := hc1
  generalize x1.toNat = X1 at *
  clear hc1 hx1 hx1'
  generalize Num.gv 8 (b.drop 2) = FM at *
  have hc2 : ¬ c = 2 := by omega
  have hn1 : (1 : Int) < (n : Int) := by omega
  go_upto_region 27 with (first
      | (go_at_call 88
         (with_reducible refine (hW _).mono ?_)
         rintro e w5 ⟨rfl, rfl⟩)
      | (go_at_call 89
         (with_reducible refine (hI _).mono ?_)
         rintro e w5 ⟨rfl, rfl⟩)
      | (go_at_call 90
         (with_reducible refine (hO _).mono ?_)
         rintro e w5 ⟨rfl, rfl⟩)
      | (go_at_call 98
         (with_reducible refine (hget _ (HB.out)).mono ?_)
         rintro e w5 ⟨rfl, rfl⟩
         clear hget)
      | (refine wpL_store_cell rfl rfl 4 (.tmp 52) (.tmp 51) rfl g5 4 rfl (.bool ((X1 : Int) == 1)) (by first | rfl | (go_simp; done) | (simp; done)) rfl rfl (by kernel_rfl) _ _ HX.out (by simp) ?_
         intro w6 x6 g6
         simp only [List.setIfInBounds_toArray, List.set_cons_zero, List.set_cons_succ] at x6
         replace HR := Lib.hid (heap_grown HR.out g6 (by simp; omega))
         replace HB := Lib.hid (HB.out.grown g6 HB.out.size (by rintro k ⟨⟩; omega))
         replace HX := Lib.hid x6
         clear g6 x6)
      | (refine wpL_store_cell rfl rfl 40 (.tmp 54) (.tmp 53) rfl g5 3 rfl (.int .u64 (FM : Int)) (by first | rfl | (go_simp; done) | (simp; done)) rfl rfl (by kernel_rfl) _ _ HX.out (by simp) ?_
         intro w6 x6 g6
         simp only [List.setIfInBounds_toArray, List.set_cons_zero, List.set_cons_succ] at x6
         replace HR := Lib.hid (heap_grown HR.out g6 (by simp; omega))
         replace HB := Lib.hid (HB.out.grown g6 HB.out.size (by rintro k ⟨⟩; omega))
         replace HX := Lib.hid x6
         clear g6 x6)
      | fail)
  by_cases hat : 10 < n
  · go_upto_region 29 with (first
      | (refine wpL_append _ rfl (.tmp 89) (.tmp 92) _ rfl w6 w6.heap.size (bel_alloc (Below.refl _ _) (Nat.le_refl _) _) (size_alloc_le (Nat.le_refl _) _) 5 _ 1 1 Try.underlying23 Num.info_u8 rfl (by omega) _ _ _ [] rfl (own_lit w6 w6.heap.size _ 1 #[] 0 (Nat.le_refl _) (by simp [maxLen]) (by simp)) _ _ _ _ rfl ((Hsub.out 10 hat).below (bel_alloc HB.out HB.out.size _) (Nat.le_refl _)) bytesV_one (n - 10) _ (by omega) rfl (by unfold maxLen; omega) (by omega) ?_
         intro A10 c10 w10 ho10 hb10 hg10 hl10
         have hgX := heap_lt HX.out
         have O10 := Lib.hid ho10
         replace HX := Lib.hid ((hb10.block _ (heap_lt HX.out)).trans HX.out)
         replace HR := Lib.hid ((hb10.block _ (heap_lt HR.out)).trans HR.out)
         replace HB := Lib.hid (HB.out.trans (hb10.mono HB.out.size))
         clear ho10 hb10 hg10 hl10)
      | (refine wpL_store_cell rfl rfl 23 (.tmp 94) (.tmp 93) rfl g5 5 rfl (.slice A10 (n - 10) c10) (by first | rfl | (go_simp; done) | (simp; done)) rfl rfl (by kernel_rfl) _ _ HX.out (by simp) ?_
         intro w6 x6 g6
         simp only [List.setIfInBounds_toArray, List.set_cons_zero, List.set_cons_succ] at x6
         replace HR := Lib.hid (heap_grown HR.out g6 (by simp; omega))
         replace HB := Lib.hid (HB.out.grown g6 HB.out.size (by rintro k ⟨⟩; omega))
         replace HX := Lib.hid x6
         replace O10 := Lib.hid (O10.out.fr (Fr.grown (S := fun k => k = g5) g6 (by rintro k ⟨⟩; rfl)) (fun ad e => by have := (O10.out.at0 ad e).1; omega))
         clear g6 x6)
      | fail)
    rw [List.nil_append] at O10
    have hbc := fun w h => c_rBytes (X : Int) 0 0 FM ((X1 : Int) == 1) A10 (n - 10) c10 (b.drop 10) w hFMl h
    obtain ⟨BM, hBM⟩ : ∃ l, bytes (X : Int) 0 0 FM ((X1 : Int) == 1) (b.drop 10) = l := ⟨_, rfl⟩
    rw [hBM] at hbc
    (try simp only [show ((0 : Nat) : Int) = 0 from rfl] at hbc)
    have hpy : BM = b → _ := fun h => HPy.out (hBM.trans h)
    have hpn : BM ≠ b → parse b = (zm, 9) := fun h => HPn.out (fun e => h (hBM.symm.trans e))
    have HD := Lib.hid (O10.out.rd)
    have HFR : Hid (∀ ad : Addr, (A10 : Option Addr) = some ad → ad.block ≠ w.heap.size) := Lib.hid (fun ad e => by have := (O10.out.at0 ad e).1; omega)
    clear hBM
    by_cases hbm : BM = b
    · subst hbm
      have HP0 := Lib.hid (hpy rfl)
      clear hpy hpn
      refine wp_region_phi (by kernel_rfl) 6 none (fun _ => false) (fun i_ v wz => match i_ with
        | 0 => v = .agg #[.int .i64 (X : Int), .int .i64 0, .int .i64 0, .int .u64 (FM : Int), .bool ((X1 : Int) == 1), .slice A10 (n - 10) c10]
        | 1 => ∃ A2 n2 c2, v = .slice A2 n2 c2 ∧ Byt wz A2 n2 c2 BM
        | 2 => v = .string ⟨BM.toArray⟩
        | 3 => v = .slice (some ad) n c
        | 4 => v = .string ⟨BM.toArray⟩
        | 5 => v = .bool false
        | _ => True) (by kernel_rfl) ?_ ?_ ?_
      · (repeat' (first | exact allLt_zero | refine allLt_succ ?_ ?_))
        · exact fun _ _ _ h _ => h
        · intro v w1 w2 h hg
          rw [show kindRow _ _ = none from by kernel_rfl] at hg
          obtain ⟨A2, n2, c2, rfl, hr⟩ := h
          exact ⟨A2, n2, c2, rfl, hr.bel (bel_grown hg)⟩
        · exact fun _ _ _ h _ => h
        · exact fun _ _ _ h _ => h
        · exact fun _ _ _ h _ => h
        · exact fun _ _ _ h _ => h
      · (repeat' (first | exact allLt_zero | refine allLt_succ ?_ ?_))
        · intro a w' hf he
          have k5 : a.tmps.getD 5 undef = .pointer (some ⟨g5, 0, none⟩) := hf.var (by kernel_rfl) rfl
          rw [show kindRow _ _ = none from by kernel_rfl] at hf
          obtain ⟨q0, q1, q2, q3, q4, q5⟩ := Bx.cells6 ((hf.bel.block _ (heap_lt HX.out)).trans HX.out)
          refine wpOp_step rfl (fun K hK => ?_)
          go_simp
          exact hK _ _ ⟨_, rfl, rfl, World.grownBy.refl _ _⟩
        · intro a w' hf he
          have f0 : a.tmps.getD 95 undef = .agg #[.int .i64 (X : Int), .int .i64 0, .int .i64 0, .int .u64 (FM : Int), .bool ((X1 : Int) == 1), .slice A10 (n - 10) c10] := he 0 (by kernel_rfl)
          rw [show kindRow _ _ = none from by kernel_rfl] at hf
          refine wpOp_step rfl (fun K hK => ?_)
          go_simp
          (with_reducible refine (hbc _ (HD.out.bel hf.bel)).mono ?_)
          rintro e w2 ⟨A2, n2, c2, rfl, ho2, hb2⟩
          exact hK _ _ ⟨_, rfl, ⟨_, _, _, rfl, ho2⟩, grown_bel hb2⟩
        · intro a w' hf he
          obtain ⟨A1, n1, c1, hv1, hr1⟩ := he 1 (by kernel_rfl)
          have f1 : a.tmps.getD 96 undef = _ := hv1
          rw [show kindRow _ _ = none from by kernel_rfl] at hf
          have hcv := run_str (P := Try.prog) w' 23 9 5 A1 n1 c1 BM Try.underlying23 Try.underlying5 Try.underlying9 hr1
          refine wpOp_step rfl (fun K hK => ?_)
          go_simp
          exact hK _ _ ⟨_, rfl, rfl, World.grownBy.refl _ _⟩
        · intro a w' hf he
          have k0 : a.tmps.getD 0 undef = .slice (some ad) n c := hf.var (by kernel_rfl) rfl
          refine wpOp_step rfl (fun K hK => ?_)
          go_simp
          exact hK _ _ ⟨_, rfl, rfl, World.grownBy.refl _ _⟩
        · intro a w' hf he
          have f3 : a.tmps.getD 98 undef = .slice (some ad) n c := he 3 (by kernel_rfl)
          rw [show kindRow _ _ = none from by kernel_rfl] at hf
          have hcv := run_str (P := Try.prog) w' 23 9 5 (some ad) n c BM Try.underlying23 Try.underlying5 Try.underlying9 (Hb.out.below (HB.out.trans (hf.bel.mono HB.out.size)) (Nat.le_refl _))
          refine wpOp_step rfl (fun K hK => ?_)
          go_simp
          exact hK _ _ ⟨_, rfl, rfl, World.grownBy.refl _ _⟩
        · intro a w' hf he
          have f2 : a.tmps.getD 97 undef = .string ⟨BM.toArray⟩ := he 2 (by kernel_rfl)
          have f4 : a.tmps.getD 99 undef = .string ⟨BM.toArray⟩ := he 4 (by kernel_rfl)
          rw [show kindRow _ _ = none from by kernel_rfl] at hf
          refine wpOp_step rfl (fun K hK => ?_)
          go_simp
          exact hK _ _ ⟨_, rfl, by simp, World.grownBy.refl _ _⟩
      · intro a w' hf he
        obtain ⟨u95, f0⟩ : ∃ u, a.tmps.getD 95 undef = u := ⟨_, rfl⟩
        obtain ⟨u96, f1⟩ : ∃ u, a.tmps.getD 96 undef = u := ⟨_, rfl⟩
        obtain ⟨u97, f2⟩ : ∃ u, a.tmps.getD 97 undef = u := ⟨_, rfl⟩
        obtain ⟨u98, f3⟩ : ∃ u, a.tmps.getD 98 undef = u := ⟨_, rfl⟩
        obtain ⟨u99, f4⟩ : ∃ u, a.tmps.getD 99 undef = u := ⟨_, rfl⟩
        have f5 : a.tmps.getD 100 undef = .bool false := he 5 (by decide)
        have hlit := hf.lit ((95, u95) :: (96, u96) :: (97, u97) :: (98, u98) :: (99, u99) :: (100, .bool false) :: []) (by kernel_rfl) ⟨f0, f1, f2, f3, f4, f5, trivial⟩
        have hB := hf.bel
        clear he hf f0 f1 f2 f3 f4 f5 
        subst hlit
        simp only [putAll_nil, putAll_cons, Act.put, List.setIfInBounds_toArray, List.set_cons_zero, List.set_cons_succ]
        simp only [List.drop_succ_cons, List.drop_zero]
        replace HX := Lib.hid ((hB.block _ (heap_lt HX.out)).trans HX.out)
        replace HR := Lib.hid ((hB.block _ (heap_lt HR.out)).trans HR.out)
        replace HD := Lib.hid (HD.out.bel hB)
        replace HB := Lib.hid (HB.out.trans (hB.mono HB.out.size))
        obtain ⟨k0, k1, k2, k3, k4, k5⟩ := Bx.cells6 HX.out
        clear hB
        go_wp2_with (first
          | (refine Bx.wpL_store_all rfl rfl 42 (.tmp 2) (.tmp 102) rfl _ rfl _ rfl _ _ HR.out (by kernel_rfl) rfl (one6 _ _ _ _ _ _ _ _) ?_
             intro w9 x9 g9
             have HRR := Lib.hid x9
             have HBR := Lib.hid (HB.out.grown g9 HB.out.size (by rintro k ⟨⟩; exact Nat.le_refl _))
             have HG9 := Lib.hid g9
             clear x9 g9)
          | fail)
        refine bodyPost_ret (Bx.results_cell2 rfl _ _ w.heap.size _ _ (0, 0) _ rfl HRR.out Try.underlying42 rfl (by kernel_rfl) _ rfl) rfl ?_
        rw [HP0.out]
        exact ⟨A10, (n - 10), c10, rfl, HD.out.fr (Fr.grown (S := fun k => k = w.heap.size) HG9.out (by rintro k ⟨⟩; rfl)) HFR.out, HBR.out⟩
    · have HP0 := Lib.hid (hpn hbm)
      have hbm' : (BM == b) = false := by simpa using hbm
      clear hpy hpn
      refine wp_region_phi (by kernel_rfl) 6 none (fun _ => false) (fun i_ v wz => match i_ with
        | 0 => v = .agg #[.int .i64 (X : Int), .int .i64 0, .int .i64 0, .int .u64 (FM : Int), .bool ((X1 : Int) == 1), .slice A10 (n - 10) c10]
        | 1 => ∃ A2 n2 c2, v = .slice A2 n2 c2 ∧ Byt wz A2 n2 c2 BM
        | 2 => v = .string ⟨BM.toArray⟩
        | 3 => v = .slice (some ad) n c
        | 4 => v = .string ⟨b.toArray⟩
        | 5 => v = .bool true
        | _ => True) (by kernel_rfl) ?_ ?_ ?_
      · (repeat' (first | exact allLt_zero | refine allLt_succ ?_ ?_))
        · exact fun _ _ _ h _ => h
        · intro v w1 w2 h hg
          rw [show kindRow _ _ = none from by kernel_rfl] at hg
          obtain ⟨A2, n2, c2, rfl, hr⟩ := h
          exact ⟨A2, n2, c2, rfl, hr.bel (bel_grown hg)⟩
        · exact fun _ _ _ h _ => h
        · exact fun _ _ _ h _ => h
        · exact fun _ _ _ h _ => h
        · exact fun _ _ _ h _ => h
      · (repeat' (first | exact allLt_zero | refine allLt_succ ?_ ?_))
        · intro a w' hf he
          have k5 : a.tmps.getD 5 undef = .pointer (some ⟨g5, 0, none⟩) := hf.var (by kernel_rfl) rfl
          rw [show kindRow _ _ = none from by kernel_rfl] at hf
          obtain ⟨q0, q1, q2, q3, q4, q5⟩ := Bx.cells6 ((hf.bel.block _ (heap_lt HX.out)).trans HX.out)
          refine wpOp_step rfl (fun K hK => ?_)
          go_simp
          exact hK _ _ ⟨_, rfl, rfl, World.grownBy.refl _ _⟩
        · intro a w' hf he
          have f0 : a.tmps.getD 95 undef = .agg #[.int .i64 (X : Int), .int .i64 0, .int .i64 0, .int .u64 (FM : Int), .bool ((X1 : Int) == 1), .slice A10 (n - 10) c10] := he 0 (by kernel_rfl)
          rw [show kindRow _ _ = none from by kernel_rfl] at hf
          refine wpOp_step rfl (fun K hK => ?_)
          go_simp
          (with_reducible refine (hbc _ (HD.out.bel hf.bel)).mono ?_)
          rintro e w2 ⟨A2, n2, c2, rfl, ho2, hb2⟩
          exact hK _ _ ⟨_, rfl, ⟨_, _, _, rfl, ho2⟩, grown_bel hb2⟩
        · intro a w' hf he
          obtain ⟨A1, n1, c1, hv1, hr1⟩ := he 1 (by kernel_rfl)
          have f1 : a.tmps.getD 96 undef = _ := hv1
          rw [show kindRow _ _ = none from by kernel_rfl] at hf
          have hcv := run_str (P := Try.prog) w' 23 9 5 A1 n1 c1 BM Try.underlying23 Try.underlying5 Try.underlying9 hr1
          refine wpOp_step rfl (fun K hK => ?_)
          go_simp
          exact hK _ _ ⟨_, rfl, rfl, World.grownBy.refl _ _⟩
        · intro a w' hf he
          have k0 : a.tmps.getD 0 undef = .slice (some ad) n c := hf.var (by kernel_rfl) rfl
          refine wpOp_step rfl (fun K hK => ?_)
          go_simp
          exact hK _ _ ⟨_, rfl, rfl, World.grownBy.refl _ _⟩
        · intro a w' hf he
          have f3 : a.tmps.getD 98 undef = .slice (some ad) n c := he 3 (by kernel_rfl)
          rw [show kindRow _ _ = none from by kernel_rfl] at hf
          have hcv := run_str (P := Try.prog) w' 23 9 5 (some ad) n c b Try.underlying23 Try.underlying5 Try.underlying9 (Hb.out.below (HB.out.trans (hf.bel.mono HB.out.size)) (Nat.le_refl _))
          refine wpOp_step rfl (fun K hK => ?_)
          go_simp
          exact hK _ _ ⟨_, rfl, rfl, World.grownBy.refl _ _⟩
        · intro a w' hf he
          have f2 : a.tmps.getD 97 undef = .string ⟨BM.toArray⟩ := he 2 (by kernel_rfl)
          have f4 : a.tmps.getD 99 undef = .string ⟨b.toArray⟩ := he 4 (by kernel_rfl)
          rw [show kindRow _ _ = none from by kernel_rfl] at hf
          refine wpOp_step rfl (fun K hK => ?_)
          go_simp
          exact hK _ _ ⟨_, rfl, by simp [bne, hbm'], World.grownBy.refl _ _⟩
      · intro a w' hf he
        obtain ⟨u95, f0⟩ : ∃ u, a.tmps.getD 95 undef = u := ⟨_, rfl⟩
        obtain ⟨u96, f1⟩ : ∃ u, a.tmps.getD 96 undef = u := ⟨_, rfl⟩
        obtain ⟨u97, f2⟩ : ∃ u, a.tmps.getD 97 undef = u := ⟨_, rfl⟩
        obtain ⟨u98, f3⟩ : ∃ u, a.tmps.getD 98 undef = u := ⟨_, rfl⟩
        obtain ⟨u99, f4⟩ : ∃ u, a.tmps.getD 99 undef = u := ⟨_, rfl⟩
        have f5 : a.tmps.getD 100 undef = .bool true := he 5 (by decide)
        have hlit := hf.lit ((95, u95) :: (96, u96) :: (97, u97) :: (98, u98) :: (99, u99) :: (100, .bool true) :: []) (by kernel_rfl) ⟨f0, f1, f2, f3, f4, f5, trivial⟩
        have hB := hf.bel
        clear he hf f0 f1 f2 f3 f4 f5 
        subst hlit
        simp only [putAll_nil, putAll_cons, Act.put, List.setIfInBounds_toArray, List.set_cons_zero, List.set_cons_succ]
        simp only [List.drop_succ_cons, List.drop_zero]
        replace HR := Lib.hid ((hB.block _ (heap_lt HR.out)).trans HR.out)
        replace HB := Lib.hid (HB.out.trans (hB.mono HB.out.size))
        clear hB
        go_wp2_with (first
          | (refine Bx.wpL_store_all rfl rfl 42 (.tmp 2) (.tmp 101) rfl _ rfl _ rfl _ _ HR.out (by kernel_rfl) rfl (one6 _ _ _ _ _ _ _ _) ?_
             intro w9 x9 g9
             have HRR := Lib.hid x9
             have HBR := Lib.hid (HB.out.grown g9 HB.out.size (by rintro k ⟨⟩; exact Nat.le_refl _))
             clear x9 g9)
          | fail)
        refine bodyPost_ret (Bx.results_cell2 rfl _ _ w.heap.size _ _ (0, 0) _ rfl HRR.out Try.underlying42 rfl (by kernel_rfl) _ rfl) rfl ?_
        rw [HP0.out]
        exact ⟨none, 0, 0, rfl, Rd.nil_, HBR.out⟩
  · go_upto_region 29 with (fail)
    have hbc := fun w h => c_rBytes (X : Int) 0 0 FM ((X1 : Int) == 1) none 0 0 (b.drop 10) w hFMl h
    obtain ⟨BM, hBM⟩ : ∃ l, bytes (X : Int) 0 0 FM ((X1 : Int) == 1) (b.drop 10) = l := ⟨_, rfl⟩
    rw [hBM] at hbc
    (try simp only [show ((0 : Nat) : Int) = 0 from rfl] at hbc)
    have hpy : BM = b → _ := fun h => HPy.out (hBM.trans h)
    have hpn : BM ≠ b → parse b = (zm, 9) := fun h => HPn.out (fun e => h (hBM.symm.trans e))
    have HD := Lib.hid ((show Byt w6 none 0 0 (b.drop 10) by rw [List.drop_eq_nil_of_le (by omega)]; exact Rd.nil_))
    have HFR : Hid (∀ ad : Addr, (none : Option Addr) = some ad → ad.block ≠ w.heap.size) := Lib.hid (fun ad e => by cases e)
    clear hBM
    by_cases hbm : BM = b
    · subst hbm
      have HP0 := Lib.hid (hpy rfl)
      clear hpy hpn
      refine wp_region_phi (by kernel_rfl) 6 none (fun _ => false) (fun i_ v wz => match i_ with
        | 0 => v = .agg #[.int .i64 (X : Int), .int .i64 0, .int .i64 0, .int .u64 (FM : Int), .bool ((X1 : Int) == 1), .slice none 0 0]
        | 1 => ∃ A2 n2 c2, v = .slice A2 n2 c2 ∧ Byt wz A2 n2 c2 BM
        | 2 => v = .string ⟨BM.toArray⟩
        | 3 => v = .slice (some ad) n c
        | 4 => v = .string ⟨BM.toArray⟩
        | 5 => v = .bool false
        | _ => True) (by kernel_rfl) ?_ ?_ ?_
      · (repeat' (first | exact allLt_zero | refine allLt_succ ?_ ?_))
        · exact fun _ _ _ h _ => h
        · intro v w1 w2 h hg
          rw [show kindRow _ _ = none from by kernel_rfl] at hg
          obtain ⟨A2, n2, c2, rfl, hr⟩ := h
          exact ⟨A2, n2, c2, rfl, hr.bel (bel_grown hg)⟩
        · exact fun _ _ _ h _ => h
        · exact fun _ _ _ h _ => h
        · exact fun _ _ _ h _ => h
        · exact fun _ _ _ h _ => h
      · (repeat' (first | exact allLt_zero | refine allLt_succ ?_ ?_))
        · intro a w' hf he
          have k5 : a.tmps.getD 5 undef = .pointer (some ⟨g5, 0, none⟩) := hf.var (by kernel_rfl) rfl
          rw [show kindRow _ _ = none from by kernel_rfl] at hf
          obtain ⟨q0, q1, q2, q3, q4, q5⟩ := Bx.cells6 ((hf.bel.block _ (heap_lt HX.out)).trans HX.out)
          refine wpOp_step rfl (fun K hK => ?_)
          go_simp
          exact hK _ _ ⟨_, rfl, rfl, World.grownBy.refl _ _⟩
        · intro a w' hf he
          have f0 : a.tmps.getD 95 undef = .agg #[.int .i64 (X : Int), .int .i64 0, .int .i64 0, .int .u64 (FM : Int), .bool ((X1 : Int) == 1), .slice none 0 0] := he 0 (by kernel_rfl)
          rw [show kindRow _ _ = none from by kernel_rfl] at hf
          refine wpOp_step rfl (fun K hK => ?_)
          go_simp
          (with_reducible refine (hbc _ (HD.out.bel hf.bel)).mono ?_)
          rintro e w2 ⟨A2, n2, c2, rfl, ho2, hb2⟩
          exact hK _ _ ⟨_, rfl, ⟨_, _, _, rfl, ho2⟩, grown_bel hb2⟩
        · intro a w' hf he
          obtain ⟨A1, n1, c1, hv1, hr1⟩ := he 1 (by kernel_rfl)
          have f1 : a.tmps.getD 96 undef = _ := hv1
          rw [show kindRow _ _ = none from by kernel_rfl] at hf
          have hcv := run_str (P := Try.prog) w' 23 9 5 A1 n1 c1 BM Try.underlying23 Try.underlying5 Try.underlying9 hr1
          refine wpOp_step rfl (fun K hK => ?_)
          go_simp
          exact hK _ _ ⟨_, rfl, rfl, World.grownBy.refl _ _⟩
        · intro a w' hf he
          have k0 : a.tmps.getD 0 undef = .slice (some ad) n c := hf.var (by kernel_rfl) rfl
          refine wpOp_step rfl (fun K hK => ?_)
          go_simp
          exact hK _ _ ⟨_, rfl, rfl, World.grownBy.refl _ _⟩
        · intro a w' hf he
          have f3 : a.tmps.getD 98 undef = .slice (some ad) n c := he 3 (by kernel_rfl)
          rw [show kindRow _ _ = none from by kernel_rfl] at hf
          have hcv := run_str (P := Try.prog) w' 23 9 5 (some ad) n c BM Try.underlying23 Try.underlying5 Try.underlying9 (Hb.out.below (HB.out.trans (hf.bel.mono HB.out.size)) (Nat.le_refl _))
          refine wpOp_step rfl (fun K hK => ?_)
          go_simp
          exact hK _ _ ⟨_, rfl, rfl, World.grownBy.refl _ _⟩
        · intro a w' hf he
          have f2 : a.tmps.getD 97 undef = .string ⟨BM.toArray⟩ := he 2 (by kernel_rfl)
          have f4 : a.tmps.getD 99 undef = .string ⟨BM.toArray⟩ := he 4 (by kernel_rfl)
          rw [show kindRow _ _ = none from by kernel_rfl] at hf
          refine wpOp_step rfl (fun K hK => ?_)
          go_simp
          exact hK _ _ ⟨_, rfl, by simp, World.grownBy.refl _ _⟩
      · intro a w' hf he
        obtain ⟨u95, f0⟩ : ∃ u, a.tmps.getD 95 undef = u := ⟨_, rfl⟩
        obtain ⟨u96, f1⟩ : ∃ u, a.tmps.getD 96 undef = u := ⟨_, rfl⟩
        obtain ⟨u97, f2⟩ : ∃ u, a.tmps.getD 97 undef = u := ⟨_, rfl⟩
        obtain ⟨u98, f3⟩ : ∃ u, a.tmps.getD 98 undef = u := ⟨_, rfl⟩
        obtain ⟨u99, f4⟩ : ∃ u, a.tmps.getD 99 undef = u := ⟨_, rfl⟩
        have f5 : a.tmps.getD 100 undef = .bool false := he 5 (by decide)
        have hlit := hf.lit ((95, u95) :: (96, u96) :: (97, u97) :: (98, u98) :: (99, u99) :: (100, .bool false) :: []) (by kernel_rfl) ⟨f0, f1, f2, f3, f4, f5, trivial⟩
        have hB := hf.bel
        clear he hf f0 f1 f2 f3 f4 f5 
        subst hlit
        simp only [putAll_nil, putAll_cons, Act.put, List.setIfInBounds_toArray, List.set_cons_zero, List.set_cons_succ]
        simp only [List.drop_succ_cons, List.drop_zero]
        replace HX := Lib.hid ((hB.block _ (heap_lt HX.out)).trans HX.out)
        replace HR := Lib.hid ((hB.block _ (heap_lt HR.out)).trans HR.out)
        replace HD := Lib.hid (HD.out.bel hB)
        replace HB := Lib.hid (HB.out.trans (hB.mono HB.out.size))
        obtain ⟨k0, k1, k2, k3, k4, k5⟩ := Bx.cells6 HX.out
        clear hB
        go_wp2_with (first
          | (refine Bx.wpL_store_all rfl rfl 42 (.tmp 2) (.tmp 102) rfl _ rfl _ rfl _ _ HR.out (by kernel_rfl) rfl (one6 _ _ _ _ _ _ _ _) ?_
             intro w9 x9 g9
             have HRR := Lib.hid x9
             have HBR := Lib.hid (HB.out.grown g9 HB.out.size (by rintro k ⟨⟩; exact Nat.le_refl _))
             have HG9 := Lib.hid g9
             clear x9 g9)
          | fail)
        refine bodyPost_ret (Bx.results_cell2 rfl _ _ w.heap.size _ _ (0, 0) _ rfl HRR.out Try.underlying42 rfl (by kernel_rfl) _ rfl) rfl ?_
        rw [HP0.out]
        exact ⟨none, 0, 0, rfl, HD.out.fr (Fr.grown (S := fun k => k = w.heap.size) HG9.out (by rintro k ⟨⟩; rfl)) HFR.out, HBR.out⟩
    · have HP0 := Lib.hid (hpn hbm)
      have hbm' : (BM == b) = false := by simpa using hbm
      clear hpy hpn
      refine wp_region_phi (by kernel_rfl) 6 none (fun _ => false) (fun i_ v wz => match i_ with
        | 0 => v = .agg #[.int .i64 (X : Int), .int .i64 0, .int .i64 0, .int .u64 (FM : Int), .bool ((X1 : Int) == 1), .slice none 0 0]
        | 1 => ∃ A2 n2 c2, v = .slice A2 n2 c2 ∧ Byt wz A2 n2 c2 BM
        | 2 => v = .string ⟨BM.toArray⟩
        | 3 => v = .slice (some ad) n c
        | 4 => v = .string ⟨b.toArray⟩
        | 5 => v = .bool true
        | _ => True) (by kernel_rfl) ?_ ?_ ?_
      · (repeat' (first | exact allLt_zero | refine allLt_succ ?_ ?_))
        · exact fun _ _ _ h _ => h
        · intro v w1 w2 h hg
          rw [show kindRow _ _ = none from by kernel_rfl] at hg
          obtain ⟨A2, n2, c2, rfl, hr⟩ := h
          exact ⟨A2, n2, c2, rfl, hr.bel (bel_grown hg)⟩
        · exact fun _ _ _ h _ => h
        · exact fun _ _ _ h _ => h
        · exact fun _ _ _ h _ => h
        · exact fun _ _ _ h _ => h
      · (repeat' (first | exact allLt_zero | refine allLt_succ ?_ ?_))
        · intro a w' hf he
          have k5 : a.tmps.getD 5 undef = .pointer (some ⟨g5, 0, none⟩) := hf.var (by kernel_rfl) rfl
          rw [show kindRow _ _ = none from by kernel_rfl] at hf
          obtain ⟨q0, q1, q2, q3, q4, q5⟩ := Bx.cells6 ((hf.bel.block _ (heap_lt HX.out)).trans HX.out)
          refine wpOp_step rfl (fun K hK => ?_)
          go_simp
          exact hK _ _ ⟨_, rfl, rfl, World.grownBy.refl _ _⟩
        · intro a w' hf he
          have f0 : a.tmps.getD 95 undef = .agg #[.int .i64 (X : Int), .int .i64 0, .int .i64 0, .int .u64 (FM : Int), .bool ((X1 : Int) == 1), .slice none 0 0] := he 0 (by kernel_rfl)
          rw [show kindRow _ _ = none from by kernel_rfl] at hf
          refine wpOp_step rfl (fun K hK => ?_)
          go_simp
          (with_reducible refine (hbc _ (HD.out.bel hf.bel)).mono ?_)
          rintro e w2 ⟨A2, n2, c2, rfl, ho2, hb2⟩
          exact hK _ _ ⟨_, rfl, ⟨_, _, _, rfl, ho2⟩, grown_bel hb2⟩
        · intro a w' hf he
          obtain ⟨A1, n1, c1, hv1, hr1⟩ := he 1 (by kernel_rfl)
          have f1 : a.tmps.getD 96 undef = _ := hv1
          rw [show kindRow _ _ = none from by kernel_rfl] at hf
          have hcv := run_str (P := Try.prog) w' 23 9 5 A1 n1 c1 BM Try.underlying23 Try.underlying5 Try.underlying9 hr1
          refine wpOp_step rfl (fun K hK => ?_)
          go_simp
          exact hK _ _ ⟨_, rfl, rfl, World.grownBy.refl _ _⟩
        · intro a w' hf he
          have k0 : a.tmps.getD 0 undef = .slice (some ad) n c := hf.var (by kernel_rfl) rfl
          refine wpOp_step rfl (fun K hK => ?_)
          go_simp
          exact hK _ _ ⟨_, rfl, rfl, World.grownBy.refl _ _⟩
        · intro a w' hf he
          have f3 : a.tmps.getD 98 undef = .slice (some ad) n c := he 3 (by kernel_rfl)
          rw [show kindRow _ _ = none from by kernel_rfl] at hf
          have hcv := run_str (P := Try.prog) w' 23 9 5 (some ad) n c b Try.underlying23 Try.underlying5 Try.underlying9 (Hb.out.below (HB.out.trans (hf.bel.mono HB.out.size)) (Nat.le_refl _))
          refine wpOp_step rfl (fun K hK => ?_)
          go_simp
          exact hK _ _ ⟨_, rfl, rfl, World.grownBy.refl _ _⟩
        · intro a w' hf he
          have f2 : a.tmps.getD 97 undef = .string ⟨BM.toArray⟩ := he 2 (by kernel_rfl)
          have f4 : a.tmps.getD 99 undef = .string ⟨b.toArray⟩ := he 4 (by kernel_rfl)
          rw [show kindRow _ _ = none from by kernel_rfl] at hf
          refine wpOp_step rfl (fun K hK => ?_)
          go_simp
          exact hK _ _ ⟨_, rfl, by simp [bne, hbm'], World.grownBy.refl _ _⟩
      · intro a w' hf he
        obtain ⟨u95, f0⟩ : ∃ u, a.tmps.getD 95 undef = u := ⟨_, rfl⟩
        obtain ⟨u96, f1⟩ : ∃ u, a.tmps.getD 96 undef = u := ⟨_, rfl⟩
        obtain ⟨u97, f2⟩ : ∃ u, a.tmps.getD 97 undef = u := ⟨_, rfl⟩
        obtain ⟨u98, f3⟩ : ∃ u, a.tmps.getD 98 undef = u := ⟨_, rfl⟩
        obtain ⟨u99, f4⟩ : ∃ u, a.tmps.getD 99 undef = u := ⟨_, rfl⟩
        have f5 : a.tmps.getD 100 undef = .bool true := he 5 (by decide)
        have hlit := hf.lit ((95, u95) :: (96, u96) :: (97, u97) :: (98, u98) :: (99, u99) :: (100, .bool true) :: []) (by kernel_rfl) ⟨f0, f1, f2, f3, f4, f5, trivial⟩
        have hB := hf.bel
        clear he hf f0 f1 f2 f3 f4 f5 
        subst hlit
        simp only [putAll_nil, putAll_cons, Act.put, List.setIfInBounds_toArray, List.set_cons_zero, List.set_cons_succ]
        simp only [List.drop_succ_cons, List.drop_zero]
        replace HR := Lib.hid ((hB.block _ (heap_lt HR.out)).trans HR.out)
        replace HB := Lib.hid (HB.out.trans (hB.mono HB.out.size))
        clear hB
        go_wp2_with (first
          | (refine Bx.wpL_store_all rfl rfl 42 (.tmp 2) (.tmp 101) rfl _ rfl _ rfl _ _ HR.out (by kernel_rfl) rfl (one6 _ _ _ _ _ _ _ _) ?_
             intro w9 x9 g9
             have HRR := Lib.hid x9
             have HBR := Lib.hid (HB.out.grown g9 HB.out.size (by rintro k ⟨⟩; exact Nat.le_refl _))
             clear x9 g9)
          | fail)
        refine bodyPost_ret (Bx.results_cell2 rfl _ _ w.heap.size _ _ (0, 0) _ rfl HRR.out Try.underlying42 rfl (by kernel_rfl) _ rfl) rfl ?_
        rw [HP0.out]
        exact ⟨none, 0, 0, rfl, Rd.nil_, HBR.out⟩
end Go.Proofs.Ytdpggcpbgfancaa.Pack
