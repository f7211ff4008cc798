/- The law DataKeeps, walked. Conditions: none. -/
import Derived.Test.YtlfphoablloodaaDataNone
namespace Go.Proofs.Ytlfphoablloodaa.Data
open Go.RowKit Tw Disk
set_option maxHeartbeats 8000000
set_option maxRecDepth 100000

theorem act_cells0 {w : World} {g : Nat} {t : TypeId} {v0 v1 v2 v3 v4 v5 : Value} (h : w.heap[g]? = some (.cells #[v0, v1, v2, v3, v4, v5] t (0, 0))) :
    w.cell? ⟨g, 3, none⟩ = some v3 ∧ w.cell? ⟨g, 4, none⟩ = some v4 ∧ w.cell? ⟨g, 5, none⟩ = some v5 := ⟨cells_of h 3 _ rfl, cells_of h 4 _ rfl, cells_of h 5 _ rfl⟩
theorem byt_off {w : World} {A : Option Addr} {n c p mb : Nat} {b : List UInt8} (h : Byt w A n c b) (hp : w.heap.size ≤ p) (hm : w.heap.size ≤ mb) : ∀ ad, A = some ad → 0 < n → ad.block ≠ p ∧ ad.block ≠ mb := fun ad e hn => by
  obtain ⟨ad2, x, e2, _, hc⟩ := h.at1 hn
  rw [e] at e2
  injection e2 with e2
  subst e2
  have h2 := block_lt_of_cell hc
  rw [block_add] at h2
  omega
theorem fine_dWrite' {d : Dsk} (h : Fine d) (ho : d.ops + 1024 < 1000000000) (x y : Int) (b : List UInt8) : Fine (dWrite d x y b).1 ∧ (dWrite d x y b).1.cells.length = d.cells.length ∧ (dWrite d x y b).1.ops ≤ d.ops + 1024 := by
  rcases fine_dWrite h ho x y b with ⟨_, h2⟩ | ⟨_, o, L, _, _, _, _, h1, h2, h3, _⟩
  · rw [h2]
    exact ⟨h, rfl, by omega⟩
  · exact ⟨h1, h2, h3⟩

theorem w_DataKeeps (k a : Int) (m : Nat) (x y : Int) (A : Option Addr) (n cb : Nat) (b : List UInt8) (k' a' : Int) (m' : Nat) (x' y' : Int) (A' : Option Addr) (n' cb' : Nat) (b' : List UInt8) (w : World) (hb : Byt w A n cb b) (hb' : Byt w A' n' cb' b') :
    Calls Try.prog 16 #[.agg #[.int .i64 k, .int .i64 a, .int .u64 (m : Int), .int .i64 x, .int .i64 y, .slice A n cb], .agg #[.int .i64 k', .int .i64 a', .int .u64 (m' : Int), .int .i64 x', .int .i64 y', .slice A' n' cb']] w fun e w' => e = .returned (.bool true) ∧ Below w.heap.size w w' := by
  have HB := Lib.hid (((Below.refl w.heap.size w).alloc (Nat.le_refl _) (.cells #[.int .i64 k, .int .i64 a, .int .u64 (m : Int), .int .i64 x, .int .i64 y, .slice A n cb] 121)).alloc (by simp) (.cells #[.int .i64 k', .int .i64 a', .int .u64 (m' : Int), .int .i64 x', .int .i64 y', .slice A' n' cb'] 121))
  have hx0 := heap_alloc_new w (.cells #[.int .i64 k, .int .i64 a, .int .u64 (m : Int), .int .i64 x, .int .i64 y, .slice A n cb] 121)
  have hx2 := heap_alloc_new (w.alloc (.cells #[.int .i64 k, .int .i64 a, .int .u64 (m : Int), .int .i64 x, .int .i64 y, .slice A n cb] 121)) (.cells #[.int .i64 k', .int .i64 a', .int .u64 (m' : Int), .int .i64 x', .int .i64 y', .slice A' n' cb'] 121)
  have hx1 := (Below.heap_alloc (w.alloc (.cells #[.int .i64 k, .int .i64 a, .int .u64 (m : Int), .int .i64 x, .int .i64 y, .slice A n cb] 121)) (.cells #[.int .i64 k', .int .i64 a', .int .u64 (m' : Int), .int .i64 x', .int .i64 y', .slice A' n' cb'] 121) _ (heap_lt hx0)).trans hx0
  rw [World.size_alloc] at hx2
  have HX := Lib.hid hx1
  have HY := Lib.hid hx2
  have Hb := Lib.hid hb
  have Hb' := Lib.hid hb'
  clear hx0 hx1 hx2 hb hb'
  go_enter Try.func16, Try.ntmps16
  by_cases hn : 400 < n
  · go_wp2_with (first
      | (go_at_call 75
         (with_reducible refine (c_lives _).mono ?_)
         rintro e w1 ⟨rfl, hb⟩
         have HB := Lib.hid (HB.out.trans (hb.mono HB.out.size))
         clear hb))
    go_ret
    exact ⟨rfl, HB.out⟩
  · have hd1 : decide (400 < (n : Int)) = false := by simp; omega
    by_cases hn' : 400 < n'
    · go_wp2_with (first
        | (go_at_call 75
           (with_reducible refine (c_lives _).mono ?_)
           rintro e w1 ⟨rfl, hb⟩
           have HB := Lib.hid (HB.out.trans (hb.mono HB.out.size))
           clear hb))
      go_ret
      exact ⟨rfl, HB.out⟩
    · have hd2 : decide (400 < (n' : Int)) = false := by simp; omega
      obtain ⟨k3, k4, k5⟩ := act_cells0 HX.out
      obtain ⟨l3, l4, l5⟩ := act_cells0 HY.out
      go_upto_region 1 with (fail)
      have hW0 : w.heap.size + 1 < ((w.alloc (.cells #[.int .i64 k, .int .i64 a, .int .u64 (m : Int), .int .i64 x, .int .i64 y, .slice A n cb] 121)).alloc (.cells #[.int .i64 k', .int .i64 a', .int .u64 (m' : Int), .int .i64 x', .int .i64 y', .slice A' n' cb'] 121)).heap.size := by simp
      generalize ((w.alloc (.cells #[.int .i64 k, .int .i64 a, .int .u64 (m : Int), .int .i64 x, .int .i64 y, .slice A n cb] 121)).alloc (.cells #[.int .i64 k', .int .i64 a', .int .u64 (m' : Int), .int .i64 x', .int .i64 y', .slice A' n' cb'] 121)) = W0 at *
      have hf0 := fine_new (n := 20) (by omega) (by omega)
      have ho0 : (Dsk.new 20).ops + 1024 < 1000000000 := by simp [Dsk.new]
      have hn0 : (Dsk.new 20).cells.length = 20 := by simp [Dsk.new]
      have ho00 : (Dsk.new 20).ops = 0 := rfl
      obtain ⟨hf1, hn1, ho1⟩ := fine_dWrite' hf0 ho0 x y b
      rw [hn0] at hn1
      obtain ⟨d1, hr1⟩ : ∃ r, (dWrite (Dsk.new 20) x y b).1 = r := ⟨_, rfl⟩
      rw [hr1] at hf1 hn1 ho1
      have ho1' : d1.ops + 1024 < 1000000000 := by omega
      obtain ⟨hf2, hn2, -⟩ := fine_dWrite' hf1 ho1' x' y' b'
      have hcase := fine_dWrite hf1 ho1' x' y' b'
      obtain ⟨⟨d2, e2⟩, hr2⟩ : ∃ r, dWrite d1 x' y' b' = r := ⟨_, rfl⟩
      rw [hr2] at hf2 hn2 hcase
      simp only at hf2 hn2 hcase
      have hal1 := area_len hf1.ok
      have hal2 := area_len hf2.ok
      rw [hn1] at hal1 hn2
      rw [hn2] at hal2
      have h81 : 8 < d1.cells.length := by omega
      have h82 : 8 < d2.cells.length := by omega
      have Ho0 := Lib.hid ho0
      have Ho1 := Lib.hid ho1'
      have Hf1 := Lib.hid hf1
      have Hf2 := Lib.hid hf2
      have Hr1 := Lib.hid hr1
      have Hr2 := Lib.hid hr2
      have Ha1 := Lib.hid hal1
      have Ha2 := Lib.hid hal2
      have Hn1 := Lib.hid hn1
      have Hn2 := Lib.hid hn2
      have H81 := Lib.hid h81
      have H82 := Lib.hid h82
      have Hcase := Lib.hid hcase
      clear hf0 ho0 hn0 ho00 hf1 hn1 ho1 hr1 ho1' hf2 hn2 hcase hr2 hal1 hal2 h81 h82
      -- the walk up to the test of the second write's error
      go_upto_region 10 with (first
        | (go_at_call 76
           (with_reducible refine (c_dNewI 20 20 rfl _ (by omega) (by omega)).mono ?_)
           rintro e w1 ⟨p, g, mb, rfl, hk, hge, hb1⟩
           have HX := Lib.hid ((hb1.block _ (heap_lt HX.out)).trans HX.out)
           have HY := Lib.hid ((hb1.block _ (heap_lt HY.out)).trans HY.out)
           have HB := Lib.hid (HB.out.trans (hb1.mono HB.out.size))
           have HK := Lib.hid hk
           have HbA := Lib.hid (Hb.out.bel HB.out)
           have hsz0 := HB.out.size
           clear k3 k4 k5 l3 l4 l5
           obtain ⟨k3, k4, k5⟩ := act_cells0 HX.out
           have HA := Lib.hid (byt_off (p := p) (mb := mb) Hb.out (by omega) (by omega))
           have HA' := Lib.hid (byt_off (p := p) (mb := mb) Hb'.out (by omega) (by omega))
           clear hb1 hk)
        | (go_at_call 77
           (with_reducible refine (c_Write HK.out Ho0.out x y A n cb b HbA.out HA.out).mono ?_)
           rintro e w2 ⟨rfl, h2, f2⟩
           rw [Hr1.out] at h2
           have HX := Lib.hid (heap_fr HX.out f2 (by omega))
           have HY := Lib.hid (heap_fr HY.out f2 (by omega))
           have HB := Lib.hid (HB.out.trans (f2.bel (fun k e => by omega) HB.out.size))
           have HK := Lib.hid h2
           clear k3 k4 k5 h2 f2 HbA HA)
        | (go_at_call 78
           (with_reducible refine (c_Image (d := d1) HK.out Hf1.out H81.out).mono ?_)
           rintro e w3 ⟨A1, c1, rfl, ho1, hb1⟩
           rw [Ha1.out] at ho1 ⊢
           have HX := Lib.hid ((hb1.block _ (heap_lt HX.out)).trans HX.out)
           have HY := Lib.hid ((hb1.block _ (heap_lt HY.out)).trans HY.out)
           have HP := Lib.hid HK.out.lts
           have HB := Lib.hid (HB.out.trans (hb1.mono HB.out.size))
           have HK := Lib.hid (HK.out.bel hb1)
           have O1 := Lib.hid ho1
           have HbB := Lib.hid (Hb'.out.bel HB.out)
           obtain ⟨k3, k4, k5⟩ := act_cells0 HY.out
           clear hb1 ho1)
        | (go_at_call 77
           (with_reducible refine (c_Write (d := d1) HK.out Ho1.out x' y' A' n' cb' b' HbB.out HA'.out).mono ?_)
           rintro e w4 ⟨rfl, h4, f4⟩
           rw [Hr2.out] at h4 ⊢
           have HY := Lib.hid (heap_fr HY.out f4 (by omega))
           have HB := Lib.hid (HB.out.trans (f4.bel (fun k e => by omega) HB.out.size))
           have O1 := Lib.hid (O1.out.fr f4 (fun ad e => by have := (O1.out.at0 ad e).1; have := HP.out; omega))
           have HK := Lib.hid h4
           clear k3 k4 k5 h4 f4 HbB HA')
        | (go_at_call 78
           (with_reducible refine (c_Image (d := d2) HK.out Hf2.out H82.out).mono ?_)
           rintro e w5 ⟨A2, c2, rfl, ho2, hb2⟩
           rw [Ha2.out] at ho2 ⊢
           have HY := Lib.hid ((hb2.block _ (heap_lt HY.out)).trans HY.out)
           have HB := Lib.hid (HB.out.trans (hb2.mono HB.out.size))
           have O1 := Lib.hid (Tw.Own.bel O1.out hb2).rd
           have O2 := Lib.hid ho2.rd
           clear hb2 ho2))
      have O1' : Hid (Byt w5 A1 192 c1 (area d1)) := O1
      have O2' : Hid (Byt w5 A2 192 c2 (area d2)) := O2
      have hle1 := O1'.out.le
      have hle2 := O2'.out.le
      rcases Hcase.out with ⟨he2, hdd⟩ | ⟨he2, o, L, hxo, hyL, hol, hbl, -, -, -, hv⟩
      · have hne : ((e2 : Int) != 0) = true := by simp; omega
        have s1 := run_str (P := Try.prog) w5 22 9 5 A1 192 c1 (area d1) Try.underlying22 Try.underlying5 Try.underlying9 O1'.out
        have s2 := run_str (P := Try.prog) w5 22 9 5 A2 192 c2 (area d2) Try.underlying22 Try.underlying5 Try.underlying9 O2'.out
        rw [hdd] at s2
        clear Hcase hdd he2 hle1 hle2
        go_wp2_with (first
          | (go_at_call 75
             (with_reducible refine (c_lives _).mono ?_)
             rintro e w9 ⟨rfl, hb⟩
             have HB := Lib.hid (HB.out.trans (hb.mono HB.out.size))
             clear hb))
        go_ret
        exact ⟨rfl, HB.out⟩
      · subst he2 hxo hyL
        rw [Hn1.out] at hol
        have hkp := keeps_plain Hf1.out Hf2.out (by rw [Hn1.out, Hn2.out]) (by rw [Hn1.out]; exact hol) hbl hv
        obtain ⟨F, hF⟩ : ∃ F, 16 * o = F := ⟨_, rfl⟩
        obtain ⟨T, hT⟩ : ∃ T, 16 * (o + L) = T := ⟨_, rfl⟩
        rw [hF, hT] at hkp
        have hFT : F ≤ T := by omega
        have hT2 : T ≤ 192 := by omega
        have hFi : 16 * (o : Int) = (F : Int) := by omega
        have hTi : (F : Int) + 16 * (L : Int) = (T : Int) := by omega
        have HFi := Lib.hid hFi
        have HTi := Lib.hid hTi
        have Hk := Lib.hid hkp
        obtain ⟨k3, k4, k5⟩ := act_cells0 HY.out
        have K3 := Lib.hid k3
        have K4 := Lib.hid k4
        have K5 := Lib.hid k5
        have Hb5 : Hid (Byt w5 A' n' cb' b') := Lib.hid (Hb'.out.bel HB.out)
        clear Hcase hF hT hbl hv hkp hFi hTi k3 k4 k5
        go_wp2_with fail
        refine wp_region_phi (by kernel_rfl) 15 none (fun _ => false) (fun i_ v wz => match i_ with
          | 0 => v = .pointer (some ⟨w.heap.size + 1, 3, none⟩)
          | 1 => v = .pointer (some ⟨w.heap.size + 1, 3, none⟩)
          | 2 => v = .int .i64 (o : Int)
          | 3 => v = .int .i64 (F : Int)
          | 4 => v = .pointer (some ⟨w.heap.size + 1, 3, none⟩)
          | 5 => v = .pointer (some ⟨w.heap.size + 1, 3, none⟩)
          | 6 => v = .int .i64 (o : Int)
          | 7 => v = .int .i64 (F : Int)
          | 8 => v = .pointer (some ⟨w.heap.size + 1, 3, none⟩)
          | 9 => v = .pointer (some ⟨w.heap.size + 1, 4, none⟩)
          | 10 => v = .int .i64 (L : Int)
          | 11 => v = .int .i64 (16 * (L : Int))
          | 12 => v = .int .i64 (T : Int)
          | 13 => v = .int .i64 (F : Int)
          | 14 => v = .int .i64 (T : Int)
          | _ => True) (by kernel_rfl) ?_ ?_ ?_
        · (repeat' (first | exact allLt_zero | refine allLt_succ ?_ ?_))
          · exact fun _ _ _ h _ => h
          · exact fun _ _ _ h _ => h
          · exact fun _ _ _ h _ => h
          · exact fun _ _ _ h _ => h
          · exact fun _ _ _ h _ => h
          · exact fun _ _ _ h _ => h
          · exact fun _ _ _ h _ => h
          · exact fun _ _ _ h _ => h
          · exact fun _ _ _ h _ => h
          · exact fun _ _ _ h _ => h
          · exact fun _ _ _ h _ => h
          · exact fun _ _ _ h _ => h
          · exact fun _ _ _ h _ => h
          · exact fun _ _ _ h _ => h
          · exact fun _ _ _ h _ => h
        · (repeat' (first | exact allLt_zero | refine allLt_succ ?_ ?_))
          · intro a w' hf he
            have k3 : a.tmps.getD 3 undef = .pointer (some ⟨w.heap.size + 1, 0, none⟩) := hf.var (by kernel_rfl) rfl
            refine wpOp_step rfl (fun K hK => ?_)
            go_simp
            exact hK _ _ ⟨_, rfl, rfl, World.grownBy.refl _ _⟩
          · intro a w' hf he
            have f0 : a.tmps.getD 61 undef = .pointer (some ⟨w.heap.size + 1, 3, none⟩) := he 0 (by kernel_rfl)
            refine wpOp_step rfl (fun K hK => ?_)
            go_simp
            exact hK _ _ ⟨_, rfl, rfl, World.grownBy.refl _ _⟩
          · intro a w' hf he
            have f1 : a.tmps.getD 62 undef = .pointer (some ⟨w.heap.size + 1, 3, none⟩) := he 1 (by kernel_rfl)
            rw [show kindRow _ _ = none from by kernel_rfl] at hf
            have dd := (hf.bel.cell (block_lt_of_cell K3.out)).trans K3.out
            refine wpOp_step rfl (fun K hK => ?_)
            go_simp
            exact hK _ _ ⟨_, rfl, rfl, World.grownBy.refl _ _⟩
          · intro a w' hf he
            have f2 : a.tmps.getD 63 undef = .int .i64 (o : Int) := he 2 (by kernel_rfl)
            rw [show kindRow _ _ = none from by kernel_rfl] at hf
            refine wpOp_step rfl (fun K hK => ?_)
            go_simp
            rw [show IntKind.i64.wrap (16 * (o : Int)) = (F : Int) from by rw [IntKind.wrap_i64, HFi.out]; omega]
            exact hK _ _ ⟨_, rfl, rfl, World.grownBy.refl _ _⟩
          · intro a w' hf he
            have k3 : a.tmps.getD 3 undef = .pointer (some ⟨w.heap.size + 1, 0, none⟩) := hf.var (by kernel_rfl) rfl
            refine wpOp_step rfl (fun K hK => ?_)
            go_simp
            exact hK _ _ ⟨_, rfl, rfl, World.grownBy.refl _ _⟩
          · intro a w' hf he
            have f4 : a.tmps.getD 65 undef = .pointer (some ⟨w.heap.size + 1, 3, none⟩) := he 4 (by kernel_rfl)
            refine wpOp_step rfl (fun K hK => ?_)
            go_simp
            exact hK _ _ ⟨_, rfl, rfl, World.grownBy.refl _ _⟩
          · intro a w' hf he
            have f5 : a.tmps.getD 66 undef = .pointer (some ⟨w.heap.size + 1, 3, none⟩) := he 5 (by kernel_rfl)
            rw [show kindRow _ _ = none from by kernel_rfl] at hf
            have dd := (hf.bel.cell (block_lt_of_cell K3.out)).trans K3.out
            refine wpOp_step rfl (fun K hK => ?_)
            go_simp
            exact hK _ _ ⟨_, rfl, rfl, World.grownBy.refl _ _⟩
          · intro a w' hf he
            have f6 : a.tmps.getD 67 undef = .int .i64 (o : Int) := he 6 (by kernel_rfl)
            rw [show kindRow _ _ = none from by kernel_rfl] at hf
            refine wpOp_step rfl (fun K hK => ?_)
            go_simp
            rw [show IntKind.i64.wrap (16 * (o : Int)) = (F : Int) from by rw [IntKind.wrap_i64, HFi.out]; omega]
            exact hK _ _ ⟨_, rfl, rfl, World.grownBy.refl _ _⟩
          · intro a w' hf he
            have k3 : a.tmps.getD 3 undef = .pointer (some ⟨w.heap.size + 1, 0, none⟩) := hf.var (by kernel_rfl) rfl
            refine wpOp_step rfl (fun K hK => ?_)
            go_simp
            exact hK _ _ ⟨_, rfl, rfl, World.grownBy.refl _ _⟩
          · intro a w' hf he
            have f8 : a.tmps.getD 69 undef = .pointer (some ⟨w.heap.size + 1, 3, none⟩) := he 8 (by kernel_rfl)
            refine wpOp_step rfl (fun K hK => ?_)
            go_simp
            exact hK _ _ ⟨_, rfl, rfl, World.grownBy.refl _ _⟩
          · intro a w' hf he
            have f9 : a.tmps.getD 70 undef = .pointer (some ⟨w.heap.size + 1, 4, none⟩) := he 9 (by kernel_rfl)
            rw [show kindRow _ _ = none from by kernel_rfl] at hf
            have dd := (hf.bel.cell (block_lt_of_cell K4.out)).trans K4.out
            refine wpOp_step rfl (fun K hK => ?_)
            go_simp
            exact hK _ _ ⟨_, rfl, rfl, World.grownBy.refl _ _⟩
          · intro a w' hf he
            have f10 : a.tmps.getD 71 undef = .int .i64 (L : Int) := he 10 (by kernel_rfl)
            rw [show kindRow _ _ = none from by kernel_rfl] at hf
            refine wpOp_step rfl (fun K hK => ?_)
            go_simp
            rw [show IntKind.i64.wrap (16 * (L : Int)) = 16 * (L : Int) from by rw [IntKind.wrap_i64]; have := HTi.out; omega]
            exact hK _ _ ⟨_, rfl, rfl, World.grownBy.refl _ _⟩
          · intro a w' hf he
            have f7 : a.tmps.getD 68 undef = .int .i64 (F : Int) := he 7 (by kernel_rfl)
            have f11 : a.tmps.getD 72 undef = .int .i64 (16 * (L : Int)) := he 11 (by kernel_rfl)
            rw [show kindRow _ _ = none from by kernel_rfl] at hf
            refine wpOp_step rfl (fun K hK => ?_)
            go_simp
            rw [show IntKind.i64.wrap ((F : Int) + 16 * (L : Int)) = (T : Int) from by rw [IntKind.wrap_i64, HTi.out]; omega]
            exact hK _ _ ⟨_, rfl, rfl, World.grownBy.refl _ _⟩
          · intro a w' hf he
            have f3 : a.tmps.getD 64 undef = .int .i64 (F : Int) := he 3 (by kernel_rfl)
            refine wpOp_step rfl (fun K hK => ?_)
            go_simp
            exact hK _ _ ⟨_, rfl, rfl, World.grownBy.refl _ _⟩
          · intro a w' hf he
            have f12 : a.tmps.getD 73 undef = .int .i64 (T : Int) := he 12 (by kernel_rfl)
            refine wpOp_step rfl (fun K hK => ?_)
            go_simp
            exact hK _ _ ⟨_, rfl, rfl, World.grownBy.refl _ _⟩
        · intro a w' hf he
          obtain ⟨u61, f0⟩ : ∃ u, a.tmps.getD 61 undef = u := ⟨_, rfl⟩
          obtain ⟨u62, f1⟩ : ∃ u, a.tmps.getD 62 undef = u := ⟨_, rfl⟩
          obtain ⟨u63, f2⟩ : ∃ u, a.tmps.getD 63 undef = u := ⟨_, rfl⟩
          obtain ⟨u64, f3⟩ : ∃ u, a.tmps.getD 64 undef = u := ⟨_, rfl⟩
          obtain ⟨u65, f4⟩ : ∃ u, a.tmps.getD 65 undef = u := ⟨_, rfl⟩
          obtain ⟨u66, f5⟩ : ∃ u, a.tmps.getD 66 undef = u := ⟨_, rfl⟩
          obtain ⟨u67, f6⟩ : ∃ u, a.tmps.getD 67 undef = u := ⟨_, rfl⟩
          obtain ⟨u68, f7⟩ : ∃ u, a.tmps.getD 68 undef = u := ⟨_, rfl⟩
          obtain ⟨u69, f8⟩ : ∃ u, a.tmps.getD 69 undef = u := ⟨_, rfl⟩
          obtain ⟨u70, f9⟩ : ∃ u, a.tmps.getD 70 undef = u := ⟨_, rfl⟩
          obtain ⟨u71, f10⟩ : ∃ u, a.tmps.getD 71 undef = u := ⟨_, rfl⟩
          obtain ⟨u72, f11⟩ : ∃ u, a.tmps.getD 72 undef = u := ⟨_, rfl⟩
          obtain ⟨u73, f12⟩ : ∃ u, a.tmps.getD 73 undef = u := ⟨_, rfl⟩
          have f13 : a.tmps.getD 10 undef = .int .i64 (F : Int) := he 13 (by decide)
          have f14 : a.tmps.getD 11 undef = .int .i64 (T : Int) := he 14 (by decide)
          have hlit := hf.lit ((61, u61) :: (62, u62) :: (63, u63) :: (64, u64) :: (65, u65) :: (66, u66) :: (67, u67) :: (68, u68) :: (69, u69) :: (70, u70) :: (71, u71) :: (72, u72) :: (73, u73) :: (10, .int .i64 (F : Int)) :: (11, .int .i64 (T : Int)) :: []) (by kernel_rfl) ⟨f0, f1, f2, f3, f4, f5, f6, f7, f8, f9, f10, f11, f12, f13, f14, trivial⟩
          have hB := hf.bel
          clear he hf f0 f1 f2 f3 f4 f5 f6 f7 f8 f9 f10 f11 f12 f13 f14 
          subst hlit
          simp only [putAll_nil, putAll_cons, Act.put, List.setIfInBounds_toArray, List.set_cons_zero, List.set_cons_succ]
          simp only [List.drop_succ_cons, List.drop_zero]
          have O1' := Lib.hid (O1'.out.bel hB)
          have O2' := Lib.hid (O2'.out.bel hB)
          have Hb5 := Lib.hid (Hb5.out.bel hB)
          have K5 := Lib.hid ((hB.cell (block_lt_of_cell K5.out)).trans K5.out)
          have HB := Lib.hid (HB.out.trans (hB.mono HB.out.size))
          clear hB HX HY HK O1 O2
          go_wp2_with fail
          refine wp_region_phi (by kernel_rfl) 35 none (fun _ => false) (fun i_ v wz => match i_ with
            | 0 => v = .slice A2 192 c2
            | 1 => v = .int .i64 (F : Int)
            | 2 => v = .int .i64 (T : Int)
            | 3 => ∃ A3 c3, v = .slice A3 (T - F) c3 ∧ Byt wz A3 (T - F) c3 b'
            | 4 => v = .string ⟨b'.toArray⟩
            | 5 => v = .pointer (some ⟨w.heap.size + 1, 5, none⟩)
            | 6 => v = .slice A' n' cb'
            | 7 => v = .string ⟨b'.toArray⟩
            | 8 => v = .bool true
            | 9 => v = .bool true
            | 10 => v = .slice A2 192 c2
            | 11 => v = .int .i64 (F : Int)
            | 12 => v = .slice A2 F c2
            | 13 => v = .string ⟨((area d1).take F).toArray⟩
            | 14 => v = .slice A1 192 c1
            | 15 => v = .int .i64 (F : Int)
            | 16 => v = .slice A1 F c1
            | 17 => v = .string ⟨((area d1).take F).toArray⟩
            | 18 => v = .bool true
            | 19 => v = .bool true
            | 20 => v = .bool true
            | 21 => v = .slice A2 192 c2
            | 22 => v = .int .i64 (T : Int)
            | 23 => ∃ A3 c3, v = .slice A3 (192 - T) c3 ∧ Byt wz A3 (192 - T) c3 ((area d2).drop T)
            | 24 => v = .string ⟨((area d1).drop T).toArray⟩
            | 25 => v = .slice A1 192 c1
            | 26 => v = .int .i64 (T : Int)
            | 27 => ∃ A3 c3, v = .slice A3 (192 - T) c3 ∧ Byt wz A3 (192 - T) c3 ((area d1).drop T)
            | 28 => v = .string ⟨((area d1).drop T).toArray⟩
            | 29 => v = .bool true
            | 30 => v = .bool true
            | 31 => v = .bool true
            | 32 => v = .bool true
            | 33 => v = .bool true
            | 34 => v = .bool true
            | _ => True) (by kernel_rfl) ?_ ?_ ?_
          · (repeat' (first | exact allLt_zero | refine allLt_succ ?_ ?_))
            · exact fun _ _ _ h _ => h
            · exact fun _ _ _ h _ => h
            · exact fun _ _ _ h _ => h
            · intro v w1 w2 h hg
              rw [show kindRow _ _ = none from by kernel_rfl] at hg
              obtain ⟨A3, c3, rfl, hr⟩ := h
              exact ⟨A3, c3, rfl, hr.bel (bel_grown hg)⟩
            · exact fun _ _ _ h _ => h
            · exact fun _ _ _ h _ => h
            · exact fun _ _ _ h _ => h
            · exact fun _ _ _ h _ => h
            · exact fun _ _ _ h _ => h
            · exact fun _ _ _ h _ => h
            · exact fun _ _ _ h _ => h
            · exact fun _ _ _ h _ => h
            · exact fun _ _ _ h _ => h
            · exact fun _ _ _ h _ => h
            · exact fun _ _ _ h _ => h
            · exact fun _ _ _ h _ => h
            · exact fun _ _ _ h _ => h
            · exact fun _ _ _ h _ => h
            · exact fun _ _ _ h _ => h
            · exact fun _ _ _ h _ => h
            · exact fun _ _ _ h _ => h
            · exact fun _ _ _ h _ => h
            · exact fun _ _ _ h _ => h
            · intro v w1 w2 h hg
              rw [show kindRow _ _ = none from by kernel_rfl] at hg
              obtain ⟨A3, c3, rfl, hr⟩ := h
              exact ⟨A3, c3, rfl, hr.bel (bel_grown hg)⟩
            · exact fun _ _ _ h _ => h
            · exact fun _ _ _ h _ => h
            · exact fun _ _ _ h _ => h
            · intro v w1 w2 h hg
              rw [show kindRow _ _ = none from by kernel_rfl] at hg
              obtain ⟨A3, c3, rfl, hr⟩ := h
              exact ⟨A3, c3, rfl, hr.bel (bel_grown hg)⟩
            · exact fun _ _ _ h _ => h
            · exact fun _ _ _ h _ => h
            · exact fun _ _ _ h _ => h
            · exact fun _ _ _ h _ => h
            · exact fun _ _ _ h _ => h
            · exact fun _ _ _ h _ => h
            · exact fun _ _ _ h _ => h
          · (repeat' (first | exact allLt_zero | refine allLt_succ ?_ ?_))
            · intro a w' hf he
              have k9 : a.tmps.getD 9 undef = .slice A2 192 c2 := hf.var (by kernel_rfl) rfl
              refine wpOp_step rfl (fun K hK => ?_)
              go_simp
              exact hK _ _ ⟨_, rfl, rfl, World.grownBy.refl _ _⟩
            · intro a w' hf he
              have k10 : a.tmps.getD 10 undef = .int .i64 (F : Int) := hf.var (by kernel_rfl) rfl
              refine wpOp_step rfl (fun K hK => ?_)
              go_simp
              exact hK _ _ ⟨_, rfl, rfl, World.grownBy.refl _ _⟩
            · intro a w' hf he
              have k11 : a.tmps.getD 11 undef = .int .i64 (T : Int) := hf.var (by kernel_rfl) rfl
              refine wpOp_step rfl (fun K hK => ?_)
              go_simp
              exact hK _ _ ⟨_, rfl, rfl, World.grownBy.refl _ _⟩
            · intro a w' hf he
              have f0 : a.tmps.getD 85 undef = .slice A2 192 c2 := he 0 (by kernel_rfl)
              have f1 : a.tmps.getD 86 undef = .int .i64 (F : Int) := he 1 (by kernel_rfl)
              have f2 : a.tmps.getD 87 undef = .int .i64 (T : Int) := he 2 (by kernel_rfl)
              rw [show kindRow _ _ = none from by kernel_rfl] at hf
              have h9 := ((O2'.out.bel hf.bel).uptoB (k := T) (by omega)).cutB (k := F) (by omega)
              rw [Hk.out.1] at h9
              refine wpOp_step rfl (fun K hK => ?_)
              go_simp
              rw [if_pos (by omega)]
              exact hK _ _ ⟨_, rfl, ⟨_, _, rfl, h9⟩, World.grownBy.refl _ _⟩
            · intro a w' hf he
              obtain ⟨A3, c3, hv3, hr3⟩ := he 3 (by kernel_rfl)
              have f3 : a.tmps.getD 88 undef = _ := hv3
              rw [show kindRow _ _ = none from by kernel_rfl] at hf
              have hcv := run_str (P := Try.prog) w' 22 9 5 A3 (T - F) c3 b' Try.underlying22 Try.underlying5 Try.underlying9 (hr3)
              refine wpOp_step rfl (fun K hK => ?_)
              go_simp
              exact hK _ _ ⟨_, rfl, rfl, World.grownBy.refl _ _⟩
            · intro a w' hf he
              have k3 : a.tmps.getD 3 undef = .pointer (some ⟨w.heap.size + 1, 0, none⟩) := hf.var (by kernel_rfl) rfl
              refine wpOp_step rfl (fun K hK => ?_)
              go_simp
              exact hK _ _ ⟨_, rfl, rfl, World.grownBy.refl _ _⟩
            · intro a w' hf he
              have f5 : a.tmps.getD 90 undef = .pointer (some ⟨w.heap.size + 1, 5, none⟩) := he 5 (by kernel_rfl)
              rw [show kindRow _ _ = none from by kernel_rfl] at hf
              have dd := (hf.bel.cell (block_lt_of_cell K5.out)).trans K5.out
              refine wpOp_step rfl (fun K hK => ?_)
              go_simp
              exact hK _ _ ⟨_, rfl, rfl, World.grownBy.refl _ _⟩
            · intro a w' hf he
              have f6 : a.tmps.getD 91 undef = .slice A' n' cb' := he 6 (by kernel_rfl)
              rw [show kindRow _ _ = none from by kernel_rfl] at hf
              have hcv := run_str (P := Try.prog) w' 22 9 5 A' n' cb' b' Try.underlying22 Try.underlying5 Try.underlying9 (Hb5.out.bel hf.bel)
              refine wpOp_step rfl (fun K hK => ?_)
              go_simp
              exact hK _ _ ⟨_, rfl, rfl, World.grownBy.refl _ _⟩
            · intro a w' hf he
              have f4 : a.tmps.getD 89 undef = .string ⟨b'.toArray⟩ := he 4 (by kernel_rfl)
              have f7 : a.tmps.getD 92 undef = .string ⟨b'.toArray⟩ := he 7 (by kernel_rfl)
              refine wpOp_step rfl (fun K hK => ?_)
              go_simp
              exact hK _ _ ⟨_, rfl, rfl, World.grownBy.refl _ _⟩
            · intro a w' hf he
              have f8 : a.tmps.getD 93 undef = .bool true := he 8 (by kernel_rfl)
              refine wpOp_step rfl (fun K hK => ?_)
              go_simp
              exact hK _ _ ⟨_, rfl, rfl, World.grownBy.refl _ _⟩
            · intro a w' hf he
              have k9 : a.tmps.getD 9 undef = .slice A2 192 c2 := hf.var (by kernel_rfl) rfl
              have f9 : a.tmps.getD 94 undef = .bool true := he 9 (by kernel_rfl)
              refine wpOp_run rfl rfl rfl f9 (fun K hK => ?_)
              go_simp
              exact hK _ _ ⟨_, rfl, rfl, World.grownBy.refl _ _⟩
            · intro a w' hf he
              have k10 : a.tmps.getD 10 undef = .int .i64 (F : Int) := hf.var (by kernel_rfl) rfl
              have f9 : a.tmps.getD 94 undef = .bool true := he 9 (by kernel_rfl)
              refine wpOp_run rfl rfl rfl f9 (fun K hK => ?_)
              go_simp
              exact hK _ _ ⟨_, rfl, rfl, World.grownBy.refl _ _⟩
            · intro a w' hf he
              have f10 : a.tmps.getD 95 undef = .slice A2 192 c2 := he 10 (by kernel_rfl)
              have f11 : a.tmps.getD 96 undef = .int .i64 (F : Int) := he 11 (by kernel_rfl)
              have f9 : a.tmps.getD 94 undef = .bool true := he 9 (by kernel_rfl)
              rw [show kindRow _ _ = none from by kernel_rfl] at hf
              refine wpOp_run rfl rfl rfl f9 (fun K hK => ?_)
              go_simp
              rw [if_pos (by omega)]
              exact hK _ _ ⟨_, rfl, rfl, World.grownBy.refl _ _⟩
            · intro a w' hf he
              have f12 : a.tmps.getD 97 undef = .slice A2 F c2 := he 12 (by kernel_rfl)
              have f9 : a.tmps.getD 94 undef = .bool true := he 9 (by kernel_rfl)
              rw [show kindRow _ _ = none from by kernel_rfl] at hf
              have hcv := run_str (P := Try.prog) w' 22 9 5 A2 F c2 ((area d2).take F) Try.underlying22 Try.underlying5 Try.underlying9 ((O2'.out.bel hf.bel).uptoB (k := F) (by omega))
              rw [Hk.out.2.1] at hcv
              refine wpOp_run rfl rfl rfl f9 (fun K hK => ?_)
              go_simp
              exact hK _ _ ⟨_, rfl, rfl, World.grownBy.refl _ _⟩
            · intro a w' hf he
              have k7 : a.tmps.getD 7 undef = .slice A1 192 c1 := hf.var (by kernel_rfl) rfl
              have f9 : a.tmps.getD 94 undef = .bool true := he 9 (by kernel_rfl)
              refine wpOp_run rfl rfl rfl f9 (fun K hK => ?_)
              go_simp
              exact hK _ _ ⟨_, rfl, rfl, World.grownBy.refl _ _⟩
            · intro a w' hf he
              have k10 : a.tmps.getD 10 undef = .int .i64 (F : Int) := hf.var (by kernel_rfl) rfl
              have f9 : a.tmps.getD 94 undef = .bool true := he 9 (by kernel_rfl)
              refine wpOp_run rfl rfl rfl f9 (fun K hK => ?_)
              go_simp
              exact hK _ _ ⟨_, rfl, rfl, World.grownBy.refl _ _⟩
            · intro a w' hf he
              have f14 : a.tmps.getD 99 undef = .slice A1 192 c1 := he 14 (by kernel_rfl)
              have f15 : a.tmps.getD 100 undef = .int .i64 (F : Int) := he 15 (by kernel_rfl)
              have f9 : a.tmps.getD 94 undef = .bool true := he 9 (by kernel_rfl)
              rw [show kindRow _ _ = none from by kernel_rfl] at hf
              refine wpOp_run rfl rfl rfl f9 (fun K hK => ?_)
              go_simp
              rw [if_pos (by omega)]
              exact hK _ _ ⟨_, rfl, rfl, World.grownBy.refl _ _⟩
            · intro a w' hf he
              have f16 : a.tmps.getD 101 undef = .slice A1 F c1 := he 16 (by kernel_rfl)
              have f9 : a.tmps.getD 94 undef = .bool true := he 9 (by kernel_rfl)
              rw [show kindRow _ _ = none from by kernel_rfl] at hf
              have hcv := run_str (P := Try.prog) w' 22 9 5 A1 F c1 ((area d1).take F) Try.underlying22 Try.underlying5 Try.underlying9 ((O1'.out.bel hf.bel).uptoB (k := F) (by omega))
              refine wpOp_run rfl rfl rfl f9 (fun K hK => ?_)
              go_simp
              exact hK _ _ ⟨_, rfl, rfl, World.grownBy.refl _ _⟩
            · intro a w' hf he
              have f13 : a.tmps.getD 98 undef = .string ⟨((area d1).take F).toArray⟩ := he 13 (by kernel_rfl)
              have f17 : a.tmps.getD 102 undef = .string ⟨((area d1).take F).toArray⟩ := he 17 (by kernel_rfl)
              have f9 : a.tmps.getD 94 undef = .bool true := he 9 (by kernel_rfl)
              refine wpOp_run rfl rfl rfl f9 (fun K hK => ?_)
              go_simp
              exact hK _ _ ⟨_, rfl, rfl, World.grownBy.refl _ _⟩
            · intro a w' hf he
              have f9 : a.tmps.getD 94 undef = .bool true := he 9 (by kernel_rfl)
              have f18 : a.tmps.getD 103 undef = .bool true := he 18 (by kernel_rfl)
              refine wpOp_step rfl (fun K hK => ?_)
              go_simp
              exact hK _ _ ⟨_, rfl, rfl, World.grownBy.refl _ _⟩
            · intro a w' hf he
              have f19 : a.tmps.getD 104 undef = .bool true := he 19 (by kernel_rfl)
              refine wpOp_step rfl (fun K hK => ?_)
              go_simp
              exact hK _ _ ⟨_, rfl, rfl, World.grownBy.refl _ _⟩
            · intro a w' hf he
              have k9 : a.tmps.getD 9 undef = .slice A2 192 c2 := hf.var (by kernel_rfl) rfl
              have f20 : a.tmps.getD 105 undef = .bool true := he 20 (by kernel_rfl)
              refine wpOp_run rfl rfl rfl f20 (fun K hK => ?_)
              go_simp
              exact hK _ _ ⟨_, rfl, rfl, World.grownBy.refl _ _⟩
            · intro a w' hf he
              have k11 : a.tmps.getD 11 undef = .int .i64 (T : Int) := hf.var (by kernel_rfl) rfl
              have f20 : a.tmps.getD 105 undef = .bool true := he 20 (by kernel_rfl)
              refine wpOp_run rfl rfl rfl f20 (fun K hK => ?_)
              go_simp
              exact hK _ _ ⟨_, rfl, rfl, World.grownBy.refl _ _⟩
            · intro a w' hf he
              have f21 : a.tmps.getD 106 undef = .slice A2 192 c2 := he 21 (by kernel_rfl)
              have f22 : a.tmps.getD 107 undef = .int .i64 (T : Int) := he 22 (by kernel_rfl)
              have f20 : a.tmps.getD 105 undef = .bool true := he 20 (by kernel_rfl)
              rw [show kindRow _ _ = none from by kernel_rfl] at hf
              have h9 := (O2'.out.bel hf.bel).cutB (k := T) (by omega)
              refine wpOp_run rfl rfl rfl f20 (fun K hK => ?_)
              go_simp
              exact hK _ _ ⟨_, rfl, ⟨_, _, rfl, h9⟩, World.grownBy.refl _ _⟩
            · intro a w' hf he
              obtain ⟨A23, c23, hv23, hr23⟩ := he 23 (by kernel_rfl)
              have f23 : a.tmps.getD 108 undef = _ := hv23
              have f20 : a.tmps.getD 105 undef = .bool true := he 20 (by kernel_rfl)
              rw [show kindRow _ _ = none from by kernel_rfl] at hf
              have hcv := run_str (P := Try.prog) w' 22 9 5 A23 (192 - T) c23 ((area d2).drop T) Try.underlying22 Try.underlying5 Try.underlying9 hr23
              rw [Hk.out.2.2] at hcv
              refine wpOp_run rfl rfl rfl f20 (fun K hK => ?_)
              go_simp
              exact hK _ _ ⟨_, rfl, rfl, World.grownBy.refl _ _⟩
            · intro a w' hf he
              have k7 : a.tmps.getD 7 undef = .slice A1 192 c1 := hf.var (by kernel_rfl) rfl
              have f20 : a.tmps.getD 105 undef = .bool true := he 20 (by kernel_rfl)
              refine wpOp_run rfl rfl rfl f20 (fun K hK => ?_)
              go_simp
              exact hK _ _ ⟨_, rfl, rfl, World.grownBy.refl _ _⟩
            · intro a w' hf he
              have k11 : a.tmps.getD 11 undef = .int .i64 (T : Int) := hf.var (by kernel_rfl) rfl
              have f20 : a.tmps.getD 105 undef = .bool true := he 20 (by kernel_rfl)
              refine wpOp_run rfl rfl rfl f20 (fun K hK => ?_)
              go_simp
              exact hK _ _ ⟨_, rfl, rfl, World.grownBy.refl _ _⟩
            · intro a w' hf he
              have f25 : a.tmps.getD 110 undef = .slice A1 192 c1 := he 25 (by kernel_rfl)
              have f26 : a.tmps.getD 111 undef = .int .i64 (T : Int) := he 26 (by kernel_rfl)
              have f20 : a.tmps.getD 105 undef = .bool true := he 20 (by kernel_rfl)
              rw [show kindRow _ _ = none from by kernel_rfl] at hf
              have h9 := (O1'.out.bel hf.bel).cutB (k := T) (by omega)
              refine wpOp_run rfl rfl rfl f20 (fun K hK => ?_)
              go_simp
              exact hK _ _ ⟨_, rfl, ⟨_, _, rfl, h9⟩, World.grownBy.refl _ _⟩
            · intro a w' hf he
              obtain ⟨A27, c27, hv27, hr27⟩ := he 27 (by kernel_rfl)
              have f27 : a.tmps.getD 112 undef = _ := hv27
              have f20 : a.tmps.getD 105 undef = .bool true := he 20 (by kernel_rfl)
              rw [show kindRow _ _ = none from by kernel_rfl] at hf
              have hcv := run_str (P := Try.prog) w' 22 9 5 A27 (192 - T) c27 ((area d1).drop T) Try.underlying22 Try.underlying5 Try.underlying9 hr27
              refine wpOp_run rfl rfl rfl f20 (fun K hK => ?_)
              go_simp
              exact hK _ _ ⟨_, rfl, rfl, World.grownBy.refl _ _⟩
            · intro a w' hf he
              have f24 : a.tmps.getD 109 undef = .string ⟨((area d1).drop T).toArray⟩ := he 24 (by kernel_rfl)
              have f28 : a.tmps.getD 113 undef = .string ⟨((area d1).drop T).toArray⟩ := he 28 (by kernel_rfl)
              have f20 : a.tmps.getD 105 undef = .bool true := he 20 (by kernel_rfl)
              refine wpOp_run rfl rfl rfl f20 (fun K hK => ?_)
              go_simp
              exact hK _ _ ⟨_, rfl, rfl, World.grownBy.refl _ _⟩
            · intro a w' hf he
              have f20 : a.tmps.getD 105 undef = .bool true := he 20 (by kernel_rfl)
              have f29 : a.tmps.getD 114 undef = .bool true := he 29 (by kernel_rfl)
              refine wpOp_step rfl (fun K hK => ?_)
              go_simp
              exact hK _ _ ⟨_, rfl, rfl, World.grownBy.refl _ _⟩
            · intro a w' hf he
              have f30 : a.tmps.getD 115 undef = .bool true := he 30 (by kernel_rfl)
              refine wpOp_step rfl (fun K hK => ?_)
              go_simp
              exact hK _ _ ⟨_, rfl, rfl, World.grownBy.refl _ _⟩
            · intro a w' hf he
              have f31 : a.tmps.getD 116 undef = .bool true := he 31 (by kernel_rfl)
              rw [show kindRow _ _ = none from by kernel_rfl] at hf
              refine wpOp_run rfl rfl rfl f31 (fun K hK => ?_)
              go_simp
              refine (c_lives _).mono ?_
              rintro e w2 ⟨rfl, hb2⟩
              exact hK _ _ ⟨_, rfl, rfl, grown_bel hb2⟩
            · intro a w' hf he
              have f31 : a.tmps.getD 116 undef = .bool true := he 31 (by kernel_rfl)
              have f32 : a.tmps.getD 117 undef = .bool true := he 32 (by kernel_rfl)
              refine wpOp_step rfl (fun K hK => ?_)
              go_simp
              exact hK _ _ ⟨_, rfl, rfl, World.grownBy.refl _ _⟩
            · intro a w' hf he
              have f33 : a.tmps.getD 118 undef = .bool true := he 33 (by kernel_rfl)
              refine wpOp_step rfl (fun K hK => ?_)
              go_simp
              exact hK _ _ ⟨_, rfl, rfl, World.grownBy.refl _ _⟩
          · intro a w' hf he
            obtain ⟨u85, f0⟩ : ∃ u, a.tmps.getD 85 undef = u := ⟨_, rfl⟩
            obtain ⟨u86, f1⟩ : ∃ u, a.tmps.getD 86 undef = u := ⟨_, rfl⟩
            obtain ⟨u87, f2⟩ : ∃ u, a.tmps.getD 87 undef = u := ⟨_, rfl⟩
            obtain ⟨u88, f3⟩ : ∃ u, a.tmps.getD 88 undef = u := ⟨_, rfl⟩
            obtain ⟨u89, f4⟩ : ∃ u, a.tmps.getD 89 undef = u := ⟨_, rfl⟩
            obtain ⟨u90, f5⟩ : ∃ u, a.tmps.getD 90 undef = u := ⟨_, rfl⟩
            obtain ⟨u91, f6⟩ : ∃ u, a.tmps.getD 91 undef = u := ⟨_, rfl⟩
            obtain ⟨u92, f7⟩ : ∃ u, a.tmps.getD 92 undef = u := ⟨_, rfl⟩
            obtain ⟨u93, f8⟩ : ∃ u, a.tmps.getD 93 undef = u := ⟨_, rfl⟩
            obtain ⟨u94, f9⟩ : ∃ u, a.tmps.getD 94 undef = u := ⟨_, rfl⟩
            obtain ⟨u95, f10⟩ : ∃ u, a.tmps.getD 95 undef = u := ⟨_, rfl⟩
            obtain ⟨u96, f11⟩ : ∃ u, a.tmps.getD 96 undef = u := ⟨_, rfl⟩
            obtain ⟨u97, f12⟩ : ∃ u, a.tmps.getD 97 undef = u := ⟨_, rfl⟩
            obtain ⟨u98, f13⟩ : ∃ u, a.tmps.getD 98 undef = u := ⟨_, rfl⟩
            obtain ⟨u99, f14⟩ : ∃ u, a.tmps.getD 99 undef = u := ⟨_, rfl⟩
            obtain ⟨u100, f15⟩ : ∃ u, a.tmps.getD 100 undef = u := ⟨_, rfl⟩
            obtain ⟨u101, f16⟩ : ∃ u, a.tmps.getD 101 undef = u := ⟨_, rfl⟩
            obtain ⟨u102, f17⟩ : ∃ u, a.tmps.getD 102 undef = u := ⟨_, rfl⟩
            obtain ⟨u103, f18⟩ : ∃ u, a.tmps.getD 103 undef = u := ⟨_, rfl⟩
            obtain ⟨u104, f19⟩ : ∃ u, a.tmps.getD 104 undef = u := ⟨_, rfl⟩
            obtain ⟨u105, f20⟩ : ∃ u, a.tmps.getD 105 undef = u := ⟨_, rfl⟩
            obtain ⟨u106, f21⟩ : ∃ u, a.tmps.getD 106 undef = u := ⟨_, rfl⟩
            obtain ⟨u107, f22⟩ : ∃ u, a.tmps.getD 107 undef = u := ⟨_, rfl⟩
            obtain ⟨u108, f23⟩ : ∃ u, a.tmps.getD 108 undef = u := ⟨_, rfl⟩
            obtain ⟨u109, f24⟩ : ∃ u, a.tmps.getD 109 undef = u := ⟨_, rfl⟩
            obtain ⟨u110, f25⟩ : ∃ u, a.tmps.getD 110 undef = u := ⟨_, rfl⟩
            obtain ⟨u111, f26⟩ : ∃ u, a.tmps.getD 111 undef = u := ⟨_, rfl⟩
            obtain ⟨u112, f27⟩ : ∃ u, a.tmps.getD 112 undef = u := ⟨_, rfl⟩
            obtain ⟨u113, f28⟩ : ∃ u, a.tmps.getD 113 undef = u := ⟨_, rfl⟩
            obtain ⟨u114, f29⟩ : ∃ u, a.tmps.getD 114 undef = u := ⟨_, rfl⟩
            obtain ⟨u115, f30⟩ : ∃ u, a.tmps.getD 115 undef = u := ⟨_, rfl⟩
            obtain ⟨u116, f31⟩ : ∃ u, a.tmps.getD 116 undef = u := ⟨_, rfl⟩
            obtain ⟨u117, f32⟩ : ∃ u, a.tmps.getD 117 undef = u := ⟨_, rfl⟩
            obtain ⟨u118, f33⟩ : ∃ u, a.tmps.getD 118 undef = u := ⟨_, rfl⟩
            have f34 : a.tmps.getD 4 undef = .bool true := he 34 (by decide)
            have hlit := hf.lit ((85, u85) :: (86, u86) :: (87, u87) :: (88, u88) :: (89, u89) :: (90, u90) :: (91, u91) :: (92, u92) :: (93, u93) :: (94, u94) :: (95, u95) :: (96, u96) :: (97, u97) :: (98, u98) :: (99, u99) :: (100, u100) :: (101, u101) :: (102, u102) :: (103, u103) :: (104, u104) :: (105, u105) :: (106, u106) :: (107, u107) :: (108, u108) :: (109, u109) :: (110, u110) :: (111, u111) :: (112, u112) :: (113, u113) :: (114, u114) :: (115, u115) :: (116, u116) :: (117, u117) :: (118, u118) :: (4, .bool true) :: []) (by kernel_rfl) ⟨f0, f1, f2, f3, f4, f5, f6, f7, f8, f9, f10, f11, f12, f13, f14, f15, f16, f17, f18, f19, f20, f21, f22, f23, f24, f25, f26, f27, f28, f29, f30, f31, f32, f33, f34, trivial⟩
            have hB := hf.bel
            clear he hf f0 f1 f2 f3 f4 f5 f6 f7 f8 f9 f10 f11 f12 f13 f14 f15 f16 f17 f18 f19 f20 f21 f22 f23 f24 f25 f26 f27 f28 f29 f30 f31 f32 f33 f34 
            subst hlit
            simp only [putAll_nil, putAll_cons, Act.put, List.setIfInBounds_toArray, List.set_cons_zero, List.set_cons_succ]
            simp only [List.drop_succ_cons, List.drop_zero]
            have HB := Lib.hid (HB.out.trans (hB.mono HB.out.size))
            clear hB
            go_wp2_with fail
            go_ret
            exact ⟨rfl, HB.out⟩
end Go.Proofs.Ytlfphoablloodaa.Data
