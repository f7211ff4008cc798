/- The law CopyingNone, walked. Conditions: none. -/
import Derived.Test.YtaldlapnhhhclaaGreatB14
import Derived.Test.YtaldlapnhhhclaaGreatB6
set_option linter.unusedVariables false
set_option linter.unusedSimpArgs false
namespace Go.Proofs.YtaldlapnhhhclaaGreat.Copying
open Go.RowKit Tw Disk Go.Proofs.YtaldlapnhhhclaaGreat.Data Slots
set_option maxHeartbeats 8000000
set_option maxRecDepth 100000
def byts : List UInt8 := [115, 105, 120, 116, 101, 101, 110, 32, 98, 121, 116, 101, 115, 46, 46, 32]
def dA : Dsk := (dWrite (Dsk.new 16) 4 1 byts).1
def mA : List UInt8 := (dRead dA 4 4).1
def dB1 : Dsk := (sput (Dsk.new 16) 6 2 6).1
def dB2 : Dsk := (dWrite dB1 4 4 mA).1
def dB3 : Dsk := dB2.flush.1
def dB4 : Dsk := (sput dB3 6 2 4).1
theorem cl1 : (dWrite (Dsk.new 16) 4 1 byts).2 = 0 ∧ (dRead dA 4 4).2 = 0 ∧ mA.length = 64 := by decide +kernel
theorem cl2 : (sput (Dsk.new 16) 6 2 6).2 = 0 ∧ dB1.ops ≤ 100 ∧ dB1.broken = false := by decide +kernel
theorem cl3 : (dWrite dB1 4 4 mA).2 = 0 ∧ dB2.ops ≤ 100 ∧ dB2.flush.2 = 0 := by decide +kernel
theorem cl4 : dB3.ops ≤ 100 ∧ dB3.broken = false ∧ latest dB3 6 2 = (1, 6) ∧ (sput dB3 6 2 4).2 = 0 := by decide +kernel
theorem cl5 : latest dB4 6 2 = (2, 4) ∧ img dB4 = img dA := by decide +kernel
theorem wh1 : (whole 1).1 = 4 ∧ (whole 1).2 = 4 := by decide
theorem pw {d d' : Dsk} {x y : Int} {b : List UInt8} (h1 : (dWrite d x y b).1 = d') (h2 : (dWrite d x y b).2 = 0) : dWrite d x y b = (d', 0) := by rw [← h1, ← h2]
theorem ps {d d' : Dsk} {b s : Int} {x : Nat} (h1 : (sput d b s x).1 = d') (h2 : (sput d b s x).2 = 0) : sput d b s x = (d', 0) := by rw [← h1, ← h2]
theorem pf {d d' : Dsk} (h1 : d.flush.1 = d') (h2 : d.flush.2 = 0) : d.flush = (d', 0) := by rw [← h1, ← h2]
theorem pr {d : Dsk} {x y : Int} {m : List UInt8} (h1 : (dRead d x y).1 = m) (h2 : (dRead d x y).2 = 0) : dRead d x y = (m, 0) := by rw [← h1, ← h2]
theorem byt_const (w : World) (b : List UInt8) (T : TypeId) (fr : Nat × Nat) (n : Nat) (hb : b.length = n) (hn : n ≤ maxLen) (cs : Array Value) (hcs : cs = (bytesV b).toArray) : Byt (w.alloc (.cells cs T fr)) (some ⟨w.heap.size, 0, none⟩) n n b := by
  subst hcs
  refine ⟨by rw [bytesV_length, hb]; omega, Nat.le_refl _, hn, fun e => (by cases e), fun ad e j u hu => ?_⟩
  injection e with e
  subst e
  have h := heap_alloc_new w (.cells (bytesV b).toArray T fr)
  rw [Addr.add_mid, Nat.zero_add]
  simp only [World.cell?, h]
  simpa using hu
theorem c_lives (w : World) : Calls Tryz.prog 39 #[] w fun e w' => e = .returned (.bool true) ∧ Below w.heap.size w w' := by
  obtain ⟨a1, a2, a3⟩ := cl1
  obtain ⟨b1, b2, b3⟩ := cl2
  obtain ⟨c1, c2, c3⟩ := cl3
  obtain ⟨d1, d2, d3, d4⟩ := cl4
  obtain ⟨e1, e2⟩ := cl5
  have HWA := Lib.hid (pw (d' := dA) rfl a1)
  have HRA := Lib.hid (pr (m := mA) rfl a2)
  have HmA := Lib.hid a3
  have HS1 := Lib.hid (ps (d' := dB1) rfl b1)
  have HoB1 : Hid (dB1.ops + 1024 < 1000000000) := Lib.hid (by omega)
  have HW2 := Lib.hid (pw (d' := dB2) rfl c1)
  have HoB2 : Hid (dB2.ops < 1000000000) := Lib.hid (by omega)
  have HF3 := Lib.hid (pf (d' := dB3) rfl c3)
  have HoB3 : Hid (dB3.ops + 1 < 1000000000) := Lib.hid (by omega)
  have HbB3 := Lib.hid d2
  have HlB3 := Lib.hid d3
  have HS4 := Lib.hid (ps (d' := dB4) rfl d4)
  have HlB4 := Lib.hid e1
  have HiE := Lib.hid e2
  have kc := fun (w : World) (C : Array Value) (n c : Nat) => Lib.run_convert_bytes_const (P := Tryz.prog) w 23 5 C n c Tryz.underlying23 Tryz.underlying5
  clear a1 a2 a3 b1 b2 b3 c1 c2 c3 d1 d2 d3 d4 e1 e2
  generalize dA = DA at *
  generalize dB1 = DB1 at *
  generalize dB2 = DB2 at *
  generalize dB3 = DB3 at *
  generalize dB4 = DB4 at *
  generalize mA = MA at *
  go_enter Tryz.func39, Tryz.ntmps39
  go_upto_region 2 with (first
    | (go_at_call 17
       (with_reducible refine (c_dNewI' 16 16 rfl _ (by omega) (by omega)).mono ?_)
       rintro e w1 ⟨p, g, mb, rfl, hk, hge, hb1⟩
       have HB := Lib.hid hb1
       have HK := Lib.hid hk
       have HG := Lib.hid hge
       clear hb1 hk hge))
  go_upto_region 3 with (first
    | (go_at_call 17
       (with_reducible refine (c_dNewI' 16 16 rfl _ (by omega) (by omega)).mono ?_)
       rintro e w2 ⟨p2, g2, mb2, rfl, hk, hge, hb2⟩
       have hl1 := HK.out.lts
       have hsz1 := HB.out.size
       have HG2 : Hid (w.heap.size ≤ p2 ∧ w.heap.size ≤ g2 ∧ w.heap.size ≤ mb2) := Lib.hid (by omega)
       have HAp : Hid ((p2 ≠ p ∧ p2 ≠ g ∧ p2 ≠ mb) ∧ (g2 ≠ p ∧ g2 ≠ g ∧ g2 ≠ mb) ∧ (mb2 ≠ p ∧ mb2 ≠ g ∧ mb2 ≠ mb)) := Lib.hid (by omega)
       have HB := Lib.hid (HB.out.trans (hb2.mono HB.out.size))
       have HK := Lib.hid (HK.out.bel hb2)
       have HK2 := Lib.hid hk
       clear hk hge hb2 hl1 hsz1))
  have Hbc := Lib.hid (byt_const w2 byts 5 (16, 17) 16 rfl (by simp [maxLen]) #[.int .u8 115, .int .u8 105, .int .u8 120, .int .u8 116, .int .u8 101, .int .u8 101, .int .u8 110, .int .u8 32, .int .u8 98, .int .u8 121, .int .u8 116, .int .u8 101, .int .u8 115, .int .u8 46, .int .u8 46, .int .u8 32] rfl)
  have Hbb := Lib.hid ((Below.refl w2.heap.size w2).alloc (Nat.le_refl _) (.cells #[.int .u8 115, .int .u8 105, .int .u8 120, .int .u8 116, .int .u8 101, .int .u8 101, .int .u8 110, .int .u8 32, .int .u8 98, .int .u8 121, .int .u8 116, .int .u8 101, .int .u8 115, .int .u8 46, .int .u8 46, .int .u8 32] 5 (16, 17)))
  go_upto_region 4 with (first
    | (go_at_call 70
       (with_reducible refine (c_Write (HK.out.bel Hbb.out) (by decide) 4 1 _ 16 16 byts Hbc.out (by intro ad e _; injection e with e; subst e; have := HK.out.lts; simp only; omega)).mono ?_)
       rw [HWA.out]
       rintro e w3 ⟨rfl, h3, f3a⟩
       have f3 := (Fr.of_bel (S := fun k => k = p ∨ k = mb) Hbb.out).trans f3a (fun _ _ e => e)
       have hl2 := HK2.out.lts
       have HB := Lib.hid (HB.out.trans (f3.bel (B := w.heap.size) (fun k e => by have := HG.out; omega) HB.out.size))
       have HK2 := Lib.hid (HK2.out.fr f3 (by have := HAp.out; omega) (by have := HAp.out; omega) (by have := HAp.out; omega))
       have HK := Lib.hid h3
       clear h3 f3 f3a Hbb Hbc hl2))
  go_upto_region 5 with (first
    | (go_at_call 19
       (with_reducible refine (Dirty.c_Put_new HK2.out (by decide) rfl 0 0 6 6 rfl (by omega) (by omega) (latest_new 16 6 2) 0 HS1.out).mono ?_)
       rintro e w4 ⟨rfl, h4, f4⟩
       have hl1 := HK.out.lts
       have HB := Lib.hid (HB.out.trans (f4.bel (B := w.heap.size) (fun k e => by have := HG2.out; omega) HB.out.size))
       have HK := Lib.hid (HK.out.fr f4 (by have := HAp.out; omega) (by have := HAp.out; omega) (by have := HAp.out; omega))
       have HK2 := Lib.hid h4
       clear h4 f4 hl1))
  go_upto_region 6 with (first
    | (go_at_call 40
       (with_reducible refine (c_Give_ok HK.out 1 (by omega) MA (by rw [wh1.1, wh1.2]; exact HRA.out)).mono ?_)
       rw [HmA.out]
       rintro e w5 ⟨A5, c5, rfl, ho5, hb5⟩
       have HO := Lib.hid ho5
       have HL := Lib.hid (And.intro HK.out.lts HK2.out.lts)
       have HB := Lib.hid (HB.out.trans (hb5.mono HB.out.size))
       have HK := Lib.hid (HK.out.bel hb5)
       have HK2 := Lib.hid (HK2.out.bel hb5)
       have HX := Lib.hid (heap_alloc_new w5 (.cells m0 25))
       have HXB := Lib.hid ((Below.refl w5.heap.size w5).alloc (Nat.le_refl _) (.cells m0 25))
       unfold m0 at HX HXB
       clear ho5 hb5)
    | (refine wpL_store_all rfl rfl 25 (.tmp 7) (.tmp 29) rfl _ rfl _ rfl _ _ HX.out (by kernel_rfl) rfl ms_one ?_
       intro w6 x6 g6
       have hb6 := HXB.out.grown g6 HXB.out.size (by rintro k ⟨⟩; exact Nat.le_refl _)
       have HB := Lib.hid (HB.out.trans (hb6.mono HB.out.size))
       have HK := Lib.hid (HK.out.bel hb6)
       have HK2 := Lib.hid (HK2.out.bel hb6)
       have HO := Lib.hid (Tw.Own.bel HO.out hb6)
       have HX6 := Lib.hid x6
       clear x6 g6 HX HXB hb6))
  go_upto_region 7 with (first
    | (refine wpL_load_rd rfl 25 (.tmp 7) rfl ⟨w5.heap.size, 0, none⟩ rfl (msV 6 0 1 0 false A5 64 c5) _ ((rd_of_heap (n := 6) HX6.out rfl (by simp [maxLen])).cell _ rfl) Tryz.underlying25 rfl (by kernel_rfl) ?_)
    | (go_at_call 43
       (with_reducible refine (c_Put_ok HK2.out HoB1.out 0 1 0 false A5 64 c5 MA (by omega) HO.out.rd (by intro ad e _; have := HO.out.at0 ad e; have := HL.out; omega) (by decide) (by rw [wh1.1, wh1.2]; exact HW2.out) HoB2.out HF3.out 4 (fun W h => Dirty.c_Clear6 h HoB3.out HbB3.out 1 HlB3.out HS4.out)).mono ?_)
       rintro e w7 ⟨rfl, h7, f7⟩
       have HB := Lib.hid (HB.out.trans (f7.bel (B := w.heap.size) (fun k e => by have := HG2.out; omega) HB.out.size))
       have HK := Lib.hid (HK.out.fr f7 (by have := HAp.out; omega) (by have := HAp.out; omega) (by have := HAp.out; omega))
       have HK2 := Lib.hid h7
       have HX := Lib.hid (heap_alloc_new w7 (.cells m0 25))
       have HXB := Lib.hid ((Below.refl w7.heap.size w7).alloc (Nat.le_refl _) (.cells m0 25))
       unfold m0 at HX HXB
       clear h7 f7 HX6 HO)
    | (refine wpL_store_all rfl rfl 25 (.tmp 9) (.tmp 35) rfl _ rfl _ rfl _ _ HX.out (by kernel_rfl) rfl ms_one ?_
       intro w8 x8 g8
       have hb8 := HXB.out.grown g8 HXB.out.size (by rintro k ⟨⟩; exact Nat.le_refl _)
       have HB := Lib.hid (HB.out.trans (hb8.mono HB.out.size))
       have HK := Lib.hid (HK.out.bel hb8)
       have HK2 := Lib.hid (HK2.out.bel hb8)
       have HX8 := Lib.hid x8
       clear x8 g8 HX HXB hb8))
  refine wp_region_phi (by kernel_rfl) 39 none (fun _ => false) (fun i_ v wz => match i_ with
    | 0 => v = .int .i64 0
    | 1 => v = .bool true
    | 2 => v = .bool true
    | 3 => v = .int .i64 0
    | 4 => v = .bool true
    | 5 => v = .bool true
    | 6 => v = .bool true
    | 7 => v = .int .i64 0
    | 8 => v = .bool true
    | 9 => v = .bool true
    | 10 => v = .bool true
    | 11 => v = .int .i64 0
    | 12 => v = .bool true
    | 13 => v = .bool true
    | 14 => v = .bool true
    | 15 => v = .pointer (some ⟨w7.heap.size, 0, none⟩)
    | 16 => v = .int .i64 7
    | 17 => v = .bool true
    | 18 => v = .bool true
    | 19 => v = .bool true
    | 20 => v = .pointer (some ⟨w7.heap.size, 2, none⟩)
    | 21 => v = .int .i64 1
    | 22 => v = .bool true
    | 23 => v = .bool true
    | 24 => v = .bool true
    | 25 => v = .pointer (some ⟨p2, 0, none⟩)
    | 26 => v = .int .u64 4
    | 27 => v = .bool true
    | 28 => v = .bool true
    | 29 => v = .bool true
    | 30 => v = .pointer (some ⟨p2, 0, none⟩)
    | 31 => ∃ A3 c3, v = .slice A3 (img DA).length c3 ∧ Byt wz A3 (img DA).length c3 (img DA)
    | 32 => v = .string ⟨(img DA).toArray⟩
    | 33 => v = .pointer (some ⟨p, 0, none⟩)
    | 34 => ∃ A3 c3, v = .slice A3 (img DA).length c3 ∧ Byt wz A3 (img DA).length c3 (img DA)
    | 35 => v = .string ⟨(img DA).toArray⟩
    | 36 => v = .bool true
    | 37 => v = .bool true
    | 38 => v = .bool true
    | _ => True) (by kernel_rfl) ?_ ?_ ?_
  · (repeat' (first | exact allLt_zero | refine allLt_succ ?_ ?_))
    · exact fun _ _ _ h _ => h
    · exact fun _ _ _ h _ => h
    · exact fun _ _ _ h _ => h
    · exact fun _ _ _ h _ => h
    · exact fun _ _ _ h _ => h
    · exact fun _ _ _ h _ => h
    · exact fun _ _ _ h _ => h
    · exact fun _ _ _ h _ => h
    · exact fun _ _ _ h _ => h
    · exact fun _ _ _ h _ => h
    · exact fun _ _ _ h _ => h
    · exact fun _ _ _ h _ => h
    · exact fun _ _ _ h _ => h
    · exact fun _ _ _ h _ => h
    · exact fun _ _ _ h _ => h
    · exact fun _ _ _ h _ => h
    · exact fun _ _ _ h _ => h
    · exact fun _ _ _ h _ => h
    · exact fun _ _ _ h _ => h
    · exact fun _ _ _ h _ => h
    · exact fun _ _ _ h _ => h
    · exact fun _ _ _ h _ => h
    · exact fun _ _ _ h _ => h
    · exact fun _ _ _ h _ => h
    · exact fun _ _ _ h _ => h
    · exact fun _ _ _ h _ => h
    · exact fun _ _ _ h _ => h
    · exact fun _ _ _ h _ => h
    · exact fun _ _ _ h _ => h
    · exact fun _ _ _ h _ => h
    · exact fun _ _ _ h _ => h
    · intro v w1 w2 h hg
      rw [show kindRow _ _ = none from by kernel_rfl] at hg
      obtain ⟨A3, c3, rfl, hr⟩ := h
      exact ⟨A3, c3, rfl, hr.bel (bel_grown hg)⟩
    · exact fun _ _ _ h _ => h
    · exact fun _ _ _ h _ => h
    · intro v w1 w2 h hg
      rw [show kindRow _ _ = none from by kernel_rfl] at hg
      obtain ⟨A3, c3, rfl, hr⟩ := h
      exact ⟨A3, c3, rfl, hr.bel (bel_grown hg)⟩
    · exact fun _ _ _ h _ => h
    · exact fun _ _ _ h _ => h
    · exact fun _ _ _ h _ => h
    · exact fun _ _ _ h _ => h
  · (repeat' (first | exact allLt_zero | refine allLt_succ ?_ ?_))
    · intro a w' hf he
      have k5 : a.tmps.getD 5 undef = .int .i64 0 := hf.var (by kernel_rfl) rfl
      refine wpOp_step rfl (fun K hK => ?_)
      go_simp
      exact hK _ _ ⟨_, rfl, rfl, World.grownBy.refl _ _⟩
    · intro a w' hf he
      have f0 : a.tmps.getD 37 undef = .int .i64 0 := he 0 (by kernel_rfl)
      refine wpOp_step rfl (fun K hK => ?_)
      go_simp
      exact hK _ _ ⟨_, rfl, rfl, World.grownBy.refl _ _⟩
    · intro a w' hf he
      have f1 : a.tmps.getD 38 undef = .bool true := he 1 (by kernel_rfl)
      refine wpOp_step rfl (fun K hK => ?_)
      go_simp
      exact hK _ _ ⟨_, rfl, rfl, World.grownBy.refl _ _⟩
    · intro a w' hf he
      have k6 : a.tmps.getD 6 undef = .int .i64 0 := hf.var (by kernel_rfl) rfl
      have f2 : a.tmps.getD 39 undef = .bool true := he 2 (by kernel_rfl)
      refine wpOp_run rfl rfl rfl f2 (fun K hK => ?_)
      go_simp
      exact hK _ _ ⟨_, rfl, rfl, World.grownBy.refl _ _⟩
    · intro a w' hf he
      have f3 : a.tmps.getD 40 undef = .int .i64 0 := he 3 (by kernel_rfl)
      have f2 : a.tmps.getD 39 undef = .bool true := he 2 (by kernel_rfl)
      refine wpOp_run rfl rfl rfl f2 (fun K hK => ?_)
      go_simp
      exact hK _ _ ⟨_, rfl, rfl, World.grownBy.refl _ _⟩
    · intro a w' hf he
      have f2 : a.tmps.getD 39 undef = .bool true := he 2 (by kernel_rfl)
      have f4 : a.tmps.getD 41 undef = .bool true := he 4 (by kernel_rfl)
      refine wpOp_step rfl (fun K hK => ?_)
      go_simp
      exact hK _ _ ⟨_, rfl, rfl, World.grownBy.refl _ _⟩
    · intro a w' hf he
      have f5 : a.tmps.getD 42 undef = .bool true := he 5 (by kernel_rfl)
      refine wpOp_step rfl (fun K hK => ?_)
      go_simp
      exact hK _ _ ⟨_, rfl, rfl, World.grownBy.refl _ _⟩
    · intro a w' hf he
      have k8 : a.tmps.getD 8 undef = .int .i64 0 := hf.var (by kernel_rfl) rfl
      have f6 : a.tmps.getD 43 undef = .bool true := he 6 (by kernel_rfl)
      refine wpOp_run rfl rfl rfl f6 (fun K hK => ?_)
      go_simp
      exact hK _ _ ⟨_, rfl, rfl, World.grownBy.refl _ _⟩
    · intro a w' hf he
      have f7 : a.tmps.getD 44 undef = .int .i64 0 := he 7 (by kernel_rfl)
      have f6 : a.tmps.getD 43 undef = .bool true := he 6 (by kernel_rfl)
      refine wpOp_run rfl rfl rfl f6 (fun K hK => ?_)
      go_simp
      exact hK _ _ ⟨_, rfl, rfl, World.grownBy.refl _ _⟩
    · intro a w' hf he
      have f6 : a.tmps.getD 43 undef = .bool true := he 6 (by kernel_rfl)
      have f8 : a.tmps.getD 45 undef = .bool true := he 8 (by kernel_rfl)
      refine wpOp_step rfl (fun K hK => ?_)
      go_simp
      exact hK _ _ ⟨_, rfl, rfl, World.grownBy.refl _ _⟩
    · intro a w' hf he
      have f9 : a.tmps.getD 46 undef = .bool true := he 9 (by kernel_rfl)
      refine wpOp_step rfl (fun K hK => ?_)
      go_simp
      exact hK _ _ ⟨_, rfl, rfl, World.grownBy.refl _ _⟩
    · intro a w' hf he
      have k10 : a.tmps.getD 10 undef = .int .i64 0 := hf.var (by kernel_rfl) rfl
      have f10 : a.tmps.getD 47 undef = .bool true := he 10 (by kernel_rfl)
      refine wpOp_run rfl rfl rfl f10 (fun K hK => ?_)
      go_simp
      exact hK _ _ ⟨_, rfl, rfl, World.grownBy.refl _ _⟩
    · intro a w' hf he
      have f11 : a.tmps.getD 48 undef = .int .i64 0 := he 11 (by kernel_rfl)
      have f10 : a.tmps.getD 47 undef = .bool true := he 10 (by kernel_rfl)
      refine wpOp_run rfl rfl rfl f10 (fun K hK => ?_)
      go_simp
      exact hK _ _ ⟨_, rfl, rfl, World.grownBy.refl _ _⟩
    · intro a w' hf he
      have f10 : a.tmps.getD 47 undef = .bool true := he 10 (by kernel_rfl)
      have f12 : a.tmps.getD 49 undef = .bool true := he 12 (by kernel_rfl)
      refine wpOp_step rfl (fun K hK => ?_)
      go_simp
      exact hK _ _ ⟨_, rfl, rfl, World.grownBy.refl _ _⟩
    · intro a w' hf he
      have f13 : a.tmps.getD 50 undef = .bool true := he 13 (by kernel_rfl)
      refine wpOp_step rfl (fun K hK => ?_)
      go_simp
      exact hK _ _ ⟨_, rfl, rfl, World.grownBy.refl _ _⟩
    · intro a w' hf he
      have k9 : a.tmps.getD 9 undef = .pointer (some ⟨w7.heap.size, 0, none⟩) := hf.var (by kernel_rfl) rfl
      have f14 : a.tmps.getD 51 undef = .bool true := he 14 (by kernel_rfl)
      refine wpOp_run rfl rfl rfl f14 (fun K hK => ?_)
      go_simp
      exact hK _ _ ⟨_, rfl, rfl, World.grownBy.refl _ _⟩
    · intro a w' hf he
      have f15 : a.tmps.getD 52 undef = .pointer (some ⟨w7.heap.size, 0, none⟩) := he 15 (by kernel_rfl)
      have f14 : a.tmps.getD 51 undef = .bool true := he 14 (by kernel_rfl)
      rw [show kindRow _ _ = none from by kernel_rfl] at hf
      have dd := (ms6 ((hf.bel.block _ (heap_lt HX8.out)).trans HX8.out)).1
      refine wpOp_run rfl rfl rfl f14 (fun K hK => ?_)
      go_simp
      exact hK _ _ ⟨_, rfl, rfl, World.grownBy.refl _ _⟩
    · intro a w' hf he
      have f16 : a.tmps.getD 53 undef = .int .i64 7 := he 16 (by kernel_rfl)
      have f14 : a.tmps.getD 51 undef = .bool true := he 14 (by kernel_rfl)
      refine wpOp_run rfl rfl rfl f14 (fun K hK => ?_)
      go_simp
      exact hK _ _ ⟨_, rfl, rfl, World.grownBy.refl _ _⟩
    · intro a w' hf he
      have f14 : a.tmps.getD 51 undef = .bool true := he 14 (by kernel_rfl)
      have f17 : a.tmps.getD 54 undef = .bool true := he 17 (by kernel_rfl)
      refine wpOp_step rfl (fun K hK => ?_)
      go_simp
      exact hK _ _ ⟨_, rfl, rfl, World.grownBy.refl _ _⟩
    · intro a w' hf he
      have f18 : a.tmps.getD 55 undef = .bool true := he 18 (by kernel_rfl)
      refine wpOp_step rfl (fun K hK => ?_)
      go_simp
      exact hK _ _ ⟨_, rfl, rfl, World.grownBy.refl _ _⟩
    · intro a w' hf he
      have k9 : a.tmps.getD 9 undef = .pointer (some ⟨w7.heap.size, 0, none⟩) := hf.var (by kernel_rfl) rfl
      have f19 : a.tmps.getD 56 undef = .bool true := he 19 (by kernel_rfl)
      refine wpOp_run rfl rfl rfl f19 (fun K hK => ?_)
      go_simp
      exact hK _ _ ⟨_, rfl, rfl, World.grownBy.refl _ _⟩
    · intro a w' hf he
      have f20 : a.tmps.getD 57 undef = .pointer (some ⟨w7.heap.size, 2, none⟩) := he 20 (by kernel_rfl)
      have f19 : a.tmps.getD 56 undef = .bool true := he 19 (by kernel_rfl)
      rw [show kindRow _ _ = none from by kernel_rfl] at hf
      have dd := (ms6 ((hf.bel.block _ (heap_lt HX8.out)).trans HX8.out)).2.1
      refine wpOp_run rfl rfl rfl f19 (fun K hK => ?_)
      go_simp
      exact hK _ _ ⟨_, rfl, rfl, World.grownBy.refl _ _⟩
    · intro a w' hf he
      have f21 : a.tmps.getD 58 undef = .int .i64 1 := he 21 (by kernel_rfl)
      have f19 : a.tmps.getD 56 undef = .bool true := he 19 (by kernel_rfl)
      refine wpOp_run rfl rfl rfl f19 (fun K hK => ?_)
      go_simp
      exact hK _ _ ⟨_, rfl, rfl, World.grownBy.refl _ _⟩
    · intro a w' hf he
      have f19 : a.tmps.getD 56 undef = .bool true := he 19 (by kernel_rfl)
      have f22 : a.tmps.getD 59 undef = .bool true := he 22 (by kernel_rfl)
      refine wpOp_step rfl (fun K hK => ?_)
      go_simp
      exact hK _ _ ⟨_, rfl, rfl, World.grownBy.refl _ _⟩
    · intro a w' hf he
      have f23 : a.tmps.getD 60 undef = .bool true := he 23 (by kernel_rfl)
      refine wpOp_step rfl (fun K hK => ?_)
      go_simp
      exact hK _ _ ⟨_, rfl, rfl, World.grownBy.refl _ _⟩
    · intro a w' hf he
      have k3 : a.tmps.getD 3 undef = .pointer (some ⟨p2, 0, none⟩) := hf.var (by kernel_rfl) rfl
      have f24 : a.tmps.getD 61 undef = .bool true := he 24 (by kernel_rfl)
      refine wpOp_run rfl rfl rfl f24 (fun K hK => ?_)
      go_simp
      exact hK _ _ ⟨_, rfl, rfl, World.grownBy.refl _ _⟩
    · intro a w' hf he
      have f25 : a.tmps.getD 62 undef = .pointer (some ⟨p2, 0, none⟩) := he 25 (by kernel_rfl)
      have f24 : a.tmps.getD 61 undef = .bool true := he 24 (by kernel_rfl)
      rw [show kindRow _ _ = none from by kernel_rfl] at hf
      refine wpOp_run rfl rfl rfl f24 (fun K hK => ?_)
      go_simp
      refine (Dirty.c_GetI (HK2.out.bel hf.bel) 2 4 HlB4.out).mono ?_
      rintro e w9 ⟨rfl, hb9⟩
      exact hK _ _ ⟨_, rfl, rfl, grown_bel hb9⟩
    · intro a w' hf he
      have f26 : a.tmps.getD 63 undef = .int .u64 4 := he 26 (by kernel_rfl)
      have f24 : a.tmps.getD 61 undef = .bool true := he 24 (by kernel_rfl)
      refine wpOp_run rfl rfl rfl f24 (fun K hK => ?_)
      go_simp
      exact hK _ _ ⟨_, rfl, rfl, World.grownBy.refl _ _⟩
    · intro a w' hf he
      have f24 : a.tmps.getD 61 undef = .bool true := he 24 (by kernel_rfl)
      have f27 : a.tmps.getD 64 undef = .bool true := he 27 (by kernel_rfl)
      refine wpOp_step rfl (fun K hK => ?_)
      go_simp
      exact hK _ _ ⟨_, rfl, rfl, World.grownBy.refl _ _⟩
    · intro a w' hf he
      have f28 : a.tmps.getD 65 undef = .bool true := he 28 (by kernel_rfl)
      refine wpOp_step rfl (fun K hK => ?_)
      go_simp
      exact hK _ _ ⟨_, rfl, rfl, World.grownBy.refl _ _⟩
    · intro a w' hf he
      have k3 : a.tmps.getD 3 undef = .pointer (some ⟨p2, 0, none⟩) := hf.var (by kernel_rfl) rfl
      have f29 : a.tmps.getD 66 undef = .bool true := he 29 (by kernel_rfl)
      refine wpOp_run rfl rfl rfl f29 (fun K hK => ?_)
      go_simp
      exact hK _ _ ⟨_, rfl, rfl, World.grownBy.refl _ _⟩
    · intro a w' hf he
      have f30 : a.tmps.getD 67 undef = .pointer (some ⟨p2, 0, none⟩) := he 30 (by kernel_rfl)
      have f29 : a.tmps.getD 66 undef = .bool true := he 29 (by kernel_rfl)
      rw [show kindRow _ _ = none from by kernel_rfl] at hf
      refine wpOp_run rfl rfl rfl f29 (fun K hK => ?_)
      go_simp
      refine (c_ImageE (HK2.out.bel hf.bel)).mono ?_
      rw [HiE.out]
      rintro e w9 ⟨A9, c9, rfl, ho9, hb9⟩
      exact hK _ _ ⟨_, rfl, ⟨_, _, rfl, ho9.rd⟩, grown_bel hb9⟩
    · intro a w' hf he
      obtain ⟨A31, c31, hv31, hr31⟩ := he 31 (by kernel_rfl)
      have f31 : a.tmps.getD 68 undef = _ := hv31
      have f29 : a.tmps.getD 66 undef = .bool true := he 29 (by kernel_rfl)
      rw [show kindRow _ _ = none from by kernel_rfl] at hf
      have hcv := run_str (P := Tryz.prog) w' 23 9 5 A31 (img DA).length c31 (img DA) Tryz.underlying23 Tryz.underlying5 Tryz.underlying9 hr31
      refine wpOp_run rfl rfl rfl f29 (fun K hK => ?_)
      go_simp
      exact hK _ _ ⟨_, rfl, rfl, World.grownBy.refl _ _⟩
    · intro a w' hf he
      have k1 : a.tmps.getD 1 undef = .pointer (some ⟨p, 0, none⟩) := hf.var (by kernel_rfl) rfl
      have f29 : a.tmps.getD 66 undef = .bool true := he 29 (by kernel_rfl)
      refine wpOp_run rfl rfl rfl f29 (fun K hK => ?_)
      go_simp
      exact hK _ _ ⟨_, rfl, rfl, World.grownBy.refl _ _⟩
    · intro a w' hf he
      have f33 : a.tmps.getD 70 undef = .pointer (some ⟨p, 0, none⟩) := he 33 (by kernel_rfl)
      have f29 : a.tmps.getD 66 undef = .bool true := he 29 (by kernel_rfl)
      rw [show kindRow _ _ = none from by kernel_rfl] at hf
      refine wpOp_run rfl rfl rfl f29 (fun K hK => ?_)
      go_simp
      refine (c_ImageE (HK.out.bel hf.bel)).mono ?_
      rintro e w9 ⟨A9, c9, rfl, ho9, hb9⟩
      exact hK _ _ ⟨_, rfl, ⟨_, _, rfl, ho9.rd⟩, grown_bel hb9⟩
    · intro a w' hf he
      obtain ⟨A34, c34, hv34, hr34⟩ := he 34 (by kernel_rfl)
      have f34 : a.tmps.getD 71 undef = _ := hv34
      have f29 : a.tmps.getD 66 undef = .bool true := he 29 (by kernel_rfl)
      rw [show kindRow _ _ = none from by kernel_rfl] at hf
      have hcv := run_str (P := Tryz.prog) w' 23 9 5 A34 (img DA).length c34 (img DA) Tryz.underlying23 Tryz.underlying5 Tryz.underlying9 hr34
      refine wpOp_run rfl rfl rfl f29 (fun K hK => ?_)
      go_simp
      exact hK _ _ ⟨_, rfl, rfl, World.grownBy.refl _ _⟩
    · intro a w' hf he
      have f32 : a.tmps.getD 69 undef = .string ⟨(img DA).toArray⟩ := he 32 (by kernel_rfl)
      have f35 : a.tmps.getD 72 undef = .string ⟨(img DA).toArray⟩ := he 35 (by kernel_rfl)
      have f29 : a.tmps.getD 66 undef = .bool true := he 29 (by kernel_rfl)
      refine wpOp_run rfl rfl rfl f29 (fun K hK => ?_)
      go_simp
      exact hK _ _ ⟨_, rfl, rfl, World.grownBy.refl _ _⟩
    · intro a w' hf he
      have f29 : a.tmps.getD 66 undef = .bool true := he 29 (by kernel_rfl)
      have f36 : a.tmps.getD 73 undef = .bool true := he 36 (by kernel_rfl)
      refine wpOp_step rfl (fun K hK => ?_)
      go_simp
      exact hK _ _ ⟨_, rfl, rfl, World.grownBy.refl _ _⟩
    · intro a w' hf he
      have f37 : a.tmps.getD 74 undef = .bool true := he 37 (by kernel_rfl)
      refine wpOp_step rfl (fun K hK => ?_)
      go_simp
      exact hK _ _ ⟨_, rfl, rfl, World.grownBy.refl _ _⟩
  · intro a w' hf he
    obtain ⟨u37, f0⟩ : ∃ u, a.tmps.getD 37 undef = u := ⟨_, rfl⟩
    obtain ⟨u38, f1⟩ : ∃ u, a.tmps.getD 38 undef = u := ⟨_, rfl⟩
    obtain ⟨u39, f2⟩ : ∃ u, a.tmps.getD 39 undef = u := ⟨_, rfl⟩
    obtain ⟨u40, f3⟩ : ∃ u, a.tmps.getD 40 undef = u := ⟨_, rfl⟩
    obtain ⟨u41, f4⟩ : ∃ u, a.tmps.getD 41 undef = u := ⟨_, rfl⟩
    obtain ⟨u42, f5⟩ : ∃ u, a.tmps.getD 42 undef = u := ⟨_, rfl⟩
    obtain ⟨u43, f6⟩ : ∃ u, a.tmps.getD 43 undef = u := ⟨_, rfl⟩
    obtain ⟨u44, f7⟩ : ∃ u, a.tmps.getD 44 undef = u := ⟨_, rfl⟩
    obtain ⟨u45, f8⟩ : ∃ u, a.tmps.getD 45 undef = u := ⟨_, rfl⟩
    obtain ⟨u46, f9⟩ : ∃ u, a.tmps.getD 46 undef = u := ⟨_, rfl⟩
    obtain ⟨u47, f10⟩ : ∃ u, a.tmps.getD 47 undef = u := ⟨_, rfl⟩
    obtain ⟨u48, f11⟩ : ∃ u, a.tmps.getD 48 undef = u := ⟨_, rfl⟩
    obtain ⟨u49, f12⟩ : ∃ u, a.tmps.getD 49 undef = u := ⟨_, rfl⟩
    obtain ⟨u50, f13⟩ : ∃ u, a.tmps.getD 50 undef = u := ⟨_, rfl⟩
    obtain ⟨u51, f14⟩ : ∃ u, a.tmps.getD 51 undef = u := ⟨_, rfl⟩
    obtain ⟨u52, f15⟩ : ∃ u, a.tmps.getD 52 undef = u := ⟨_, rfl⟩
    obtain ⟨u53, f16⟩ : ∃ u, a.tmps.getD 53 undef = u := ⟨_, rfl⟩
    obtain ⟨u54, f17⟩ : ∃ u, a.tmps.getD 54 undef = u := ⟨_, rfl⟩
    obtain ⟨u55, f18⟩ : ∃ u, a.tmps.getD 55 undef = u := ⟨_, rfl⟩
    obtain ⟨u56, f19⟩ : ∃ u, a.tmps.getD 56 undef = u := ⟨_, rfl⟩
    obtain ⟨u57, f20⟩ : ∃ u, a.tmps.getD 57 undef = u := ⟨_, rfl⟩
    obtain ⟨u58, f21⟩ : ∃ u, a.tmps.getD 58 undef = u := ⟨_, rfl⟩
    obtain ⟨u59, f22⟩ : ∃ u, a.tmps.getD 59 undef = u := ⟨_, rfl⟩
    obtain ⟨u60, f23⟩ : ∃ u, a.tmps.getD 60 undef = u := ⟨_, rfl⟩
    obtain ⟨u61, f24⟩ : ∃ u, a.tmps.getD 61 undef = u := ⟨_, rfl⟩
    obtain ⟨u62, f25⟩ : ∃ u, a.tmps.getD 62 undef = u := ⟨_, rfl⟩
    obtain ⟨u63, f26⟩ : ∃ u, a.tmps.getD 63 undef = u := ⟨_, rfl⟩
    obtain ⟨u64, f27⟩ : ∃ u, a.tmps.getD 64 undef = u := ⟨_, rfl⟩
    obtain ⟨u65, f28⟩ : ∃ u, a.tmps.getD 65 undef = u := ⟨_, rfl⟩
    obtain ⟨u66, f29⟩ : ∃ u, a.tmps.getD 66 undef = u := ⟨_, rfl⟩
    obtain ⟨u67, f30⟩ : ∃ u, a.tmps.getD 67 undef = u := ⟨_, rfl⟩
    obtain ⟨u68, f31⟩ : ∃ u, a.tmps.getD 68 undef = u := ⟨_, rfl⟩
    obtain ⟨u69, f32⟩ : ∃ u, a.tmps.getD 69 undef = u := ⟨_, rfl⟩
    obtain ⟨u70, f33⟩ : ∃ u, a.tmps.getD 70 undef = u := ⟨_, rfl⟩
    obtain ⟨u71, f34⟩ : ∃ u, a.tmps.getD 71 undef = u := ⟨_, rfl⟩
    obtain ⟨u72, f35⟩ : ∃ u, a.tmps.getD 72 undef = u := ⟨_, rfl⟩
    obtain ⟨u73, f36⟩ : ∃ u, a.tmps.getD 73 undef = u := ⟨_, rfl⟩
    obtain ⟨u74, f37⟩ : ∃ u, a.tmps.getD 74 undef = u := ⟨_, rfl⟩
    have f38 : a.tmps.getD 0 undef = .bool true := he 38 (by decide)
    have hlit := hf.lit ((37, u37) :: (38, u38) :: (39, u39) :: (40, u40) :: (41, u41) :: (42, u42) :: (43, u43) :: (44, u44) :: (45, u45) :: (46, u46) :: (47, u47) :: (48, u48) :: (49, u49) :: (50, u50) :: (51, u51) :: (52, u52) :: (53, u53) :: (54, u54) :: (55, u55) :: (56, u56) :: (57, u57) :: (58, u58) :: (59, u59) :: (60, u60) :: (61, u61) :: (62, u62) :: (63, u63) :: (64, u64) :: (65, u65) :: (66, u66) :: (67, u67) :: (68, u68) :: (69, u69) :: (70, u70) :: (71, u71) :: (72, u72) :: (73, u73) :: (74, u74) :: (0, .bool true) :: []) (by kernel_rfl) ⟨f0, f1, f2, f3, f4, f5, f6, f7, f8, f9, f10, f11, f12, f13, f14, f15, f16, f17, f18, f19, f20, f21, f22, f23, f24, f25, f26, f27, f28, f29, f30, f31, f32, f33, f34, f35, f36, f37, f38, trivial⟩
    have hB := hf.bel
    clear he hf f0 f1 f2 f3 f4 f5 f6 f7 f8 f9 f10 f11 f12 f13 f14 f15 f16 f17 f18 f19 f20 f21 f22 f23 f24 f25 f26 f27 f28 f29 f30 f31 f32 f33 f34 f35 f36 f37 f38 
    subst hlit
    simp only [putAll_nil, putAll_cons, Act.put, List.setIfInBounds_toArray, List.set_cons_zero, List.set_cons_succ]
    simp only [List.drop_succ_cons, List.drop_zero]
    have HB9 := Lib.hid (HB.out.trans (hB.mono HB.out.size))
    clear hB
    go_wp2_with fail
    go_ret
    exact ⟨rfl, HB9.out⟩
theorem byt_nil (w : World) : Byt w none 0 0 [] := ⟨rfl, Nat.le_refl _, by simp [maxLen], fun _ => rfl, fun ad e => by cases e⟩
theorem r_Same0 (w : World) : Calls Tryz.prog 42 #[.agg m0, .agg m0] w fun e w' => e = .returned (.bool true) ∧ Below w.heap.size w w' := by
  have HB := Lib.hid (((Below.refl w.heap.size w).alloc (Nat.le_refl _) (.cells m0 25)).alloc (by simp) (.cells m0 25))
  have ks := fun w => run_str (P := Tryz.prog) w 23 9 5 none 0 0 [] Tryz.underlying23 Tryz.underlying5 Tryz.underlying9 (byt_nil w)
  unfold m0 at *
  go_enter Tryz.func42, Tryz.ntmps42
  go_wp2_with fail
  go_ret
  exact ⟨rfl, HB.out⟩
theorem c_Told_nil (x : Int) (w : World) (hx : -9223372036854775808 ≤ x ∧ x ≤ 9223372036854775807) : Calls Tryz.prog 45 #[.pointer none, .int .i64 x] w fun e w' => (∃ E : Int, e = .returned (.tuple #[.int .u64 0, .int .i64 E]) ∧ E ≠ 0) ∧ Below w.heap.size w w' := by
  by_cases h1 : x < 0
  · go_enter Tryz.func45, Tryz.ntmps45
    go_wp2_with fail
    go_ret2
    exact ⟨⟨2, rfl, by omega⟩, Below.refl _ _⟩
  · by_cases h2 : 64 ≤ x
    · go_enter Tryz.func45, Tryz.ntmps45
      go_wp2_with fail
      go_ret2
      exact ⟨⟨2, rfl, by omega⟩, Below.refl _ _⟩
    · go_enter Tryz.func45, Tryz.ntmps45
      go_wp2_with (first
        | (go_at_call 25
           (with_reducible refine (Dirty.c_Clear_nil _ _).mono ?_)
           rintro e w1 ⟨rfl, hb1⟩
           have HB1 := Lib.hid hb1
           clear hb1))
      go_ret2
      exact ⟨⟨1, rfl, by omega⟩, HB1.out⟩
/-- an act as cells -/
def cactV (a0 at_ : Int) (ms : Nat) (k i x : Int) (m : Nat) (wb : Bool) (A : Option Addr) (n cb : Nat) : List Value := [.int .i64 a0, .int .i64 at_, .int .u64 (ms : Int), .int .i64 k, .int .i64 i, .int .i64 x, .int .u64 (m : Int), .bool wb, .slice A n cb]
theorem cact_cells {W : World} {g : Nat} {a0 at_ : Int} {ms : Nat} {k i x : Int} {m : Nat} {wb : Bool} {A : Option Addr} {n cb : Nat} {t : TypeId} (h : W.heap[g]? = some (.cells (cactV a0 at_ ms k i x m wb A n cb).toArray t (0, 0))) :
    W.cell? ⟨g, 1, none⟩ = some (.int .i64 at_) ∧ W.cell? ⟨g, 8, none⟩ = some (.slice A n cb) ∧ ∀ (j : Nat) (v : Value), (msV k i x m wb A n cb)[j]? = some v → W.cell? ((⟨g, 3, none⟩ : Addr).add j) = some v := by
  refine ⟨cells_of h 1 _ rfl, cells_of h 8 _ rfl, fun j v hv => ?_⟩
  rw [Addr.add_mid]
  refine cells_of h (3 + j) v ?_
  match j, hv with
  | 0, hv => exact hv
  | 1, hv => exact hv
  | 2, hv => exact hv
  | 3, hv => exact hv
  | 4, hv => exact hv
  | 5, hv => exact hv
section
open Go.ChangeShapes Go.WideShapes Go.Deep
variable {H : Type} {enc : TypeId × Value → H} {P : Program} {W : World} {base : Nat} {spare : Nat → Bool} {held : Bool}
def CActL : List Leaf := [.int .i64, .int .i64, .int .u64, .int .i64, .int .i64, .int .i64, .int .u64, .bool, .bytes]
theorem cact_of {W : World} {r : List Value} (h : RowOk W CActL r) : ∃ (a0 at_ : Int) (ms : Nat) (k i x : Int) (m : Nat) (wb : Bool) (A : Option Addr) (n cb : Nat) (b : List UInt8), r = cactV a0 at_ ms k i x m wb A n cb ∧ (-9223372036854775808 ≤ at_ ∧ at_ ≤ 9223372036854775807) ∧ (-9223372036854775808 ≤ x ∧ x ≤ 9223372036854775807) ∧ ms < 18446744073709551616 ∧ m < 18446744073709551616 ∧ Byt W A n cb b := by
  obtain ⟨v1, r1, rfl, k1, h⟩ := rowOk_cons h
  obtain ⟨v2, r2, rfl, k2, h⟩ := rowOk_cons h
  obtain ⟨v3, r3, rfl, k3, h⟩ := rowOk_cons h
  obtain ⟨v4, r4, rfl, k4, h⟩ := rowOk_cons h
  obtain ⟨v5, r5, rfl, k5, h⟩ := rowOk_cons h
  obtain ⟨v6, r6, rfl, k6, h⟩ := rowOk_cons h
  obtain ⟨v7, r7, rfl, k7, h⟩ := rowOk_cons h
  obtain ⟨v8, r8, rfl, k8, h⟩ := rowOk_cons h
  obtain ⟨v9, r9, rfl, k9, h⟩ := rowOk_cons h
  obtain rfl := rowOk_nil h
  obtain ⟨z1, rfl, q1⟩ := leaf_i64 k1
  obtain ⟨z2, rfl, q2⟩ := leaf_i64 k2
  obtain ⟨z3, rfl, q3⟩ := leaf_u64 k3
  obtain ⟨z4, rfl, q4⟩ := leaf_i64 k4
  obtain ⟨z5, rfl, q5⟩ := leaf_i64 k5
  obtain ⟨z6, rfl, q6⟩ := leaf_i64 k6
  obtain ⟨z7, rfl, q7⟩ := leaf_u64 k7
  obtain ⟨z8, rfl⟩ := k8
  obtain ⟨A, n, cb, b, rfl, hb⟩ := k9
  exact ⟨z1, z2, z3, z4, z5, z6, z7, z8, A, n, cb, b, rfl, q2, q6, q3, q7, hb⟩
theorem open_cact {r : Reach} {base2 : Nat} {t : TypeId} {v : Value} {d : DataW H} {ps : List MemPlace} (hL : flat P 6 t = some CActL) (hc : P.cellsOf t = 9) (ht : (P.underlying t).map (·.isRow) = some true)
    (hv : Value.okWide P W r base2 t v) (h : DataW.Trod enc P W base spare held t v d ps) : ∃ (a0 at_ : Int) (ms : Nat) (k i x : Int) (m : Nat) (wb : Bool) (A : Option Addr) (n cb : Nat) (b : List UInt8), v = .agg (cactV a0 at_ ms k i x m wb A n cb).toArray ∧ (-9223372036854775808 ≤ at_ ∧ at_ ≤ 9223372036854775807) ∧ (-9223372036854775808 ≤ x ∧ x ≤ 9223372036854775807) ∧ Byt W A n cb b := by
  obtain ⟨cs, rfl, hr⟩ := open_agg 6 hL hc ht hv h
  obtain ⟨a0, at_, ms, k, i, x, m, wb, A, n, cb, b, rfl, q2, q6, _, _, hb⟩ := cact_of hr
  exact ⟨a0, at_, ms, k, i, x, m, wb, A, n, cb, b, rfl, q2, q6, hb⟩
end
end Go.Proofs.YtaldlapnhhhclaaGreat.Copying
