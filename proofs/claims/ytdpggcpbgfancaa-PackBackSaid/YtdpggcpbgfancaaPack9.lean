/- Contracts of the package pack: read. Conditions: none. -/
import Derived.Test.YtdpggcpbgfancaaPack8
set_option linter.unusedVariables false
set_option linter.unusedSimpArgs false
namespace Go.Proofs.Ytdpggcpbgfancaa.Pack
open Go.RowKit Tw
set_option maxHeartbeats 8000000
set_option maxRecDepth 100000
theorem Rdr.fr {W0 w w' : World} {g : Nat} {b : List UInt8} {out : Bool} {S : Nat → Prop} (h : Rdr W0 w g b out) (hf : Fr S w w') (hn : ¬ S g) : Rdr W0 w' g b out := by
  obtain ⟨A, n, c, hx, hb⟩ := h
  exact ⟨A, n, c, heap_fr hx hf hn, hb⟩
theorem Rdr.cast {W0 w : World} {g : Nat} {b : List UInt8} {o o' : Bool} (h : Rdr W0 w g b o) (e : o = o') : Rdr W0 w g b o' := e ▸ h
def lastId : Nat := 72057594037927935
def fM (a : Bool) (r : List UInt8) : Nat := if a = true then Num.gv 8 (r.drop 1) else 0
def fW (a : Bool) (r : List UInt8) : Bool := if a = true then (((r.getD 0 0).toNat : Int) == 1) else false
def fI (b : Bool) (r : List UInt8) : Nat := if b = true then (if Num.gv 8 r ≤ 72057594037927935 then Num.gv 8 r else 72057594037927935) else 0
def fO (b c : Bool) (r : List UInt8) : Nat := if c = true then Num.gv 2 (if b = true then r.drop 8 else r) else 0
def nd (a b c : Bool) : Nat := (if a = true then 9 else 0) + (if b = true then 8 else 0) + (if c = true then 2 else 0)
def fine (a b : Bool) (r : List UInt8) : Bool := if a = true then decide (((r.getD 0 0).toNat : Int) ≤ 1) else if b = true then decide (Num.gv 8 r ≤ 72057594037927935) else true
theorem outW (r : List UInt8) : (false || decide (r.length < 1) || decide ((r.drop 1).length < 8)) = decide (r.length < nd true false false) := by
  have e : nd true false false = 9 := rfl
  rw [e, Bool.eq_iff_iff]
  simp only [Bool.or_eq_true, decide_eq_true_eq, List.length_drop, Bool.false_eq_true, false_or]
  omega
theorem outIO (r : List UInt8) : (false || decide (r.length < 8) || decide ((r.drop 8).length < 2)) = decide (r.length < nd false true true) := by
  have e : nd false true true = 10 := rfl
  rw [e, Bool.eq_iff_iff]
  simp only [Bool.or_eq_true, decide_eq_true_eq, List.length_drop, Bool.false_eq_true, false_or]
  omega
theorem outI (r : List UInt8) : (false || decide (r.length < 8)) = decide (r.length < nd false true false) := by
  have e : nd false true false = 8 := rfl
  rw [e, Bool.eq_iff_iff]
  simp only [Bool.or_eq_true, decide_eq_true_eq, Bool.false_eq_true, false_or]
theorem outO (r : List UInt8) : (false || decide (r.length < 2)) = decide (r.length < nd false false true) := by
  have e : nd false false true = 2 := rfl
  rw [e, Bool.eq_iff_iff]
  simp only [Bool.or_eq_true, decide_eq_true_eq, Bool.false_eq_true, false_or]
theorem outN (r : List UInt8) : false = decide (r.length < nd false false false) := by
  have e : nd false false false = 0 := rfl
  rw [e, Bool.eq_iff_iff]
  simp only [decide_eq_true_eq, Bool.false_eq_true, false_iff]
  omega
theorem c_readW (W0 : World) (g : Nat) (r : List UInt8) (K : Int) (s : ByteArray) (a b c d : Bool) (w : World) (h : Rdr W0 w g r false) (hB : Below W0.heap.size W0 w) (hg : W0.heap.size ≤ g) (hr : r.length ≤ 1000) (ha : a = true) (hbb : b = false) (hcc : c = false) (hVL : True) :
    Calls Try.prog 96 #[.pointer (some ⟨g, 0, none⟩), .int .i64 K, .agg #[.string s, .bool a, .bool b, .bool c, .bool d]] w fun e w' => ∃ A2 n2 c2, e = .returned (.tuple #[.agg #[.int .i64 K, .int .i64 (fI b r : Int), .int .i64 (fO b c r : Int), .int .u64 (fM a r : Int), .bool (fW a r), .slice A2 n2 c2], .bool (fine a b r)]) ∧
      Byt w' A2 n2 c2 (r.drop (nd a b c)) ∧ (∃ q, Rdr W0 w' g q (decide (r.length < nd a b c))) ∧ Fr (fun j => j = g) w w' ∧ (∀ ad, A2 = some ad → w.heap.size ≤ ad.block) := by
  subst ha hbb hcc
  obtain ⟨W2, hW2, x1, x2, hb2⟩ := Bx.two_boxes w (.cells #[.string s, .bool true, .bool false, .bool false, .bool d] 119) (.cells #[.int .i64 0, .int .i64 0, .int .i64 0, .int .u64 0, .bool false, .slice none 0 0] 42)
  have HQ := Lib.hid (h.fr (Fr.of_bel (S := fun _ => False) hb2) (fun h => h))
  have HF : Hid (Fr (fun j => j = g) w W2) := Lib.hid (Fr.of_bel hb2)
  have HB0 := Lib.hid hB
  have HS := Lib.hid x1
  have HR := Lib.hid x2
  have hgl : g < w.heap.size := by obtain ⟨A, n, c, hx, -⟩ := h; exact heap_lt hx
  clear x1 x2 hb2 h hB
  have hby := fun w out (h : Rdr W0 w g r out) hB => c_byte W0 g r out w h hB hg
  have hw1 := fun w out (h : Rdr W0 w g (r.drop 1) out) hB => c_wide W0 g (r.drop 1) out w h hB hg
  have hw0 := fun w out (h : Rdr W0 w g r out) hB => c_wide W0 g r out w h hB hg
  have ho8 := fun w out (h : Rdr W0 w g (r.drop 8) out) hB => c_roff W0 g (r.drop 8) out w h hB hg
  have ho0 := fun w out (h : Rdr W0 w g r out) hB => c_roff W0 g r out w h hB hg
  obtain ⟨FL, hFL⟩ : ∃ q, (r.getD 0 0).toNat = q := ⟨_, rfl⟩
  obtain ⟨M, hM⟩ : ∃ q, Num.gv 8 (r.drop 1) = q := ⟨_, rfl⟩
  obtain ⟨V, hV⟩ : ∃ q, Num.gv 8 r = q := ⟨_, rfl⟩
  obtain ⟨O8, hO8⟩ : ∃ q, Num.gv 2 (r.drop 8) = q := ⟨_, rfl⟩
  obtain ⟨O0, hO0⟩ : ∃ q, Num.gv 2 r = q := ⟨_, rfl⟩
  have hVl : V < 18446744073709551616 := by rw [← hV]; exact Num.gv_lt 8 r
  rw [hFL] at hby
  rw [hM] at hw1
  rw [hV] at hw0
  rw [hO8] at ho8
  rw [hO0] at ho0
  skip
  have HFL := Lib.hid hFL
  have HM := Lib.hid hM
  have HV := Lib.hid hV
  have HO8 := Lib.hid hO8
  have HO0 := Lib.hid hO0
  have Hhb := Lib.hid hby
  have Hw1 := Lib.hid hw1
  have Hw0 := Lib.hid hw0
  have Ho8 := Lib.hid ho8
  have Ho0 := Lib.hid ho0
  clear hFL hM hV hO8 hO0 hby hw1 hw0 ho8 ho0
  go_enter Try.func96, Try.ntmps96
  go_upto_region 1 with (fail)
  rw [← hW2]
  clear hW2
  obtain ⟨l0, l1, l2, l3, l4⟩ := cells5 HS.out
  go_upto_region 2 with (first
    | (refine Bx.wpL_store_all rfl rfl 42 (.tmp 8) (.tmp 13) rfl _ rfl _ rfl _ _ (heap_alloc_new W2 _) (by kernel_rfl) rfl (by simp [Value.oneCell']) ?_
       intro w4 x4 g4
       have F4 : Fr (fun k => k = W2.heap.size) W2 w4 := (Fr.alloc _).trans (Fr.grown (S := fun k => k = W2.heap.size) g4 (by rintro k ⟨⟩; rfl)) (fun _ _ h => h)
       have hsz := heap_lt HS.out
       have hrz := heap_lt HR.out
       have HQ := Lib.hid (HQ.out.fr F4 (by omega))
       have HS := Lib.hid (heap_fr HS.out F4 (by omega))
       have HR := Lib.hid (heap_fr HR.out F4 (by omega))
       have HF := Lib.hid (HF.out.trans F4 (fun b hb e => by omega))
       have HX := Lib.hid x4
       have hrz' : w.heap.size + 1 < W2.heap.size := hrz
       clear x4 g4 F4 l0 l1 l2 l3 l4 hsz hrz
       obtain ⟨l0, l1, l2, l3, l4⟩ := cells5 HS.out)
    | fail)
  generalize W2.heap.size = g8 at *
  go_upto_region 12 with (first
  | (go_at_call 95
     (with_reducible refine (Hhb.out _ _ HQ.out (HB0.out.trans (HF.out.bel (fun k e => by omega) HB0.out.size))).mono ?_)
     rintro e w5 ⟨rfl, hq5, f5⟩
     replace HQ := Lib.hid hq5
     clear hq5
     replace HS := Lib.hid (heap_fr HS.out f5 (by omega))
     replace HR := Lib.hid (heap_fr HR.out f5 (by omega))
     replace HX := Lib.hid (heap_fr HX.out f5 (by omega))
     replace HF := Lib.hid (HF.out.trans f5 (fun b hb e => by omega))
     clear f5 l0 l1 l2 l3 l4
     obtain ⟨l0, l1, l2, l3, l4⟩ := cells5 HS.out
     )
  | (go_at_call 140
     (with_reducible refine (Hw1.out _ _ HQ.out (HB0.out.trans (HF.out.bel (fun k e => by omega) HB0.out.size))).mono ?_)
     rintro e w5 ⟨rfl, hq5, f5⟩
     replace HQ := Lib.hid hq5
     clear hq5
     replace HS := Lib.hid (heap_fr HS.out f5 (by omega))
     replace HR := Lib.hid (heap_fr HR.out f5 (by omega))
     replace HX := Lib.hid (heap_fr HX.out f5 (by omega))
     replace HF := Lib.hid (HF.out.trans f5 (fun b hb e => by omega))
     clear f5 l0 l1 l2 l3 l4
     obtain ⟨l0, l1, l2, l3, l4⟩ := cells5 HS.out
     )
  | (refine wpL_store_cell rfl rfl 4 (.tmp 22) (.tmp 19) rfl g8 4 rfl (.bool ((FL : Int) == 1)) (by first | rfl | (go_simp; done) | (simp; done)) rfl rfl (by kernel_rfl) _ _ HX.out (by simp) ?_
     intro w6 x6 g6
     have f6 : Fr (fun k => k = g8) _ w6 := Fr.grown g6 (by rintro k ⟨⟩; rfl)
     simp only [List.setIfInBounds_toArray, List.set_cons_zero, List.set_cons_succ] at x6
     replace HQ := Lib.hid (HQ.out.fr f6 (by omega))
     replace HS := Lib.hid (heap_fr HS.out f6 (by omega))
     replace HR := Lib.hid (heap_fr HR.out f6 (by omega))
     replace HF := Lib.hid (HF.out.trans f6 (fun b hb e => by omega))
     replace HX := Lib.hid x6
     clear f6 g6 x6 l0 l1 l2 l3 l4
     obtain ⟨l0, l1, l2, l3, l4⟩ := cells5 HS.out)
  | (refine wpL_store_cell rfl rfl 40 (.tmp 25) (.tmp 24) rfl g8 3 rfl (.int .u64 (M : Int)) (by first | rfl | (go_simp; done) | (simp; done)) rfl rfl (by kernel_rfl) _ _ HX.out (by simp) ?_
     intro w6 x6 g6
     have f6 : Fr (fun k => k = g8) _ w6 := Fr.grown g6 (by rintro k ⟨⟩; rfl)
     simp only [List.setIfInBounds_toArray, List.set_cons_zero, List.set_cons_succ] at x6
     replace HQ := Lib.hid (HQ.out.fr f6 (by omega))
     replace HS := Lib.hid (heap_fr HS.out f6 (by omega))
     replace HR := Lib.hid (heap_fr HR.out f6 (by omega))
     replace HF := Lib.hid (HF.out.trans f6 (fun b hb e => by omega))
     replace HX := Lib.hid x6
     clear f6 g6 x6 l0 l1 l2 l3 l4
     obtain ⟨l0, l1, l2, l3, l4⟩ := cells5 HS.out)
  | fail)
  obtain ⟨q9, hq9⟩ : ∃ q, (r.drop 1).drop 8 = q := ⟨_, rfl⟩
  have Hdr : Hid (r.drop (nd true false false) = q9) := Lib.hid (by rw [← hq9]; simp [nd, List.drop_drop])
  rw [hq9] at HQ
  have hq9l : q9.length ≤ 1000 := by rw [← hq9]; (try simp only [List.length_drop]); omega
  clear hq9
  obtain ⟨ot, hot⟩ : ∃ o, o = decide (r.length < nd true false false) := ⟨_, rfl⟩
  have HQ2 := Lib.hid (HQ.out.cast (o' := ot) (by rw [hot]; exact (outW r)))
  have HE : Hid (fI false r = 0 ∧ fO false false r = 0 ∧ fM true r = M ∧ fW true r = ((FL : Int) == 1) ∧ fine true false r = decide ((FL : Int) ≤ 1)) := Lib.hid (by rw [← HM.out, ← HFL.out]; exact ⟨rfl, rfl, rfl, rfl, rfl⟩)
  have Hot := Lib.hid hot
  clear hot HQ
  obtain ⟨A9, n9, c9, hx9, hb9⟩ := HQ2.out
  have H9 := Lib.hid (hb9.below (HB0.out.trans (HF.out.bel (fun k e => by omega) HB0.out.size)) (Nat.le_refl _))
  have hn9 : q9.length = n9 := hb9.blen
  obtain ⟨m0, m1⟩ := cells2 hx9
  obtain ⟨k0, k1, k2, k3, k4, k5⟩ := Bx.cells6 HX.out
  have hg8 := heap_lt HX.out
  clear hx9 hb9
  by_cases hz : n9 = 0
  · subst hz
    go_wp2_with (first
    | (refine Bx.wpL_store_all rfl rfl 42 (.tmp 6) (.tmp 53) rfl _ rfl _ rfl _ _ HR.out (by kernel_rfl) rfl (by simp [Value.oneCell']) ?_
       intro w12 x12 g12
       have f12 : Fr (fun k => k = w.heap.size + 1) _ w12 := Fr.grown g12 (by rintro k ⟨⟩; rfl)
       have HRR := Lib.hid x12
       replace HQ2 := Lib.hid (HQ2.out.fr f12 (by omega))
       replace HF := Lib.hid (HF.out.trans f12 (fun b hb e => by omega))
       have F12 := Lib.hid f12
       clear f12 g12 x12)
      | fail)
    refine bodyPost_ret (Bx.results_cell2 rfl _ _ (w.heap.size + 1) _ _ (0, 0) _ rfl HRR.out Try.underlying42 rfl (by kernel_rfl) _ rfl) rfl ?_
    refine ⟨_, _, _, ?_, (by rw [Hdr.out, List.eq_nil_of_length_eq_zero hn9]; exact Rd.nil_), ⟨q9, ?_⟩, HF.out, (fun ad e => by cases e)⟩
    · rw [HE.out.1, HE.out.2.1, HE.out.2.2.1, HE.out.2.2.2.1, HE.out.2.2.2.2]
      rfl
    · rw [← Hot.out]; exact HQ2.out
  · have hz' : 0 < n9 := by omega
    clear hz
    go_wp2_with (first
      | (go_at_call 81
         (with_reducible refine (Bx.c_bClone _ _ _ _ _ H9.out (by omega)).mono ?_)
         rintro e w10 ⟨A10, c10, rfl, ho10, bel10⟩
         have hr8 := heap_lt HR.out
         have hbs := HF.out.size
         have O10 := Lib.hid ho10
         replace HX := Lib.hid ((bel10.block _ (heap_lt HX.out)).trans HX.out)
         replace HR := Lib.hid ((bel10.block _ (heap_lt HR.out)).trans HR.out)
         replace HQ2 := Lib.hid (HQ2.out.fr (Fr.of_bel (S := fun _ => False) bel10) (fun h => h))
         replace HF := Lib.hid (HF.out.trans (Fr.of_bel (S := fun _ => False) bel10) (fun b hb e => e.elim))
         clear bel10 ho10 k0 k1 k2 k3 k4 k5 m0 m1)
      | (refine wpL_store_cell rfl rfl 23 (.tmp 52) (.tmp 51) rfl g8 5 rfl (.slice A10 n9 c10) rfl rfl rfl (by kernel_rfl) _ _ HX.out (by simp) ?_
         intro w11 x11 g11
         have f11 : Fr (fun k => k = g8) _ w11 := Fr.grown g11 (by rintro k ⟨⟩; rfl)
         simp only [List.setIfInBounds_toArray, List.set_cons_zero, List.set_cons_succ] at x11
         replace O10 := Lib.hid (O10.out.fr f11 (fun ad e => by have := (O10.out.at0 ad e).1; omega))
         replace HQ2 := Lib.hid (HQ2.out.fr f11 (by omega))
         replace HR := Lib.hid (heap_fr HR.out f11 (by omega))
         replace HF := Lib.hid (HF.out.trans f11 (fun b hb e => by omega))
         obtain ⟨k0, k1, k2, k3, k4, k5⟩ := Bx.cells6 x11
         clear f11 g11 x11)
      | (refine Bx.wpL_store_all rfl rfl 42 (.tmp 6) (.tmp 53) rfl _ rfl _ rfl _ _ HR.out (by kernel_rfl) rfl (by simp [Value.oneCell']) ?_
         intro w12 x12 g12
         have f12 : Fr (fun k => k = w.heap.size + 1) _ w12 := Fr.grown g12 (by rintro k ⟨⟩; rfl)
         have HRR := Lib.hid x12
         replace HQ2 := Lib.hid (HQ2.out.fr f12 (by omega))
         replace HF := Lib.hid (HF.out.trans f12 (fun b hb e => by omega))
         have F12 := Lib.hid f12
         clear f12 g12 x12)
      )
    have O12 := Lib.hid (O10.out.fr F12.out (fun ad e => by have := (O10.out.at0 ad e).1; omega))
    refine bodyPost_ret (Bx.results_cell2 rfl _ _ (w.heap.size + 1) _ _ (0, 0) _ rfl HRR.out Try.underlying42 rfl (by kernel_rfl) _ rfl) rfl ?_
    refine ⟨_, _, _, ?_, (by rw [Hdr.out]; exact O12.out.rd), ⟨q9, ?_⟩, HF.out, (fun ad e => by have := (O12.out.at0 ad e).1; omega)⟩
    · rw [HE.out.1, HE.out.2.1, HE.out.2.2.1, HE.out.2.2.2.1, HE.out.2.2.2.2]
      rfl
    · rw [← Hot.out]; exact HQ2.out

theorem c_readIO0 (W0 : World) (g : Nat) (r : List UInt8) (K : Int) (s : ByteArray) (a b c d : Bool) (w : World) (h : Rdr W0 w g r false) (hB : Below W0.heap.size W0 w) (hg : W0.heap.size ≤ g) (hr : r.length ≤ 1000) (ha : a = false) (hbb : b = true) (hcc : c = true) (hVL : Num.gv 8 r ≤ 72057594037927935) :
    Calls Try.prog 96 #[.pointer (some ⟨g, 0, none⟩), .int .i64 K, .agg #[.string s, .bool a, .bool b, .bool c, .bool d]] w fun e w' => ∃ A2 n2 c2, e = .returned (.tuple #[.agg #[.int .i64 K, .int .i64 (fI b r : Int), .int .i64 (fO b c r : Int), .int .u64 (fM a r : Int), .bool (fW a r), .slice A2 n2 c2], .bool (fine a b r)]) ∧
      Byt w' A2 n2 c2 (r.drop (nd a b c)) ∧ (∃ q, Rdr W0 w' g q (decide (r.length < nd a b c))) ∧ Fr (fun j => j = g) w w' ∧ (∀ ad, A2 = some ad → w.heap.size ≤ ad.block) := by
  subst ha hbb hcc
  obtain ⟨W2, hW2, x1, x2, hb2⟩ := Bx.two_boxes w (.cells #[.string s, .bool false, .bool true, .bool true, .bool d] 119) (.cells #[.int .i64 0, .int .i64 0, .int .i64 0, .int .u64 0, .bool false, .slice none 0 0] 42)
  have HQ := Lib.hid (h.fr (Fr.of_bel (S := fun _ => False) hb2) (fun h => h))
  have HF : Hid (Fr (fun j => j = g) w W2) := Lib.hid (Fr.of_bel hb2)
  have HB0 := Lib.hid hB
  have HS := Lib.hid x1
  have HR := Lib.hid x2
  have hgl : g < w.heap.size := by obtain ⟨A, n, c, hx, -⟩ := h; exact heap_lt hx
  clear x1 x2 hb2 h hB
  have hby := fun w out (h : Rdr W0 w g r out) hB => c_byte W0 g r out w h hB hg
  have hw1 := fun w out (h : Rdr W0 w g (r.drop 1) out) hB => c_wide W0 g (r.drop 1) out w h hB hg
  have hw0 := fun w out (h : Rdr W0 w g r out) hB => c_wide W0 g r out w h hB hg
  have ho8 := fun w out (h : Rdr W0 w g (r.drop 8) out) hB => c_roff W0 g (r.drop 8) out w h hB hg
  have ho0 := fun w out (h : Rdr W0 w g r out) hB => c_roff W0 g r out w h hB hg
  obtain ⟨FL, hFL⟩ : ∃ q, (r.getD 0 0).toNat = q := ⟨_, rfl⟩
  obtain ⟨M, hM⟩ : ∃ q, Num.gv 8 (r.drop 1) = q := ⟨_, rfl⟩
  obtain ⟨V, hV⟩ : ∃ q, Num.gv 8 r = q := ⟨_, rfl⟩
  obtain ⟨O8, hO8⟩ : ∃ q, Num.gv 2 (r.drop 8) = q := ⟨_, rfl⟩
  obtain ⟨O0, hO0⟩ : ∃ q, Num.gv 2 r = q := ⟨_, rfl⟩
  have hVl : V < 18446744073709551616 := by rw [← hV]; exact Num.gv_lt 8 r
  rw [hFL] at hby
  rw [hM] at hw1
  rw [hV] at hw0
  rw [hO8] at ho8
  rw [hO0] at ho0
  rw [hV] at hVL
  have HFL := Lib.hid hFL
  have HM := Lib.hid hM
  have HV := Lib.hid hV
  have HO8 := Lib.hid hO8
  have HO0 := Lib.hid hO0
  have Hhb := Lib.hid hby
  have Hw1 := Lib.hid hw1
  have Hw0 := Lib.hid hw0
  have Ho8 := Lib.hid ho8
  have Ho0 := Lib.hid ho0
  clear hFL hM hV hO8 hO0 hby hw1 hw0 ho8 ho0
  go_enter Try.func96, Try.ntmps96
  go_upto_region 1 with (fail)
  rw [← hW2]
  clear hW2
  obtain ⟨l0, l1, l2, l3, l4⟩ := cells5 HS.out
  go_upto_region 2 with (first
    | (refine Bx.wpL_store_all rfl rfl 42 (.tmp 8) (.tmp 13) rfl _ rfl _ rfl _ _ (heap_alloc_new W2 _) (by kernel_rfl) rfl (by simp [Value.oneCell']) ?_
       intro w4 x4 g4
       have F4 : Fr (fun k => k = W2.heap.size) W2 w4 := (Fr.alloc _).trans (Fr.grown (S := fun k => k = W2.heap.size) g4 (by rintro k ⟨⟩; rfl)) (fun _ _ h => h)
       have hsz := heap_lt HS.out
       have hrz := heap_lt HR.out
       have HQ := Lib.hid (HQ.out.fr F4 (by omega))
       have HS := Lib.hid (heap_fr HS.out F4 (by omega))
       have HR := Lib.hid (heap_fr HR.out F4 (by omega))
       have HF := Lib.hid (HF.out.trans F4 (fun b hb e => by omega))
       have HX := Lib.hid x4
       have hrz' : w.heap.size + 1 < W2.heap.size := hrz
       clear x4 g4 F4 l0 l1 l2 l3 l4 hsz hrz
       obtain ⟨l0, l1, l2, l3, l4⟩ := cells5 HS.out)
    | fail)
  generalize W2.heap.size = g8 at *
  have hd1 : decide ((V : Int) ≤ 72057594037927935) = true := by simp; omega
  go_upto_region 12 with (first
  | (go_at_call 140
     (with_reducible refine (Hw0.out _ _ HQ.out (HB0.out.trans (HF.out.bel (fun k e => by omega) HB0.out.size))).mono ?_)
     rintro e w5 ⟨rfl, hq5, f5⟩
     replace HQ := Lib.hid hq5
     clear hq5
     replace HS := Lib.hid (heap_fr HS.out f5 (by omega))
     replace HR := Lib.hid (heap_fr HR.out f5 (by omega))
     replace HX := Lib.hid (heap_fr HX.out f5 (by omega))
     replace HF := Lib.hid (HF.out.trans f5 (fun b hb e => by omega))
     clear f5 l0 l1 l2 l3 l4
     obtain ⟨l0, l1, l2, l3, l4⟩ := cells5 HS.out
     )
  | (refine wpL_store_cell rfl rfl 3 (.tmp 35) (.tmp 34) rfl g8 1 rfl (.int .i64 (V : Int)) (by first | rfl | (go_simp; done) | (simp; done)) rfl rfl (by kernel_rfl) _ _ HX.out (by simp) ?_
     intro w6 x6 g6
     have f6 : Fr (fun k => k = g8) _ w6 := Fr.grown g6 (by rintro k ⟨⟩; rfl)
     simp only [List.setIfInBounds_toArray, List.set_cons_zero, List.set_cons_succ] at x6
     replace HQ := Lib.hid (HQ.out.fr f6 (by omega))
     replace HS := Lib.hid (heap_fr HS.out f6 (by omega))
     replace HR := Lib.hid (heap_fr HR.out f6 (by omega))
     replace HF := Lib.hid (HF.out.trans f6 (fun b hb e => by omega))
     replace HX := Lib.hid x6
     clear f6 g6 x6 l0 l1 l2 l3 l4
     obtain ⟨l0, l1, l2, l3, l4⟩ := cells5 HS.out)
  | (go_at_call 141
     (with_reducible refine (Ho8.out _ _ HQ.out (HB0.out.trans (HF.out.bel (fun k e => by omega) HB0.out.size))).mono ?_)
     rintro e w5 ⟨rfl, hq5, f5⟩
     replace HQ := Lib.hid hq5
     clear hq5
     replace HS := Lib.hid (heap_fr HS.out f5 (by omega))
     replace HR := Lib.hid (heap_fr HR.out f5 (by omega))
     replace HX := Lib.hid (heap_fr HX.out f5 (by omega))
     replace HF := Lib.hid (HF.out.trans f5 (fun b hb e => by omega))
     clear f5 l0 l1 l2 l3 l4
     obtain ⟨l0, l1, l2, l3, l4⟩ := cells5 HS.out
     )
  | (refine wpL_store_cell rfl rfl 3 (.tmp 40) (.tmp 39) rfl g8 2 rfl (.int .i64 (O8 : Int)) (by first | rfl | (go_simp; done) | (simp; done)) rfl rfl (by kernel_rfl) _ _ HX.out (by simp) ?_
     intro w6 x6 g6
     have f6 : Fr (fun k => k = g8) _ w6 := Fr.grown g6 (by rintro k ⟨⟩; rfl)
     simp only [List.setIfInBounds_toArray, List.set_cons_zero, List.set_cons_succ] at x6
     replace HQ := Lib.hid (HQ.out.fr f6 (by omega))
     replace HS := Lib.hid (heap_fr HS.out f6 (by omega))
     replace HR := Lib.hid (heap_fr HR.out f6 (by omega))
     replace HF := Lib.hid (HF.out.trans f6 (fun b hb e => by omega))
     replace HX := Lib.hid x6
     clear f6 g6 x6 l0 l1 l2 l3 l4
     obtain ⟨l0, l1, l2, l3, l4⟩ := cells5 HS.out)
  | fail)
  obtain ⟨q9, hq9⟩ : ∃ q, (r.drop 8).drop 2 = q := ⟨_, rfl⟩
  have Hdr : Hid (r.drop (nd false true true) = q9) := Lib.hid (by rw [← hq9]; simp [nd, List.drop_drop])
  rw [hq9] at HQ
  have hq9l : q9.length ≤ 1000 := by rw [← hq9]; (try simp only [List.length_drop]); omega
  clear hq9
  obtain ⟨ot, hot⟩ : ∃ o, o = decide (r.length < nd false true true) := ⟨_, rfl⟩
  have HQ2 := Lib.hid (HQ.out.cast (o' := ot) (by rw [hot]; exact (outIO r)))
  have HE : Hid (fI true r = V ∧ fO true true r = O8 ∧ fM false r = 0 ∧ fW false r = false ∧ fine false true r = true) := Lib.hid (by have e1 : fI true r = V := by { show (if Num.gv 8 r ≤ 72057594037927935 then Num.gv 8 r else 72057594037927935) = _; rw [HV.out]; exact if_pos hVL }; have e2 : fine false true r = true := by { show decide (Num.gv 8 r ≤ 72057594037927935) = _; rw [HV.out]; simp; omega }; rw [e1, e2, ← HO8.out]; exact ⟨rfl, rfl, rfl, rfl, rfl⟩)
  have Hot := Lib.hid hot
  clear hot HQ
  obtain ⟨A9, n9, c9, hx9, hb9⟩ := HQ2.out
  have H9 := Lib.hid (hb9.below (HB0.out.trans (HF.out.bel (fun k e => by omega) HB0.out.size)) (Nat.le_refl _))
  have hn9 : q9.length = n9 := hb9.blen
  obtain ⟨m0, m1⟩ := cells2 hx9
  obtain ⟨k0, k1, k2, k3, k4, k5⟩ := Bx.cells6 HX.out
  have hg8 := heap_lt HX.out
  clear hx9 hb9
  by_cases hz : n9 = 0
  · subst hz
    go_wp2_with (first
    | (refine Bx.wpL_store_all rfl rfl 42 (.tmp 6) (.tmp 53) rfl _ rfl _ rfl _ _ HR.out (by kernel_rfl) rfl (by simp [Value.oneCell']) ?_
       intro w12 x12 g12
       have f12 : Fr (fun k => k = w.heap.size + 1) _ w12 := Fr.grown g12 (by rintro k ⟨⟩; rfl)
       have HRR := Lib.hid x12
       replace HQ2 := Lib.hid (HQ2.out.fr f12 (by omega))
       replace HF := Lib.hid (HF.out.trans f12 (fun b hb e => by omega))
       have F12 := Lib.hid f12
       clear f12 g12 x12)
      | fail)
    refine bodyPost_ret (Bx.results_cell2 rfl _ _ (w.heap.size + 1) _ _ (0, 0) _ rfl HRR.out Try.underlying42 rfl (by kernel_rfl) _ rfl) rfl ?_
    refine ⟨_, _, _, ?_, (by rw [Hdr.out, List.eq_nil_of_length_eq_zero hn9]; exact Rd.nil_), ⟨q9, ?_⟩, HF.out, (fun ad e => by cases e)⟩
    · rw [HE.out.1, HE.out.2.1, HE.out.2.2.1, HE.out.2.2.2.1, HE.out.2.2.2.2]
      rfl
    · rw [← Hot.out]; exact HQ2.out
  · have hz' : 0 < n9 := by omega
    clear hz
    go_wp2_with (first
      | (go_at_call 81
         (with_reducible refine (Bx.c_bClone _ _ _ _ _ H9.out (by omega)).mono ?_)
         rintro e w10 ⟨A10, c10, rfl, ho10, bel10⟩
         have hr8 := heap_lt HR.out
         have hbs := HF.out.size
         have O10 := Lib.hid ho10
         replace HX := Lib.hid ((bel10.block _ (heap_lt HX.out)).trans HX.out)
         replace HR := Lib.hid ((bel10.block _ (heap_lt HR.out)).trans HR.out)
         replace HQ2 := Lib.hid (HQ2.out.fr (Fr.of_bel (S := fun _ => False) bel10) (fun h => h))
         replace HF := Lib.hid (HF.out.trans (Fr.of_bel (S := fun _ => False) bel10) (fun b hb e => e.elim))
         clear bel10 ho10 k0 k1 k2 k3 k4 k5 m0 m1)
      | (refine wpL_store_cell rfl rfl 23 (.tmp 52) (.tmp 51) rfl g8 5 rfl (.slice A10 n9 c10) rfl rfl rfl (by kernel_rfl) _ _ HX.out (by simp) ?_
         intro w11 x11 g11
         have f11 : Fr (fun k => k = g8) _ w11 := Fr.grown g11 (by rintro k ⟨⟩; rfl)
         simp only [List.setIfInBounds_toArray, List.set_cons_zero, List.set_cons_succ] at x11
         replace O10 := Lib.hid (O10.out.fr f11 (fun ad e => by have := (O10.out.at0 ad e).1; omega))
         replace HQ2 := Lib.hid (HQ2.out.fr f11 (by omega))
         replace HR := Lib.hid (heap_fr HR.out f11 (by omega))
         replace HF := Lib.hid (HF.out.trans f11 (fun b hb e => by omega))
         obtain ⟨k0, k1, k2, k3, k4, k5⟩ := Bx.cells6 x11
         clear f11 g11 x11)
      | (refine Bx.wpL_store_all rfl rfl 42 (.tmp 6) (.tmp 53) rfl _ rfl _ rfl _ _ HR.out (by kernel_rfl) rfl (by simp [Value.oneCell']) ?_
         intro w12 x12 g12
         have f12 : Fr (fun k => k = w.heap.size + 1) _ w12 := Fr.grown g12 (by rintro k ⟨⟩; rfl)
         have HRR := Lib.hid x12
         replace HQ2 := Lib.hid (HQ2.out.fr f12 (by omega))
         replace HF := Lib.hid (HF.out.trans f12 (fun b hb e => by omega))
         have F12 := Lib.hid f12
         clear f12 g12 x12)
      )
    have O12 := Lib.hid (O10.out.fr F12.out (fun ad e => by have := (O10.out.at0 ad e).1; omega))
    refine bodyPost_ret (Bx.results_cell2 rfl _ _ (w.heap.size + 1) _ _ (0, 0) _ rfl HRR.out Try.underlying42 rfl (by kernel_rfl) _ rfl) rfl ?_
    refine ⟨_, _, _, ?_, (by rw [Hdr.out]; exact O12.out.rd), ⟨q9, ?_⟩, HF.out, (fun ad e => by have := (O12.out.at0 ad e).1; omega)⟩
    · rw [HE.out.1, HE.out.2.1, HE.out.2.2.1, HE.out.2.2.2.1, HE.out.2.2.2.2]
      rfl
    · rw [← Hot.out]; exact HQ2.out

theorem c_readIO1 (W0 : World) (g : Nat) (r : List UInt8) (K : Int) (s : ByteArray) (a b c d : Bool) (w : World) (h : Rdr W0 w g r false) (hB : Below W0.heap.size W0 w) (hg : W0.heap.size ≤ g) (hr : r.length ≤ 1000) (ha : a = false) (hbb : b = true) (hcc : c = true) (hVL : ¬Num.gv 8 r ≤ 72057594037927935) :
    Calls Try.prog 96 #[.pointer (some ⟨g, 0, none⟩), .int .i64 K, .agg #[.string s, .bool a, .bool b, .bool c, .bool d]] w fun e w' => ∃ A2 n2 c2, e = .returned (.tuple #[.agg #[.int .i64 K, .int .i64 (fI b r : Int), .int .i64 (fO b c r : Int), .int .u64 (fM a r : Int), .bool (fW a r), .slice A2 n2 c2], .bool (fine a b r)]) ∧
      Byt w' A2 n2 c2 (r.drop (nd a b c)) ∧ (∃ q, Rdr W0 w' g q (decide (r.length < nd a b c))) ∧ Fr (fun j => j = g) w w' ∧ (∀ ad, A2 = some ad → w.heap.size ≤ ad.block) := by
  subst ha hbb hcc
  obtain ⟨W2, hW2, x1, x2, hb2⟩ := Bx.two_boxes w (.cells #[.string s, .bool false, .bool true, .bool true, .bool d] 119) (.cells #[.int .i64 0, .int .i64 0, .int .i64 0, .int .u64 0, .bool false, .slice none 0 0] 42)
  have HQ := Lib.hid (h.fr (Fr.of_bel (S := fun _ => False) hb2) (fun h => h))
  have HF : Hid (Fr (fun j => j = g) w W2) := Lib.hid (Fr.of_bel hb2)
  have HB0 := Lib.hid hB
  have HS := Lib.hid x1
  have HR := Lib.hid x2
  have hgl : g < w.heap.size := by obtain ⟨A, n, c, hx, -⟩ := h; exact heap_lt hx
  clear x1 x2 hb2 h hB
  have hby := fun w out (h : Rdr W0 w g r out) hB => c_byte W0 g r out w h hB hg
  have hw1 := fun w out (h : Rdr W0 w g (r.drop 1) out) hB => c_wide W0 g (r.drop 1) out w h hB hg
  have hw0 := fun w out (h : Rdr W0 w g r out) hB => c_wide W0 g r out w h hB hg
  have ho8 := fun w out (h : Rdr W0 w g (r.drop 8) out) hB => c_roff W0 g (r.drop 8) out w h hB hg
  have ho0 := fun w out (h : Rdr W0 w g r out) hB => c_roff W0 g r out w h hB hg
  obtain ⟨FL, hFL⟩ : ∃ q, (r.getD 0 0).toNat = q := ⟨_, rfl⟩
  obtain ⟨M, hM⟩ : ∃ q, Num.gv 8 (r.drop 1) = q := ⟨_, rfl⟩
  obtain ⟨V, hV⟩ : ∃ q, Num.gv 8 r = q := ⟨_, rfl⟩
  obtain ⟨O8, hO8⟩ : ∃ q, Num.gv 2 (r.drop 8) = q := ⟨_, rfl⟩
  obtain ⟨O0, hO0⟩ : ∃ q, Num.gv 2 r = q := ⟨_, rfl⟩
  have hVl : V < 18446744073709551616 := by rw [← hV]; exact Num.gv_lt 8 r
  rw [hFL] at hby
  rw [hM] at hw1
  rw [hV] at hw0
  rw [hO8] at ho8
  rw [hO0] at ho0
  rw [hV] at hVL
  have HFL := Lib.hid hFL
  have HM := Lib.hid hM
  have HV := Lib.hid hV
  have HO8 := Lib.hid hO8
  have HO0 := Lib.hid hO0
  have Hhb := Lib.hid hby
  have Hw1 := Lib.hid hw1
  have Hw0 := Lib.hid hw0
  have Ho8 := Lib.hid ho8
  have Ho0 := Lib.hid ho0
  clear hFL hM hV hO8 hO0 hby hw1 hw0 ho8 ho0
  go_enter Try.func96, Try.ntmps96
  go_upto_region 1 with (fail)
  rw [← hW2]
  clear hW2
  obtain ⟨l0, l1, l2, l3, l4⟩ := cells5 HS.out
  go_upto_region 2 with (first
    | (refine Bx.wpL_store_all rfl rfl 42 (.tmp 8) (.tmp 13) rfl _ rfl _ rfl _ _ (heap_alloc_new W2 _) (by kernel_rfl) rfl (by simp [Value.oneCell']) ?_
       intro w4 x4 g4
       have F4 : Fr (fun k => k = W2.heap.size) W2 w4 := (Fr.alloc _).trans (Fr.grown (S := fun k => k = W2.heap.size) g4 (by rintro k ⟨⟩; rfl)) (fun _ _ h => h)
       have hsz := heap_lt HS.out
       have hrz := heap_lt HR.out
       have HQ := Lib.hid (HQ.out.fr F4 (by omega))
       have HS := Lib.hid (heap_fr HS.out F4 (by omega))
       have HR := Lib.hid (heap_fr HR.out F4 (by omega))
       have HF := Lib.hid (HF.out.trans F4 (fun b hb e => by omega))
       have HX := Lib.hid x4
       have hrz' : w.heap.size + 1 < W2.heap.size := hrz
       clear x4 g4 F4 l0 l1 l2 l3 l4 hsz hrz
       obtain ⟨l0, l1, l2, l3, l4⟩ := cells5 HS.out)
    | fail)
  generalize W2.heap.size = g8 at *
  have hd1 : decide ((V : Int) ≤ 72057594037927935) = false := by simp; omega
  go_upto_region 12 with (first
  | (go_at_call 140
     (with_reducible refine (Hw0.out _ _ HQ.out (HB0.out.trans (HF.out.bel (fun k e => by omega) HB0.out.size))).mono ?_)
     rintro e w5 ⟨rfl, hq5, f5⟩
     replace HQ := Lib.hid hq5
     clear hq5
     replace HS := Lib.hid (heap_fr HS.out f5 (by omega))
     replace HR := Lib.hid (heap_fr HR.out f5 (by omega))
     replace HX := Lib.hid (heap_fr HX.out f5 (by omega))
     replace HF := Lib.hid (HF.out.trans f5 (fun b hb e => by omega))
     clear f5 l0 l1 l2 l3 l4
     obtain ⟨l0, l1, l2, l3, l4⟩ := cells5 HS.out
     )
  | (refine wpL_store_cell rfl rfl 3 (.tmp 35) (.tmp 34) rfl g8 1 rfl (.int .i64 72057594037927935) (by first | rfl | (go_simp; done) | (simp; done)) rfl rfl (by kernel_rfl) _ _ HX.out (by simp) ?_
     intro w6 x6 g6
     have f6 : Fr (fun k => k = g8) _ w6 := Fr.grown g6 (by rintro k ⟨⟩; rfl)
     simp only [List.setIfInBounds_toArray, List.set_cons_zero, List.set_cons_succ] at x6
     replace HQ := Lib.hid (HQ.out.fr f6 (by omega))
     replace HS := Lib.hid (heap_fr HS.out f6 (by omega))
     replace HR := Lib.hid (heap_fr HR.out f6 (by omega))
     replace HF := Lib.hid (HF.out.trans f6 (fun b hb e => by omega))
     replace HX := Lib.hid x6
     clear f6 g6 x6 l0 l1 l2 l3 l4
     obtain ⟨l0, l1, l2, l3, l4⟩ := cells5 HS.out)
  | (go_at_call 141
     (with_reducible refine (Ho8.out _ _ HQ.out (HB0.out.trans (HF.out.bel (fun k e => by omega) HB0.out.size))).mono ?_)
     rintro e w5 ⟨rfl, hq5, f5⟩
     replace HQ := Lib.hid hq5
     clear hq5
     replace HS := Lib.hid (heap_fr HS.out f5 (by omega))
     replace HR := Lib.hid (heap_fr HR.out f5 (by omega))
     replace HX := Lib.hid (heap_fr HX.out f5 (by omega))
     replace HF := Lib.hid (HF.out.trans f5 (fun b hb e => by omega))
     clear f5 l0 l1 l2 l3 l4
     obtain ⟨l0, l1, l2, l3, l4⟩ := cells5 HS.out
     )
  | (refine wpL_store_cell rfl rfl 3 (.tmp 40) (.tmp 39) rfl g8 2 rfl (.int .i64 (O8 : Int)) (by first | rfl | (go_simp; done) | (simp; done)) rfl rfl (by kernel_rfl) _ _ HX.out (by simp) ?_
     intro w6 x6 g6
     have f6 : Fr (fun k => k = g8) _ w6 := Fr.grown g6 (by rintro k ⟨⟩; rfl)
     simp only [List.setIfInBounds_toArray, List.set_cons_zero, List.set_cons_succ] at x6
     replace HQ := Lib.hid (HQ.out.fr f6 (by omega))
     replace HS := Lib.hid (heap_fr HS.out f6 (by omega))
     replace HR := Lib.hid (heap_fr HR.out f6 (by omega))
     replace HF := Lib.hid (HF.out.trans f6 (fun b hb e => by omega))
     replace HX := Lib.hid x6
     clear f6 g6 x6 l0 l1 l2 l3 l4
     obtain ⟨l0, l1, l2, l3, l4⟩ := cells5 HS.out)
  | fail)
  obtain ⟨q9, hq9⟩ : ∃ q, (r.drop 8).drop 2 = q := ⟨_, rfl⟩
  have Hdr : Hid (r.drop (nd false true true) = q9) := Lib.hid (by rw [← hq9]; simp [nd, List.drop_drop])
  rw [hq9] at HQ
  have hq9l : q9.length ≤ 1000 := by rw [← hq9]; (try simp only [List.length_drop]); omega
  clear hq9
  obtain ⟨ot, hot⟩ : ∃ o, o = decide (r.length < nd false true true) := ⟨_, rfl⟩
  have HQ2 := Lib.hid (HQ.out.cast (o' := ot) (by rw [hot]; exact (outIO r)))
  have HE : Hid (fI true r = 72057594037927935 ∧ fO true true r = O8 ∧ fM false r = 0 ∧ fW false r = false ∧ fine false true r = false) := Lib.hid (by have e1 : fI true r = 72057594037927935 := by { show (if Num.gv 8 r ≤ 72057594037927935 then Num.gv 8 r else 72057594037927935) = _; rw [HV.out]; exact if_neg hVL }; have e2 : fine false true r = false := by { show decide (Num.gv 8 r ≤ 72057594037927935) = _; rw [HV.out]; simp; omega }; rw [e1, e2, ← HO8.out]; exact ⟨rfl, rfl, rfl, rfl, rfl⟩)
  have Hot := Lib.hid hot
  clear hot HQ
  obtain ⟨A9, n9, c9, hx9, hb9⟩ := HQ2.out
  have H9 := Lib.hid (hb9.below (HB0.out.trans (HF.out.bel (fun k e => by omega) HB0.out.size)) (Nat.le_refl _))
  have hn9 : q9.length = n9 := hb9.blen
  obtain ⟨m0, m1⟩ := cells2 hx9
  obtain ⟨k0, k1, k2, k3, k4, k5⟩ := Bx.cells6 HX.out
  have hg8 := heap_lt HX.out
  clear hx9 hb9
  by_cases hz : n9 = 0
  · subst hz
    go_wp2_with (first
    | (refine Bx.wpL_store_all rfl rfl 42 (.tmp 6) (.tmp 53) rfl _ rfl _ rfl _ _ HR.out (by kernel_rfl) rfl (by simp [Value.oneCell']) ?_
       intro w12 x12 g12
       have f12 : Fr (fun k => k = w.heap.size + 1) _ w12 := Fr.grown g12 (by rintro k ⟨⟩; rfl)
       have HRR := Lib.hid x12
       replace HQ2 := Lib.hid (HQ2.out.fr f12 (by omega))
       replace HF := Lib.hid (HF.out.trans f12 (fun b hb e => by omega))
       have F12 := Lib.hid f12
       clear f12 g12 x12)
      | fail)
    refine bodyPost_ret (Bx.results_cell2 rfl _ _ (w.heap.size + 1) _ _ (0, 0) _ rfl HRR.out Try.underlying42 rfl (by kernel_rfl) _ rfl) rfl ?_
    refine ⟨_, _, _, ?_, (by rw [Hdr.out, List.eq_nil_of_length_eq_zero hn9]; exact Rd.nil_), ⟨q9, ?_⟩, HF.out, (fun ad e => by cases e)⟩
    · rw [HE.out.1, HE.out.2.1, HE.out.2.2.1, HE.out.2.2.2.1, HE.out.2.2.2.2]
      rfl
    · rw [← Hot.out]; exact HQ2.out
  · have hz' : 0 < n9 := by omega
    clear hz
    go_wp2_with (first
      | (go_at_call 81
         (with_reducible refine (Bx.c_bClone _ _ _ _ _ H9.out (by omega)).mono ?_)
         rintro e w10 ⟨A10, c10, rfl, ho10, bel10⟩
         have hr8 := heap_lt HR.out
         have hbs := HF.out.size
         have O10 := Lib.hid ho10
         replace HX := Lib.hid ((bel10.block _ (heap_lt HX.out)).trans HX.out)
         replace HR := Lib.hid ((bel10.block _ (heap_lt HR.out)).trans HR.out)
         replace HQ2 := Lib.hid (HQ2.out.fr (Fr.of_bel (S := fun _ => False) bel10) (fun h => h))
         replace HF := Lib.hid (HF.out.trans (Fr.of_bel (S := fun _ => False) bel10) (fun b hb e => e.elim))
         clear bel10 ho10 k0 k1 k2 k3 k4 k5 m0 m1)
      | (refine wpL_store_cell rfl rfl 23 (.tmp 52) (.tmp 51) rfl g8 5 rfl (.slice A10 n9 c10) rfl rfl rfl (by kernel_rfl) _ _ HX.out (by simp) ?_
         intro w11 x11 g11
         have f11 : Fr (fun k => k = g8) _ w11 := Fr.grown g11 (by rintro k ⟨⟩; rfl)
         simp only [List.setIfInBounds_toArray, List.set_cons_zero, List.set_cons_succ] at x11
         replace O10 := Lib.hid (O10.out.fr f11 (fun ad e => by have := (O10.out.at0 ad e).1; omega))
         replace HQ2 := Lib.hid (HQ2.out.fr f11 (by omega))
         replace HR := Lib.hid (heap_fr HR.out f11 (by omega))
         replace HF := Lib.hid (HF.out.trans f11 (fun b hb e => by omega))
         obtain ⟨k0, k1, k2, k3, k4, k5⟩ := Bx.cells6 x11
         clear f11 g11 x11)
      | (refine Bx.wpL_store_all rfl rfl 42 (.tmp 6) (.tmp 53) rfl _ rfl _ rfl _ _ HR.out (by kernel_rfl) rfl (by simp [Value.oneCell']) ?_
         intro w12 x12 g12
         have f12 : Fr (fun k => k = w.heap.size + 1) _ w12 := Fr.grown g12 (by rintro k ⟨⟩; rfl)
         have HRR := Lib.hid x12
         replace HQ2 := Lib.hid (HQ2.out.fr f12 (by omega))
         replace HF := Lib.hid (HF.out.trans f12 (fun b hb e => by omega))
         have F12 := Lib.hid f12
         clear f12 g12 x12)
      )
    have O12 := Lib.hid (O10.out.fr F12.out (fun ad e => by have := (O10.out.at0 ad e).1; omega))
    refine bodyPost_ret (Bx.results_cell2 rfl _ _ (w.heap.size + 1) _ _ (0, 0) _ rfl HRR.out Try.underlying42 rfl (by kernel_rfl) _ rfl) rfl ?_
    refine ⟨_, _, _, ?_, (by rw [Hdr.out]; exact O12.out.rd), ⟨q9, ?_⟩, HF.out, (fun ad e => by have := (O12.out.at0 ad e).1; omega)⟩
    · rw [HE.out.1, HE.out.2.1, HE.out.2.2.1, HE.out.2.2.2.1, HE.out.2.2.2.2]
      rfl
    · rw [← Hot.out]; exact HQ2.out

theorem c_readI0 (W0 : World) (g : Nat) (r : List UInt8) (K : Int) (s : ByteArray) (a b c d : Bool) (w : World) (h : Rdr W0 w g r false) (hB : Below W0.heap.size W0 w) (hg : W0.heap.size ≤ g) (hr : r.length ≤ 1000) (ha : a = false) (hbb : b = true) (hcc : c = false) (hVL : Num.gv 8 r ≤ 72057594037927935) :
    Calls Try.prog 96 #[.pointer (some ⟨g, 0, none⟩), .int .i64 K, .agg #[.string s, .bool a, .bool b, .bool c, .bool d]] w fun e w' => ∃ A2 n2 c2, e = .returned (.tuple #[.agg #[.int .i64 K, .int .i64 (fI b r : Int), .int .i64 (fO b c r : Int), .int .u64 (fM a r : Int), .bool (fW a r), .slice A2 n2 c2], .bool (fine a b r)]) ∧
      Byt w' A2 n2 c2 (r.drop (nd a b c)) ∧ (∃ q, Rdr W0 w' g q (decide (r.length < nd a b c))) ∧ Fr (fun j => j = g) w w' ∧ (∀ ad, A2 = some ad → w.heap.size ≤ ad.block) := by
  subst ha hbb hcc
  obtain ⟨W2, hW2, x1, x2, hb2⟩ := Bx.two_boxes w (.cells #[.string s, .bool false, .bool true, .bool false, .bool d] 119) (.cells #[.int .i64 0, .int .i64 0, .int .i64 0, .int .u64 0, .bool false, .slice none 0 0] 42)
  have HQ := Lib.hid (h.fr (Fr.of_bel (S := fun _ => False) hb2) (fun h => h))
  have HF : Hid (Fr (fun j => j = g) w W2) := Lib.hid (Fr.of_bel hb2)
  have HB0 := Lib.hid hB
  have HS := Lib.hid x1
  have HR := Lib.hid x2
  have hgl : g < w.heap.size := by obtain ⟨A, n, c, hx, -⟩ := h; exact heap_lt hx
  clear x1 x2 hb2 h hB
  have hby := fun w out (h : Rdr W0 w g r out) hB => c_byte W0 g r out w h hB hg
  have hw1 := fun w out (h : Rdr W0 w g (r.drop 1) out) hB => c_wide W0 g (r.drop 1) out w h hB hg
  have hw0 := fun w out (h : Rdr W0 w g r out) hB => c_wide W0 g r out w h hB hg
  have ho8 := fun w out (h : Rdr W0 w g (r.drop 8) out) hB => c_roff W0 g (r.drop 8) out w h hB hg
  have ho0 := fun w out (h : Rdr W0 w g r out) hB => c_roff W0 g r out w h hB hg
  obtain ⟨FL, hFL⟩ : ∃ q, (r.getD 0 0).toNat = q := ⟨_, rfl⟩
  obtain ⟨M, hM⟩ : ∃ q, Num.gv 8 (r.drop 1) = q := ⟨_, rfl⟩
  obtain ⟨V, hV⟩ : ∃ q, Num.gv 8 r = q := ⟨_, rfl⟩
  obtain ⟨O8, hO8⟩ : ∃ q, Num.gv 2 (r.drop 8) = q := ⟨_, rfl⟩
  obtain ⟨O0, hO0⟩ : ∃ q, Num.gv 2 r = q := ⟨_, rfl⟩
  have hVl : V < 18446744073709551616 := by rw [← hV]; exact Num.gv_lt 8 r
  rw [hFL] at hby
  rw [hM] at hw1
  rw [hV] at hw0
  rw [hO8] at ho8
  rw [hO0] at ho0
  rw [hV] at hVL
  have HFL := Lib.hid hFL
  have HM := Lib.hid hM
  have HV := Lib.hid hV
  have HO8 := Lib.hid hO8
  have HO0 := Lib.hid hO0
  have Hhb := Lib.hid hby
  have Hw1 := Lib.hid hw1
  have Hw0 := Lib.hid hw0
  have Ho8 := Lib.hid ho8
  have Ho0 := Lib.hid ho0
  clear hFL hM hV hO8 hO0 hby hw1 hw0 ho8 ho0
  go_enter Try.func96, Try.ntmps96
  go_upto_region 1 with (fail)
  rw [← hW2]
  clear hW2
  obtain ⟨l0, l1, l2, l3, l4⟩ := cells5 HS.out
  go_upto_region 2 with (first
    | (refine Bx.wpL_store_all rfl rfl 42 (.tmp 8) (.tmp 13) rfl _ rfl _ rfl _ _ (heap_alloc_new W2 _) (by kernel_rfl) rfl (by simp [Value.oneCell']) ?_
       intro w4 x4 g4
       have F4 : Fr (fun k => k = W2.heap.size) W2 w4 := (Fr.alloc _).trans (Fr.grown (S := fun k => k = W2.heap.size) g4 (by rintro k ⟨⟩; rfl)) (fun _ _ h => h)
       have hsz := heap_lt HS.out
       have hrz := heap_lt HR.out
       have HQ := Lib.hid (HQ.out.fr F4 (by omega))
       have HS := Lib.hid (heap_fr HS.out F4 (by omega))
       have HR := Lib.hid (heap_fr HR.out F4 (by omega))
       have HF := Lib.hid (HF.out.trans F4 (fun b hb e => by omega))
       have HX := Lib.hid x4
       have hrz' : w.heap.size + 1 < W2.heap.size := hrz
       clear x4 g4 F4 l0 l1 l2 l3 l4 hsz hrz
       obtain ⟨l0, l1, l2, l3, l4⟩ := cells5 HS.out)
    | fail)
  generalize W2.heap.size = g8 at *
  have hd1 : decide ((V : Int) ≤ 72057594037927935) = true := by simp; omega
  go_upto_region 12 with (first
  | (go_at_call 140
     (with_reducible refine (Hw0.out _ _ HQ.out (HB0.out.trans (HF.out.bel (fun k e => by omega) HB0.out.size))).mono ?_)
     rintro e w5 ⟨rfl, hq5, f5⟩
     replace HQ := Lib.hid hq5
     clear hq5
     replace HS := Lib.hid (heap_fr HS.out f5 (by omega))
     replace HR := Lib.hid (heap_fr HR.out f5 (by omega))
     replace HX := Lib.hid (heap_fr HX.out f5 (by omega))
     replace HF := Lib.hid (HF.out.trans f5 (fun b hb e => by omega))
     clear f5 l0 l1 l2 l3 l4
     obtain ⟨l0, l1, l2, l3, l4⟩ := cells5 HS.out
     )
  | (refine wpL_store_cell rfl rfl 3 (.tmp 35) (.tmp 34) rfl g8 1 rfl (.int .i64 (V : Int)) (by first | rfl | (go_simp; done) | (simp; done)) rfl rfl (by kernel_rfl) _ _ HX.out (by simp) ?_
     intro w6 x6 g6
     have f6 : Fr (fun k => k = g8) _ w6 := Fr.grown g6 (by rintro k ⟨⟩; rfl)
     simp only [List.setIfInBounds_toArray, List.set_cons_zero, List.set_cons_succ] at x6
     replace HQ := Lib.hid (HQ.out.fr f6 (by omega))
     replace HS := Lib.hid (heap_fr HS.out f6 (by omega))
     replace HR := Lib.hid (heap_fr HR.out f6 (by omega))
     replace HF := Lib.hid (HF.out.trans f6 (fun b hb e => by omega))
     replace HX := Lib.hid x6
     clear f6 g6 x6 l0 l1 l2 l3 l4
     obtain ⟨l0, l1, l2, l3, l4⟩ := cells5 HS.out)
  | fail)
  obtain ⟨q9, hq9⟩ : ∃ q, r.drop 8 = q := ⟨_, rfl⟩
  have Hdr : Hid (r.drop (nd false true false) = q9) := Lib.hid (by rw [← hq9]; simp [nd, List.drop_drop])
  rw [hq9] at HQ
  have hq9l : q9.length ≤ 1000 := by rw [← hq9]; (try simp only [List.length_drop]); omega
  clear hq9
  obtain ⟨ot, hot⟩ : ∃ o, o = decide (r.length < nd false true false) := ⟨_, rfl⟩
  have HQ2 := Lib.hid (HQ.out.cast (o' := ot) (by rw [hot]; exact (outI r)))
  have HE : Hid (fI true r = V ∧ fO true false r = 0 ∧ fM false r = 0 ∧ fW false r = false ∧ fine false true r = true) := Lib.hid (by have e1 : fI true r = V := by { show (if Num.gv 8 r ≤ 72057594037927935 then Num.gv 8 r else 72057594037927935) = _; rw [HV.out]; exact if_pos hVL }; have e2 : fine false true r = true := by { show decide (Num.gv 8 r ≤ 72057594037927935) = _; rw [HV.out]; simp; omega }; rw [e1, e2]; exact ⟨rfl, rfl, rfl, rfl, rfl⟩)
  have Hot := Lib.hid hot
  clear hot HQ
  obtain ⟨A9, n9, c9, hx9, hb9⟩ := HQ2.out
  have H9 := Lib.hid (hb9.below (HB0.out.trans (HF.out.bel (fun k e => by omega) HB0.out.size)) (Nat.le_refl _))
  have hn9 : q9.length = n9 := hb9.blen
  obtain ⟨m0, m1⟩ := cells2 hx9
  obtain ⟨k0, k1, k2, k3, k4, k5⟩ := Bx.cells6 HX.out
  have hg8 := heap_lt HX.out
  clear hx9 hb9
  by_cases hz : n9 = 0
  · subst hz
    go_wp2_with (first
    | (refine Bx.wpL_store_all rfl rfl 42 (.tmp 6) (.tmp 53) rfl _ rfl _ rfl _ _ HR.out (by kernel_rfl) rfl (by simp [Value.oneCell']) ?_
       intro w12 x12 g12
       have f12 : Fr (fun k => k = w.heap.size + 1) _ w12 := Fr.grown g12 (by rintro k ⟨⟩; rfl)
       have HRR := Lib.hid x12
       replace HQ2 := Lib.hid (HQ2.out.fr f12 (by omega))
       replace HF := Lib.hid (HF.out.trans f12 (fun b hb e => by omega))
       have F12 := Lib.hid f12
       clear f12 g12 x12)
      | fail)
    refine bodyPost_ret (Bx.results_cell2 rfl _ _ (w.heap.size + 1) _ _ (0, 0) _ rfl HRR.out Try.underlying42 rfl (by kernel_rfl) _ rfl) rfl ?_
    refine ⟨_, _, _, ?_, (by rw [Hdr.out, List.eq_nil_of_length_eq_zero hn9]; exact Rd.nil_), ⟨q9, ?_⟩, HF.out, (fun ad e => by cases e)⟩
    · rw [HE.out.1, HE.out.2.1, HE.out.2.2.1, HE.out.2.2.2.1, HE.out.2.2.2.2]
      rfl
    · rw [← Hot.out]; exact HQ2.out
  · have hz' : 0 < n9 := by omega
    clear hz
    go_wp2_with (first
      | (go_at_call 81
         (with_reducible refine (Bx.c_bClone _ _ _ _ _ H9.out (by omega)).mono ?_)
         rintro e w10 ⟨A10, c10, rfl, ho10, bel10⟩
         have hr8 := heap_lt HR.out
         have hbs := HF.out.size
         have O10 := Lib.hid ho10
         replace HX := Lib.hid ((bel10.block _ (heap_lt HX.out)).trans HX.out)
         replace HR := Lib.hid ((bel10.block _ (heap_lt HR.out)).trans HR.out)
         replace HQ2 := Lib.hid (HQ2.out.fr (Fr.of_bel (S := fun _ => False) bel10) (fun h => h))
         replace HF := Lib.hid (HF.out.trans (Fr.of_bel (S := fun _ => False) bel10) (fun b hb e => e.elim))
         clear bel10 ho10 k0 k1 k2 k3 k4 k5 m0 m1)
      | (refine wpL_store_cell rfl rfl 23 (.tmp 52) (.tmp 51) rfl g8 5 rfl (.slice A10 n9 c10) rfl rfl rfl (by kernel_rfl) _ _ HX.out (by simp) ?_
         intro w11 x11 g11
         have f11 : Fr (fun k => k = g8) _ w11 := Fr.grown g11 (by rintro k ⟨⟩; rfl)
         simp only [List.setIfInBounds_toArray, List.set_cons_zero, List.set_cons_succ] at x11
         replace O10 := Lib.hid (O10.out.fr f11 (fun ad e => by have := (O10.out.at0 ad e).1; omega))
         replace HQ2 := Lib.hid (HQ2.out.fr f11 (by omega))
         replace HR := Lib.hid (heap_fr HR.out f11 (by omega))
         replace HF := Lib.hid (HF.out.trans f11 (fun b hb e => by omega))
         obtain ⟨k0, k1, k2, k3, k4, k5⟩ := Bx.cells6 x11
         clear f11 g11 x11)
      | (refine Bx.wpL_store_all rfl rfl 42 (.tmp 6) (.tmp 53) rfl _ rfl _ rfl _ _ HR.out (by kernel_rfl) rfl (by simp [Value.oneCell']) ?_
         intro w12 x12 g12
         have f12 : Fr (fun k => k = w.heap.size + 1) _ w12 := Fr.grown g12 (by rintro k ⟨⟩; rfl)
         have HRR := Lib.hid x12
         replace HQ2 := Lib.hid (HQ2.out.fr f12 (by omega))
         replace HF := Lib.hid (HF.out.trans f12 (fun b hb e => by omega))
         have F12 := Lib.hid f12
         clear f12 g12 x12)
      )
    have O12 := Lib.hid (O10.out.fr F12.out (fun ad e => by have := (O10.out.at0 ad e).1; omega))
    refine bodyPost_ret (Bx.results_cell2 rfl _ _ (w.heap.size + 1) _ _ (0, 0) _ rfl HRR.out Try.underlying42 rfl (by kernel_rfl) _ rfl) rfl ?_
    refine ⟨_, _, _, ?_, (by rw [Hdr.out]; exact O12.out.rd), ⟨q9, ?_⟩, HF.out, (fun ad e => by have := (O12.out.at0 ad e).1; omega)⟩
    · rw [HE.out.1, HE.out.2.1, HE.out.2.2.1, HE.out.2.2.2.1, HE.out.2.2.2.2]
      rfl
    · rw [← Hot.out]; exact HQ2.out

theorem c_readI1 (W0 : World) (g : Nat) (r : List UInt8) (K : Int) (s : ByteArray) (a b c d : Bool) (w : World) (h : Rdr W0 w g r false) (hB : Below W0.heap.size W0 w) (hg : W0.heap.size ≤ g) (hr : r.length ≤ 1000) (ha : a = false) (hbb : b = true) (hcc : c = false) (hVL : ¬Num.gv 8 r ≤ 72057594037927935) :
    Calls Try.prog 96 #[.pointer (some ⟨g, 0, none⟩), .int .i64 K, .agg #[.string s, .bool a, .bool b, .bool c, .bool d]] w fun e w' => ∃ A2 n2 c2, e = .returned (.tuple #[.agg #[.int .i64 K, .int .i64 (fI b r : Int), .int .i64 (fO b c r : Int), .int .u64 (fM a r : Int), .bool (fW a r), .slice A2 n2 c2], .bool (fine a b r)]) ∧
      Byt w' A2 n2 c2 (r.drop (nd a b c)) ∧ (∃ q, Rdr W0 w' g q (decide (r.length < nd a b c))) ∧ Fr (fun j => j = g) w w' ∧ (∀ ad, A2 = some ad → w.heap.size ≤ ad.block) := by
  subst ha hbb hcc
  obtain ⟨W2, hW2, x1, x2, hb2⟩ := Bx.two_boxes w (.cells #[.string s, .bool false, .bool true, .bool false, .bool d] 119) (.cells #[.int .i64 0, .int .i64 0, .int .i64 0, .int .u64 0, .bool false, .slice none 0 0] 42)
  have HQ := Lib.hid (h.fr (Fr.of_bel (S := fun _ => False) hb2) (fun h => h))
  have HF : Hid (Fr (fun j => j = g) w W2) := Lib.hid (Fr.of_bel hb2)
  have HB0 := Lib.hid hB
  have HS := Lib.hid x1
  have HR := Lib.hid x2
  have hgl : g < w.heap.size := by obtain ⟨A, n, c, hx, -⟩ := h; exact heap_lt hx
  clear x1 x2 hb2 h hB
  have hby := fun w out (h : Rdr W0 w g r out) hB => c_byte W0 g r out w h hB hg
  have hw1 := fun w out (h : Rdr W0 w g (r.drop 1) out) hB => c_wide W0 g (r.drop 1) out w h hB hg
  have hw0 := fun w out (h : Rdr W0 w g r out) hB => c_wide W0 g r out w h hB hg
  have ho8 := fun w out (h : Rdr W0 w g (r.drop 8) out) hB => c_roff W0 g (r.drop 8) out w h hB hg
  have ho0 := fun w out (h : Rdr W0 w g r out) hB => c_roff W0 g r out w h hB hg
  obtain ⟨FL, hFL⟩ : ∃ q, (r.getD 0 0).toNat = q := ⟨_, rfl⟩
  obtain ⟨M, hM⟩ : ∃ q, Num.gv 8 (r.drop 1) = q := ⟨_, rfl⟩
  obtain ⟨V, hV⟩ : ∃ q, Num.gv 8 r = q := ⟨_, rfl⟩
  obtain ⟨O8, hO8⟩ : ∃ q, Num.gv 2 (r.drop 8) = q := ⟨_, rfl⟩
  obtain ⟨O0, hO0⟩ : ∃ q, Num.gv 2 r = q := ⟨_, rfl⟩
  have hVl : V < 18446744073709551616 := by rw [← hV]; exact Num.gv_lt 8 r
  rw [hFL] at hby
  rw [hM] at hw1
  rw [hV] at hw0
  rw [hO8] at ho8
  rw [hO0] at ho0
  rw [hV] at hVL
  have HFL := Lib.hid hFL
  have HM := Lib.hid hM
  have HV := Lib.hid hV
  have HO8 := Lib.hid hO8
  have HO0 := Lib.hid hO0
  have Hhb := Lib.hid hby
  have Hw1 := Lib.hid hw1
  have Hw0 := Lib.hid hw0
  have Ho8 := Lib.hid ho8
  have Ho0 := Lib.hid ho0
  clear hFL hM hV hO8 hO0 hby hw1 hw0 ho8 ho0
  go_enter Try.func96, Try.ntmps96
  go_upto_region 1 with (fail)
  rw [← hW2]
  clear hW2
  obtain ⟨l0, l1, l2, l3, l4⟩ := cells5 HS.out
  go_upto_region 2 with (first
    | (refine Bx.wpL_store_all rfl rfl 42 (.tmp 8) (.tmp 13) rfl _ rfl _ rfl _ _ (heap_alloc_new W2 _) (by kernel_rfl) rfl (by simp [Value.oneCell']) ?_
       intro w4 x4 g4
       have F4 : Fr (fun k => k = W2.heap.size) W2 w4 := (Fr.alloc _).trans (Fr.grown (S := fun k => k = W2.heap.size) g4 (by rintro k ⟨⟩; rfl)) (fun _ _ h => h)
       have hsz := heap_lt HS.out
       have hrz := heap_lt HR.out
       have HQ := Lib.hid (HQ.out.fr F4 (by omega))
       have HS := Lib.hid (heap_fr HS.out F4 (by omega))
       have HR := Lib.hid (heap_fr HR.out F4 (by omega))
       have HF := Lib.hid (HF.out.trans F4 (fun b hb e => by omega))
       have HX := Lib.hid x4
       have hrz' : w.heap.size + 1 < W2.heap.size := hrz
       clear x4 g4 F4 l0 l1 l2 l3 l4 hsz hrz
       obtain ⟨l0, l1, l2, l3, l4⟩ := cells5 HS.out)
    | fail)
  generalize W2.heap.size = g8 at *
  have hd1 : decide ((V : Int) ≤ 72057594037927935) = false := by simp; omega
  go_upto_region 12 with (first
  | (go_at_call 140
     (with_reducible refine (Hw0.out _ _ HQ.out (HB0.out.trans (HF.out.bel (fun k e => by omega) HB0.out.size))).mono ?_)
     rintro e w5 ⟨rfl, hq5, f5⟩
     replace HQ := Lib.hid hq5
     clear hq5
     replace HS := Lib.hid (heap_fr HS.out f5 (by omega))
     replace HR := Lib.hid (heap_fr HR.out f5 (by omega))
     replace HX := Lib.hid (heap_fr HX.out f5 (by omega))
     replace HF := Lib.hid (HF.out.trans f5 (fun b hb e => by omega))
     clear f5 l0 l1 l2 l3 l4
     obtain ⟨l0, l1, l2, l3, l4⟩ := cells5 HS.out
     )
  | (refine wpL_store_cell rfl rfl 3 (.tmp 35) (.tmp 34) rfl g8 1 rfl (.int .i64 72057594037927935) (by first | rfl | (go_simp; done) | (simp; done)) rfl rfl (by kernel_rfl) _ _ HX.out (by simp) ?_
     intro w6 x6 g6
     have f6 : Fr (fun k => k = g8) _ w6 := Fr.grown g6 (by rintro k ⟨⟩; rfl)
     simp only [List.setIfInBounds_toArray, List.set_cons_zero, List.set_cons_succ] at x6
     replace HQ := Lib.hid (HQ.out.fr f6 (by omega))
     replace HS := Lib.hid (heap_fr HS.out f6 (by omega))
     replace HR := Lib.hid (heap_fr HR.out f6 (by omega))
     replace HF := Lib.hid (HF.out.trans f6 (fun b hb e => by omega))
     replace HX := Lib.hid x6
     clear f6 g6 x6 l0 l1 l2 l3 l4
     obtain ⟨l0, l1, l2, l3, l4⟩ := cells5 HS.out)
  | fail)
  obtain ⟨q9, hq9⟩ : ∃ q, r.drop 8 = q := ⟨_, rfl⟩
  have Hdr : Hid (r.drop (nd false true false) = q9) := Lib.hid (by rw [← hq9]; simp [nd, List.drop_drop])
  rw [hq9] at HQ
  have hq9l : q9.length ≤ 1000 := by rw [← hq9]; (try simp only [List.length_drop]); omega
  clear hq9
  obtain ⟨ot, hot⟩ : ∃ o, o = decide (r.length < nd false true false) := ⟨_, rfl⟩
  have HQ2 := Lib.hid (HQ.out.cast (o' := ot) (by rw [hot]; exact (outI r)))
  have HE : Hid (fI true r = 72057594037927935 ∧ fO true false r = 0 ∧ fM false r = 0 ∧ fW false r = false ∧ fine false true r = false) := Lib.hid (by have e1 : fI true r = 72057594037927935 := by { show (if Num.gv 8 r ≤ 72057594037927935 then Num.gv 8 r else 72057594037927935) = _; rw [HV.out]; exact if_neg hVL }; have e2 : fine false true r = false := by { show decide (Num.gv 8 r ≤ 72057594037927935) = _; rw [HV.out]; simp; omega }; rw [e1, e2]; exact ⟨rfl, rfl, rfl, rfl, rfl⟩)
  have Hot := Lib.hid hot
  clear hot HQ
  obtain ⟨A9, n9, c9, hx9, hb9⟩ := HQ2.out
  have H9 := Lib.hid (hb9.below (HB0.out.trans (HF.out.bel (fun k e => by omega) HB0.out.size)) (Nat.le_refl _))
  have hn9 : q9.length = n9 := hb9.blen
  obtain ⟨m0, m1⟩ := cells2 hx9
  obtain ⟨k0, k1, k2, k3, k4, k5⟩ := Bx.cells6 HX.out
  have hg8 := heap_lt HX.out
  clear hx9 hb9
  by_cases hz : n9 = 0
  · subst hz
    go_wp2_with (first
    | (refine Bx.wpL_store_all rfl rfl 42 (.tmp 6) (.tmp 53) rfl _ rfl _ rfl _ _ HR.out (by kernel_rfl) rfl (by simp [Value.oneCell']) ?_
       intro w12 x12 g12
       have f12 : Fr (fun k => k = w.heap.size + 1) _ w12 := Fr.grown g12 (by rintro k ⟨⟩; rfl)
       have HRR := Lib.hid x12
       replace HQ2 := Lib.hid (HQ2.out.fr f12 (by omega))
       replace HF := Lib.hid (HF.out.trans f12 (fun b hb e => by omega))
       have F12 := Lib.hid f12
       clear f12 g12 x12)
      | fail)
    refine bodyPost_ret (Bx.results_cell2 rfl _ _ (w.heap.size + 1) _ _ (0, 0) _ rfl HRR.out Try.underlying42 rfl (by kernel_rfl) _ rfl) rfl ?_
    refine ⟨_, _, _, ?_, (by rw [Hdr.out, List.eq_nil_of_length_eq_zero hn9]; exact Rd.nil_), ⟨q9, ?_⟩, HF.out, (fun ad e => by cases e)⟩
    · rw [HE.out.1, HE.out.2.1, HE.out.2.2.1, HE.out.2.2.2.1, HE.out.2.2.2.2]
      rfl
    · rw [← Hot.out]; exact HQ2.out
  · have hz' : 0 < n9 := by omega
    clear hz
    go_wp2_with (first
      | (go_at_call 81
         (with_reducible refine (Bx.c_bClone _ _ _ _ _ H9.out (by omega)).mono ?_)
         rintro e w10 ⟨A10, c10, rfl, ho10, bel10⟩
         have hr8 := heap_lt HR.out
         have hbs := HF.out.size
         have O10 := Lib.hid ho10
         replace HX := Lib.hid ((bel10.block _ (heap_lt HX.out)).trans HX.out)
         replace HR := Lib.hid ((bel10.block _ (heap_lt HR.out)).trans HR.out)
         replace HQ2 := Lib.hid (HQ2.out.fr (Fr.of_bel (S := fun _ => False) bel10) (fun h => h))
         replace HF := Lib.hid (HF.out.trans (Fr.of_bel (S := fun _ => False) bel10) (fun b hb e => e.elim))
         clear bel10 ho10 k0 k1 k2 k3 k4 k5 m0 m1)
      | (refine wpL_store_cell rfl rfl 23 (.tmp 52) (.tmp 51) rfl g8 5 rfl (.slice A10 n9 c10) rfl rfl rfl (by kernel_rfl) _ _ HX.out (by simp) ?_
         intro w11 x11 g11
         have f11 : Fr (fun k => k = g8) _ w11 := Fr.grown g11 (by rintro k ⟨⟩; rfl)
         simp only [List.setIfInBounds_toArray, List.set_cons_zero, List.set_cons_succ] at x11
         replace O10 := Lib.hid (O10.out.fr f11 (fun ad e => by have := (O10.out.at0 ad e).1; omega))
         replace HQ2 := Lib.hid (HQ2.out.fr f11 (by omega))
         replace HR := Lib.hid (heap_fr HR.out f11 (by omega))
         replace HF := Lib.hid (HF.out.trans f11 (fun b hb e => by omega))
         obtain ⟨k0, k1, k2, k3, k4, k5⟩ := Bx.cells6 x11
         clear f11 g11 x11)
      | (refine Bx.wpL_store_all rfl rfl 42 (.tmp 6) (.tmp 53) rfl _ rfl _ rfl _ _ HR.out (by kernel_rfl) rfl (by simp [Value.oneCell']) ?_
         intro w12 x12 g12
         have f12 : Fr (fun k => k = w.heap.size + 1) _ w12 := Fr.grown g12 (by rintro k ⟨⟩; rfl)
         have HRR := Lib.hid x12
         replace HQ2 := Lib.hid (HQ2.out.fr f12 (by omega))
         replace HF := Lib.hid (HF.out.trans f12 (fun b hb e => by omega))
         have F12 := Lib.hid f12
         clear f12 g12 x12)
      )
    have O12 := Lib.hid (O10.out.fr F12.out (fun ad e => by have := (O10.out.at0 ad e).1; omega))
    refine bodyPost_ret (Bx.results_cell2 rfl _ _ (w.heap.size + 1) _ _ (0, 0) _ rfl HRR.out Try.underlying42 rfl (by kernel_rfl) _ rfl) rfl ?_
    refine ⟨_, _, _, ?_, (by rw [Hdr.out]; exact O12.out.rd), ⟨q9, ?_⟩, HF.out, (fun ad e => by have := (O12.out.at0 ad e).1; omega)⟩
    · rw [HE.out.1, HE.out.2.1, HE.out.2.2.1, HE.out.2.2.2.1, HE.out.2.2.2.2]
      rfl
    · rw [← Hot.out]; exact HQ2.out

theorem c_readO (W0 : World) (g : Nat) (r : List UInt8) (K : Int) (s : ByteArray) (a b c d : Bool) (w : World) (h : Rdr W0 w g r false) (hB : Below W0.heap.size W0 w) (hg : W0.heap.size ≤ g) (hr : r.length ≤ 1000) (ha : a = false) (hbb : b = false) (hcc : c = true) (hVL : True) :
    Calls Try.prog 96 #[.pointer (some ⟨g, 0, none⟩), .int .i64 K, .agg #[.string s, .bool a, .bool b, .bool c, .bool d]] w fun e w' => ∃ A2 n2 c2, e = .returned (.tuple #[.agg #[.int .i64 K, .int .i64 (fI b r : Int), .int .i64 (fO b c r : Int), .int .u64 (fM a r : Int), .bool (fW a r), .slice A2 n2 c2], .bool (fine a b r)]) ∧
      Byt w' A2 n2 c2 (r.drop (nd a b c)) ∧ (∃ q, Rdr W0 w' g q (decide (r.length < nd a b c))) ∧ Fr (fun j => j = g) w w' ∧ (∀ ad, A2 = some ad → w.heap.size ≤ ad.block) := by
  subst ha hbb hcc
  obtain ⟨W2, hW2, x1, x2, hb2⟩ := Bx.two_boxes w (.cells #[.string s, .bool false, .bool false, .bool true, .bool d] 119) (.cells #[.int .i64 0, .int .i64 0, .int .i64 0, .int .u64 0, .bool false, .slice none 0 0] 42)
  have HQ := Lib.hid (h.fr (Fr.of_bel (S := fun _ => False) hb2) (fun h => h))
  have HF : Hid (Fr (fun j => j = g) w W2) := Lib.hid (Fr.of_bel hb2)
  have HB0 := Lib.hid hB
  have HS := Lib.hid x1
  have HR := Lib.hid x2
  have hgl : g < w.heap.size := by obtain ⟨A, n, c, hx, -⟩ := h; exact heap_lt hx
  clear x1 x2 hb2 h hB
  have hby := fun w out (h : Rdr W0 w g r out) hB => c_byte W0 g r out w h hB hg
  have hw1 := fun w out (h : Rdr W0 w g (r.drop 1) out) hB => c_wide W0 g (r.drop 1) out w h hB hg
  have hw0 := fun w out (h : Rdr W0 w g r out) hB => c_wide W0 g r out w h hB hg
  have ho8 := fun w out (h : Rdr W0 w g (r.drop 8) out) hB => c_roff W0 g (r.drop 8) out w h hB hg
  have ho0 := fun w out (h : Rdr W0 w g r out) hB => c_roff W0 g r out w h hB hg
  obtain ⟨FL, hFL⟩ : ∃ q, (r.getD 0 0).toNat = q := ⟨_, rfl⟩
  obtain ⟨M, hM⟩ : ∃ q, Num.gv 8 (r.drop 1) = q := ⟨_, rfl⟩
  obtain ⟨V, hV⟩ : ∃ q, Num.gv 8 r = q := ⟨_, rfl⟩
  obtain ⟨O8, hO8⟩ : ∃ q, Num.gv 2 (r.drop 8) = q := ⟨_, rfl⟩
  obtain ⟨O0, hO0⟩ : ∃ q, Num.gv 2 r = q := ⟨_, rfl⟩
  have hVl : V < 18446744073709551616 := by rw [← hV]; exact Num.gv_lt 8 r
  rw [hFL] at hby
  rw [hM] at hw1
  rw [hV] at hw0
  rw [hO8] at ho8
  rw [hO0] at ho0
  skip
  have HFL := Lib.hid hFL
  have HM := Lib.hid hM
  have HV := Lib.hid hV
  have HO8 := Lib.hid hO8
  have HO0 := Lib.hid hO0
  have Hhb := Lib.hid hby
  have Hw1 := Lib.hid hw1
  have Hw0 := Lib.hid hw0
  have Ho8 := Lib.hid ho8
  have Ho0 := Lib.hid ho0
  clear hFL hM hV hO8 hO0 hby hw1 hw0 ho8 ho0
  go_enter Try.func96, Try.ntmps96
  go_upto_region 1 with (fail)
  rw [← hW2]
  clear hW2
  obtain ⟨l0, l1, l2, l3, l4⟩ := cells5 HS.out
  go_upto_region 2 with (first
    | (refine Bx.wpL_store_all rfl rfl 42 (.tmp 8) (.tmp 13) rfl _ rfl _ rfl _ _ (heap_alloc_new W2 _) (by kernel_rfl) rfl (by simp [Value.oneCell']) ?_
       intro w4 x4 g4
       have F4 : Fr (fun k => k = W2.heap.size) W2 w4 := (Fr.alloc _).trans (Fr.grown (S := fun k => k = W2.heap.size) g4 (by rintro k ⟨⟩; rfl)) (fun _ _ h => h)
       have hsz := heap_lt HS.out
       have hrz := heap_lt HR.out
       have HQ := Lib.hid (HQ.out.fr F4 (by omega))
       have HS := Lib.hid (heap_fr HS.out F4 (by omega))
       have HR := Lib.hid (heap_fr HR.out F4 (by omega))
       have HF := Lib.hid (HF.out.trans F4 (fun b hb e => by omega))
       have HX := Lib.hid x4
       have hrz' : w.heap.size + 1 < W2.heap.size := hrz
       clear x4 g4 F4 l0 l1 l2 l3 l4 hsz hrz
       obtain ⟨l0, l1, l2, l3, l4⟩ := cells5 HS.out)
    | fail)
  generalize W2.heap.size = g8 at *
  go_upto_region 12 with (first
  | (go_at_call 141
     (with_reducible refine (Ho0.out _ _ HQ.out (HB0.out.trans (HF.out.bel (fun k e => by omega) HB0.out.size))).mono ?_)
     rintro e w5 ⟨rfl, hq5, f5⟩
     replace HQ := Lib.hid hq5
     clear hq5
     replace HS := Lib.hid (heap_fr HS.out f5 (by omega))
     replace HR := Lib.hid (heap_fr HR.out f5 (by omega))
     replace HX := Lib.hid (heap_fr HX.out f5 (by omega))
     replace HF := Lib.hid (HF.out.trans f5 (fun b hb e => by omega))
     clear f5 l0 l1 l2 l3 l4
     obtain ⟨l0, l1, l2, l3, l4⟩ := cells5 HS.out
     )
  | (refine wpL_store_cell rfl rfl 3 (.tmp 40) (.tmp 39) rfl g8 2 rfl (.int .i64 (O0 : Int)) (by first | rfl | (go_simp; done) | (simp; done)) rfl rfl (by kernel_rfl) _ _ HX.out (by simp) ?_
     intro w6 x6 g6
     have f6 : Fr (fun k => k = g8) _ w6 := Fr.grown g6 (by rintro k ⟨⟩; rfl)
     simp only [List.setIfInBounds_toArray, List.set_cons_zero, List.set_cons_succ] at x6
     replace HQ := Lib.hid (HQ.out.fr f6 (by omega))
     replace HS := Lib.hid (heap_fr HS.out f6 (by omega))
     replace HR := Lib.hid (heap_fr HR.out f6 (by omega))
     replace HF := Lib.hid (HF.out.trans f6 (fun b hb e => by omega))
     replace HX := Lib.hid x6
     clear f6 g6 x6 l0 l1 l2 l3 l4
     obtain ⟨l0, l1, l2, l3, l4⟩ := cells5 HS.out)
  | fail)
  obtain ⟨q9, hq9⟩ : ∃ q, r.drop 2 = q := ⟨_, rfl⟩
  have Hdr : Hid (r.drop (nd false false true) = q9) := Lib.hid (by rw [← hq9]; simp [nd, List.drop_drop])
  rw [hq9] at HQ
  have hq9l : q9.length ≤ 1000 := by rw [← hq9]; (try simp only [List.length_drop]); omega
  clear hq9
  obtain ⟨ot, hot⟩ : ∃ o, o = decide (r.length < nd false false true) := ⟨_, rfl⟩
  have HQ2 := Lib.hid (HQ.out.cast (o' := ot) (by rw [hot]; exact (outO r)))
  have HE : Hid (fI false r = 0 ∧ fO false true r = O0 ∧ fM false r = 0 ∧ fW false r = false ∧ fine false false r = true) := Lib.hid (by rw [← HO0.out]; exact ⟨rfl, rfl, rfl, rfl, rfl⟩)
  have Hot := Lib.hid hot
  clear hot HQ
  obtain ⟨A9, n9, c9, hx9, hb9⟩ := HQ2.out
  have H9 := Lib.hid (hb9.below (HB0.out.trans (HF.out.bel (fun k e => by omega) HB0.out.size)) (Nat.le_refl _))
  have hn9 : q9.length = n9 := hb9.blen
  obtain ⟨m0, m1⟩ := cells2 hx9
  obtain ⟨k0, k1, k2, k3, k4, k5⟩ := Bx.cells6 HX.out
  have hg8 := heap_lt HX.out
  clear hx9 hb9
  by_cases hz : n9 = 0
  · subst hz
    go_wp2_with (first
    | (refine Bx.wpL_store_all rfl rfl 42 (.tmp 6) (.tmp 53) rfl _ rfl _ rfl _ _ HR.out (by kernel_rfl) rfl (by simp [Value.oneCell']) ?_
       intro w12 x12 g12
       have f12 : Fr (fun k => k = w.heap.size + 1) _ w12 := Fr.grown g12 (by rintro k ⟨⟩; rfl)
       have HRR := Lib.hid x12
       replace HQ2 := Lib.hid (HQ2.out.fr f12 (by omega))
       replace HF := Lib.hid (HF.out.trans f12 (fun b hb e => by omega))
       have F12 := Lib.hid f12
       clear f12 g12 x12)
      | fail)
    refine bodyPost_ret (Bx.results_cell2 rfl _ _ (w.heap.size + 1) _ _ (0, 0) _ rfl HRR.out Try.underlying42 rfl (by kernel_rfl) _ rfl) rfl ?_
    refine ⟨_, _, _, ?_, (by rw [Hdr.out, List.eq_nil_of_length_eq_zero hn9]; exact Rd.nil_), ⟨q9, ?_⟩, HF.out, (fun ad e => by cases e)⟩
    · rw [HE.out.1, HE.out.2.1, HE.out.2.2.1, HE.out.2.2.2.1, HE.out.2.2.2.2]
      rfl
    · rw [← Hot.out]; exact HQ2.out
  · have hz' : 0 < n9 := by omega
    clear hz
    go_wp2_with (first
      | (go_at_call 81
         (with_reducible refine (Bx.c_bClone _ _ _ _ _ H9.out (by omega)).mono ?_)
         rintro e w10 ⟨A10, c10, rfl, ho10, bel10⟩
         have hr8 := heap_lt HR.out
         have hbs := HF.out.size
         have O10 := Lib.hid ho10
         replace HX := Lib.hid ((bel10.block _ (heap_lt HX.out)).trans HX.out)
         replace HR := Lib.hid ((bel10.block _ (heap_lt HR.out)).trans HR.out)
         replace HQ2 := Lib.hid (HQ2.out.fr (Fr.of_bel (S := fun _ => False) bel10) (fun h => h))
         replace HF := Lib.hid (HF.out.trans (Fr.of_bel (S := fun _ => False) bel10) (fun b hb e => e.elim))
         clear bel10 ho10 k0 k1 k2 k3 k4 k5 m0 m1)
      | (refine wpL_store_cell rfl rfl 23 (.tmp 52) (.tmp 51) rfl g8 5 rfl (.slice A10 n9 c10) rfl rfl rfl (by kernel_rfl) _ _ HX.out (by simp) ?_
         intro w11 x11 g11
         have f11 : Fr (fun k => k = g8) _ w11 := Fr.grown g11 (by rintro k ⟨⟩; rfl)
         simp only [List.setIfInBounds_toArray, List.set_cons_zero, List.set_cons_succ] at x11
         replace O10 := Lib.hid (O10.out.fr f11 (fun ad e => by have := (O10.out.at0 ad e).1; omega))
         replace HQ2 := Lib.hid (HQ2.out.fr f11 (by omega))
         replace HR := Lib.hid (heap_fr HR.out f11 (by omega))
         replace HF := Lib.hid (HF.out.trans f11 (fun b hb e => by omega))
         obtain ⟨k0, k1, k2, k3, k4, k5⟩ := Bx.cells6 x11
         clear f11 g11 x11)
      | (refine Bx.wpL_store_all rfl rfl 42 (.tmp 6) (.tmp 53) rfl _ rfl _ rfl _ _ HR.out (by kernel_rfl) rfl (by simp [Value.oneCell']) ?_
         intro w12 x12 g12
         have f12 : Fr (fun k => k = w.heap.size + 1) _ w12 := Fr.grown g12 (by rintro k ⟨⟩; rfl)
         have HRR := Lib.hid x12
         replace HQ2 := Lib.hid (HQ2.out.fr f12 (by omega))
         replace HF := Lib.hid (HF.out.trans f12 (fun b hb e => by omega))
         have F12 := Lib.hid f12
         clear f12 g12 x12)
      )
    have O12 := Lib.hid (O10.out.fr F12.out (fun ad e => by have := (O10.out.at0 ad e).1; omega))
    refine bodyPost_ret (Bx.results_cell2 rfl _ _ (w.heap.size + 1) _ _ (0, 0) _ rfl HRR.out Try.underlying42 rfl (by kernel_rfl) _ rfl) rfl ?_
    refine ⟨_, _, _, ?_, (by rw [Hdr.out]; exact O12.out.rd), ⟨q9, ?_⟩, HF.out, (fun ad e => by have := (O12.out.at0 ad e).1; omega)⟩
    · rw [HE.out.1, HE.out.2.1, HE.out.2.2.1, HE.out.2.2.2.1, HE.out.2.2.2.2]
      rfl
    · rw [← Hot.out]; exact HQ2.out

theorem c_readN (W0 : World) (g : Nat) (r : List UInt8) (K : Int) (s : ByteArray) (a b c d : Bool) (w : World) (h : Rdr W0 w g r false) (hB : Below W0.heap.size W0 w) (hg : W0.heap.size ≤ g) (hr : r.length ≤ 1000) (ha : a = false) (hbb : b = false) (hcc : c = false) (hVL : True) :
    Calls Try.prog 96 #[.pointer (some ⟨g, 0, none⟩), .int .i64 K, .agg #[.string s, .bool a, .bool b, .bool c, .bool d]] w fun e w' => ∃ A2 n2 c2, e = .returned (.tuple #[.agg #[.int .i64 K, .int .i64 (fI b r : Int), .int .i64 (fO b c r : Int), .int .u64 (fM a r : Int), .bool (fW a r), .slice A2 n2 c2], .bool (fine a b r)]) ∧
      Byt w' A2 n2 c2 (r.drop (nd a b c)) ∧ (∃ q, Rdr W0 w' g q (decide (r.length < nd a b c))) ∧ Fr (fun j => j = g) w w' ∧ (∀ ad, A2 = some ad → w.heap.size ≤ ad.block) := by
  subst ha hbb hcc
  obtain ⟨W2, hW2, x1, x2, hb2⟩ := Bx.two_boxes w (.cells #[.string s, .bool false, .bool false, .bool false, .bool d] 119) (.cells #[.int .i64 0, .int .i64 0, .int .i64 0, .int .u64 0, .bool false, .slice none 0 0] 42)
  have HQ := Lib.hid (h.fr (Fr.of_bel (S := fun _ => False) hb2) (fun h => h))
  have HF : Hid (Fr (fun j => j = g) w W2) := Lib.hid (Fr.of_bel hb2)
  have HB0 := Lib.hid hB
  have HS := Lib.hid x1
  have HR := Lib.hid x2
  have hgl : g < w.heap.size := by obtain ⟨A, n, c, hx, -⟩ := h; exact heap_lt hx
  clear x1 x2 hb2 h hB
  have hby := fun w out (h : Rdr W0 w g r out) hB => c_byte W0 g r out w h hB hg
  have hw1 := fun w out (h : Rdr W0 w g (r.drop 1) out) hB => c_wide W0 g (r.drop 1) out w h hB hg
  have hw0 := fun w out (h : Rdr W0 w g r out) hB => c_wide W0 g r out w h hB hg
  have ho8 := fun w out (h : Rdr W0 w g (r.drop 8) out) hB => c_roff W0 g (r.drop 8) out w h hB hg
  have ho0 := fun w out (h : Rdr W0 w g r out) hB => c_roff W0 g r out w h hB hg
  obtain ⟨FL, hFL⟩ : ∃ q, (r.getD 0 0).toNat = q := ⟨_, rfl⟩
  obtain ⟨M, hM⟩ : ∃ q, Num.gv 8 (r.drop 1) = q := ⟨_, rfl⟩
  obtain ⟨V, hV⟩ : ∃ q, Num.gv 8 r = q := ⟨_, rfl⟩
  obtain ⟨O8, hO8⟩ : ∃ q, Num.gv 2 (r.drop 8) = q := ⟨_, rfl⟩
  obtain ⟨O0, hO0⟩ : ∃ q, Num.gv 2 r = q := ⟨_, rfl⟩
  have hVl : V < 18446744073709551616 := by rw [← hV]; exact Num.gv_lt 8 r
  rw [hFL] at hby
  rw [hM] at hw1
  rw [hV] at hw0
  rw [hO8] at ho8
  rw [hO0] at ho0
  skip
  have HFL := Lib.hid hFL
  have HM := Lib.hid hM
  have HV := Lib.hid hV
  have HO8 := Lib.hid hO8
  have HO0 := Lib.hid hO0
  have Hhb := Lib.hid hby
  have Hw1 := Lib.hid hw1
  have Hw0 := Lib.hid hw0
  have Ho8 := Lib.hid ho8
  have Ho0 := Lib.hid ho0
  clear hFL hM hV hO8 hO0 hby hw1 hw0 ho8 ho0
  go_enter Try.func96, Try.ntmps96
  go_upto_region 1 with (fail)
  rw [← hW2]
  clear hW2
  obtain ⟨l0, l1, l2, l3, l4⟩ := cells5 HS.out
  go_upto_region 2 with (first
    | (refine Bx.wpL_store_all rfl rfl 42 (.tmp 8) (.tmp 13) rfl _ rfl _ rfl _ _ (heap_alloc_new W2 _) (by kernel_rfl) rfl (by simp [Value.oneCell']) ?_
       intro w4 x4 g4
       have F4 : Fr (fun k => k = W2.heap.size) W2 w4 := (Fr.alloc _).trans (Fr.grown (S := fun k => k = W2.heap.size) g4 (by rintro k ⟨⟩; rfl)) (fun _ _ h => h)
       have hsz := heap_lt HS.out
       have hrz := heap_lt HR.out
       have HQ := Lib.hid (HQ.out.fr F4 (by omega))
       have HS := Lib.hid (heap_fr HS.out F4 (by omega))
       have HR := Lib.hid (heap_fr HR.out F4 (by omega))
       have HF := Lib.hid (HF.out.trans F4 (fun b hb e => by omega))
       have HX := Lib.hid x4
       have hrz' : w.heap.size + 1 < W2.heap.size := hrz
       clear x4 g4 F4 l0 l1 l2 l3 l4 hsz hrz
       obtain ⟨l0, l1, l2, l3, l4⟩ := cells5 HS.out)
    | fail)
  generalize W2.heap.size = g8 at *
  go_upto_region 12 with (fail)
  obtain ⟨q9, hq9⟩ : ∃ q, r = q := ⟨_, rfl⟩
  have Hdr : Hid (r.drop (nd false false false) = q9) := Lib.hid (by rw [← hq9]; simp [nd, List.drop_drop])
  rw [hq9] at HQ
  have hq9l : q9.length ≤ 1000 := by rw [← hq9]; (try simp only [List.length_drop]); omega
  clear hq9
  obtain ⟨ot, hot⟩ : ∃ o, o = decide (r.length < nd false false false) := ⟨_, rfl⟩
  have HQ2 := Lib.hid (HQ.out.cast (o' := ot) (by rw [hot]; exact (outN r)))
  have HE : Hid (fI false r = 0 ∧ fO false false r = 0 ∧ fM false r = 0 ∧ fW false r = false ∧ fine false false r = true) := Lib.hid ⟨rfl, rfl, rfl, rfl, rfl⟩
  have Hot := Lib.hid hot
  clear hot HQ
  obtain ⟨A9, n9, c9, hx9, hb9⟩ := HQ2.out
  have H9 := Lib.hid (hb9.below (HB0.out.trans (HF.out.bel (fun k e => by omega) HB0.out.size)) (Nat.le_refl _))
  have hn9 : q9.length = n9 := hb9.blen
  obtain ⟨m0, m1⟩ := cells2 hx9
  obtain ⟨k0, k1, k2, k3, k4, k5⟩ := Bx.cells6 HX.out
  have hg8 := heap_lt HX.out
  clear hx9 hb9
  by_cases hz : n9 = 0
  · subst hz
    go_wp2_with (first
    | (refine Bx.wpL_store_all rfl rfl 42 (.tmp 6) (.tmp 53) rfl _ rfl _ rfl _ _ HR.out (by kernel_rfl) rfl (by simp [Value.oneCell']) ?_
       intro w12 x12 g12
       have f12 : Fr (fun k => k = w.heap.size + 1) _ w12 := Fr.grown g12 (by rintro k ⟨⟩; rfl)
       have HRR := Lib.hid x12
       replace HQ2 := Lib.hid (HQ2.out.fr f12 (by omega))
       replace HF := Lib.hid (HF.out.trans f12 (fun b hb e => by omega))
       have F12 := Lib.hid f12
       clear f12 g12 x12)
      | fail)
    refine bodyPost_ret (Bx.results_cell2 rfl _ _ (w.heap.size + 1) _ _ (0, 0) _ rfl HRR.out Try.underlying42 rfl (by kernel_rfl) _ rfl) rfl ?_
    refine ⟨_, _, _, ?_, (by rw [Hdr.out, List.eq_nil_of_length_eq_zero hn9]; exact Rd.nil_), ⟨q9, ?_⟩, HF.out, (fun ad e => by cases e)⟩
    · rw [HE.out.1, HE.out.2.1, HE.out.2.2.1, HE.out.2.2.2.1, HE.out.2.2.2.2]
      rfl
    · rw [← Hot.out]; exact HQ2.out
  · have hz' : 0 < n9 := by omega
    clear hz
    go_wp2_with (first
      | (go_at_call 81
         (with_reducible refine (Bx.c_bClone _ _ _ _ _ H9.out (by omega)).mono ?_)
         rintro e w10 ⟨A10, c10, rfl, ho10, bel10⟩
         have hr8 := heap_lt HR.out
         have hbs := HF.out.size
         have O10 := Lib.hid ho10
         replace HX := Lib.hid ((bel10.block _ (heap_lt HX.out)).trans HX.out)
         replace HR := Lib.hid ((bel10.block _ (heap_lt HR.out)).trans HR.out)
         replace HQ2 := Lib.hid (HQ2.out.fr (Fr.of_bel (S := fun _ => False) bel10) (fun h => h))
         replace HF := Lib.hid (HF.out.trans (Fr.of_bel (S := fun _ => False) bel10) (fun b hb e => e.elim))
         clear bel10 ho10 k0 k1 k2 k3 k4 k5 m0 m1)
      | (refine wpL_store_cell rfl rfl 23 (.tmp 52) (.tmp 51) rfl g8 5 rfl (.slice A10 n9 c10) rfl rfl rfl (by kernel_rfl) _ _ HX.out (by simp) ?_
         intro w11 x11 g11
         have f11 : Fr (fun k => k = g8) _ w11 := Fr.grown g11 (by rintro k ⟨⟩; rfl)
         simp only [List.setIfInBounds_toArray, List.set_cons_zero, List.set_cons_succ] at x11
         replace O10 := Lib.hid (O10.out.fr f11 (fun ad e => by have := (O10.out.at0 ad e).1; omega))
         replace HQ2 := Lib.hid (HQ2.out.fr f11 (by omega))
         replace HR := Lib.hid (heap_fr HR.out f11 (by omega))
         replace HF := Lib.hid (HF.out.trans f11 (fun b hb e => by omega))
         obtain ⟨k0, k1, k2, k3, k4, k5⟩ := Bx.cells6 x11
         clear f11 g11 x11)
      | (refine Bx.wpL_store_all rfl rfl 42 (.tmp 6) (.tmp 53) rfl _ rfl _ rfl _ _ HR.out (by kernel_rfl) rfl (by simp [Value.oneCell']) ?_
         intro w12 x12 g12
         have f12 : Fr (fun k => k = w.heap.size + 1) _ w12 := Fr.grown g12 (by rintro k ⟨⟩; rfl)
         have HRR := Lib.hid x12
         replace HQ2 := Lib.hid (HQ2.out.fr f12 (by omega))
         replace HF := Lib.hid (HF.out.trans f12 (fun b hb e => by omega))
         have F12 := Lib.hid f12
         clear f12 g12 x12)
      )
    have O12 := Lib.hid (O10.out.fr F12.out (fun ad e => by have := (O10.out.at0 ad e).1; omega))
    refine bodyPost_ret (Bx.results_cell2 rfl _ _ (w.heap.size + 1) _ _ (0, 0) _ rfl HRR.out Try.underlying42 rfl (by kernel_rfl) _ rfl) rfl ?_
    refine ⟨_, _, _, ?_, (by rw [Hdr.out]; exact O12.out.rd), ⟨q9, ?_⟩, HF.out, (fun ad e => by have := (O12.out.at0 ad e).1; omega)⟩
    · rw [HE.out.1, HE.out.2.1, HE.out.2.2.1, HE.out.2.2.2.1, HE.out.2.2.2.2]
      rfl
    · rw [← Hot.out]; exact HQ2.out
end Go.Proofs.Ytdpggcpbgfancaa.Pack
