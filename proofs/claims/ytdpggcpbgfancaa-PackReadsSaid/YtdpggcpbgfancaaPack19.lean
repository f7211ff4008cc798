/- The law PackReads, walked. Conditions: none. -/
import Derived.Test.YtdpggcpbgfancaaPack18
set_option linter.unusedVariables false
set_option linter.unusedSimpArgs false
namespace Go.Proofs.Ytdpggcpbgfancaa.Pack
open Go.RowKit Tw
set_option maxHeartbeats 8000000
set_option maxRecDepth 100000
theorem w_PackReads (A : Option Addr) (n c : Nat) (b : List UInt8) (w : World) (hb : Byt w A n c b) :
    Calls Try.prog 7 #[.slice A n c] w fun e w' => e = .returned (.bool true) ∧ Below w.heap.size w w' := by
  have Hb := Lib.hid hb
  by_cases hn : 400 < n
  · go_enter Try.func7, Try.ntmps7
    go_wp2_with (first
      | (go_at_call 28
         (with_reducible refine (c_lives _).mono ?_)
         rintro e w1 ⟨rfl, hb1⟩))
    go_ret
    exact ⟨rfl, hb1⟩
  · have hp := fun w (h : Byt w A n c b) => c_Parse A n c b w h (by omega)
    have hr := fun w (h : Byt w A n c b) => c_rParse A n c b w h (by omega)
    generalize (parse b).2 = er at *
    generalize (parse b).1 = p at *
    have hsm := fun A A' n c n' c' w h1 h2 => c_rSame p p A A' n c n' c' w h1 h2
    rw [show decide (SameP p p) = true from decide_eq_true (sameP_iff.2 rfl)] at hsm
    obtain ⟨pk, pi, po, pm, pw, pd⟩ := p
    simp only [msV] at *
    obtain ⟨P, hP⟩ : ∃ P : Int, (pm : Int) = P := ⟨_, rfl⟩
    rw [hP] at hp hr hsm
    clear hb hP
    go_enter Try.func7, Try.ntmps7
    go_wp2_with (first
      | (go_at_call 35
         (with_reducible refine (hp _ Hb.out).mono ?_)
         rintro e w1 ⟨A1, n1, c1, rfl, h1, bel1⟩
         have H1 := Lib.hid h1
         have HB1 := Lib.hid bel1
         clear h1 bel1 hp)
      | (refine Bx.wpL_store_all rfl rfl 42 (.tmp 3) (.tmp 14) rfl _ rfl _ rfl _ _ (heap_alloc_new w1 _) (by kernel_rfl) rfl (one6 _ _ _ _ _ _ _ _) ?_
         intro w2 x2 g2
         have HX2 := Lib.hid x2
         have F2 : Fr (fun k => k = w1.heap.size) w1 w2 := (Fr.alloc _).trans (Fr.grown (S := fun k => k = w1.heap.size) g2 (by rintro k ⟨⟩; rfl)) (fun _ _ h => h)
         have bel2 : Below w1.heap.size w1 w2 := F2.bel (fun k e => by omega) (Nat.le_refl _)
         have H2 := Lib.hid (H1.out.bel bel2)
         have HB2 := Lib.hid (HB1.out.trans (bel2.mono HB1.out.size))
         clear x2 g2 F2 bel2)
      | (go_at_call 36
         (with_reducible refine (hr _ (Hb.out.below HB2.out (Nat.le_refl _))).mono ?_)
         rintro e w3 ⟨A3, n3, c3, rfl, h3, bel3⟩
         have H3 := Lib.hid h3
         have H4 := Lib.hid (H2.out.bel bel3)
         have HX3 := Lib.hid ((bel3.block _ (heap_lt HX2.out)).trans HX2.out)
         have HB3 := Lib.hid (HB2.out.trans (bel3.mono HB2.out.size))
         clear h3 bel3 hr)
      | (refine Bx.wpL_store_all rfl rfl 42 (.tmp 5) (.tmp 19) rfl _ rfl _ rfl _ _ (heap_alloc_new w3 _) (by kernel_rfl) rfl (one6 _ _ _ _ _ _ _ _) ?_
         intro w5 x5 g5
         have HX5 := Lib.hid x5
         have F5 : Fr (fun k => k = w3.heap.size) w3 w5 := (Fr.alloc _).trans (Fr.grown (S := fun k => k = w3.heap.size) g5 (by rintro k ⟨⟩; rfl)) (fun _ _ h => h)
         have bel5 : Below w3.heap.size w3 w5 := F5.bel (fun k e => by omega) (Nat.le_refl _)
         have H5 := Lib.hid (H3.out.bel bel5)
         have H6 := Lib.hid (H4.out.bel bel5)
         have HX6 := Lib.hid ((bel5.block _ (heap_lt HX3.out)).trans HX3.out)
         have HB5 := Lib.hid (HB3.out.trans (bel5.mono HB3.out.size))
         clear x5 g5 F5 bel5
         obtain ⟨q0, q1, q2, q3, q4, q5⟩ := Bx.cells6 HX6.out
         obtain ⟨r0, r1, r2, r3, r4, r5⟩ := Bx.cells6 HX5.out)
      | (go_at_call 37
         (with_reducible refine (hsm A1 A3 n1 c1 n3 c3 _ H6.out H5.out).mono ?_)
         rintro e w6 ⟨rfl, bel6⟩
         have HB6 := Lib.hid (HB5.out.trans (bel6.mono HB5.out.size))
         clear bel6)
      | (go_at_call 28
         (with_reducible refine (c_lives _).mono ?_)
         rintro e w7 ⟨rfl, bel7⟩
         have HB7 := Lib.hid (HB6.out.trans (bel7.mono HB6.out.size))
         clear bel7))
    go_ret
    exact ⟨rfl, HB7.out⟩
end Go.Proofs.Ytdpggcpbgfancaa.Pack
