/- Contracts of the package pack: Parse. Conditions: none. -/
import Derived.Test.YtdpggcpbgfancaaPack9
import Derived.Test.YtdpggcpbgfancaaPack6
set_option linter.unusedVariables false
set_option linter.unusedSimpArgs false
namespace Go.Proofs.Ytdpggcpbgfancaa.Pack
open Go.RowKit Tw
set_option maxHeartbeats 8000000
set_option maxRecDepth 100000
theorem c_read (W0 : World) (g : Nat) (r : List UInt8) (K : Int) (s : ByteArray) (a b c d : Bool) (w : World) (h : Rdr W0 w g r false) (hB : Below W0.heap.size W0 w) (hg : W0.heap.size ≤ g) (hr : r.length ≤ 1000)
    (hk5 : a = true ∧ b = false ∧ c = false ∨ a = false ∧ b = true ∧ c = true ∨ a = false ∧ b = true ∧ c = false ∨ a = false ∧ b = false ∧ c = true ∨ a = false ∧ b = false ∧ c = false) :
    Calls Try.prog 96 #[.pointer (some ⟨g, 0, none⟩), .int .i64 K, .agg #[.string s, .bool a, .bool b, .bool c, .bool d]] w fun e w' => ∃ A2 n2 c2, e = .returned (.tuple #[.agg #[.int .i64 K, .int .i64 (fI b r : Int), .int .i64 (fO b c r : Int), .int .u64 (fM a r : Int), .bool (fW a r), .slice A2 n2 c2], .bool (fine a b r)]) ∧
      Byt w' A2 n2 c2 (r.drop (nd a b c)) ∧ (∃ q, Rdr W0 w' g q (decide (r.length < nd a b c))) ∧ Fr (fun j => j = g) w w' ∧ (∀ ad, A2 = some ad → w.heap.size ≤ ad.block) := by
  rcases hk5 with ⟨rfl, rfl, rfl⟩ | ⟨rfl, rfl, rfl⟩ | ⟨rfl, rfl, rfl⟩ | ⟨rfl, rfl, rfl⟩ | ⟨rfl, rfl, rfl⟩
  · exact c_readW W0 g r K s _ _ _ d w h hB hg hr rfl rfl rfl trivial
  · by_cases hV : Num.gv 8 r ≤ 72057594037927935
    · exact c_readIO0 W0 g r K s _ _ _ d w h hB hg hr rfl rfl rfl hV
    · exact c_readIO1 W0 g r K s _ _ _ d w h hB hg hr rfl rfl rfl hV
  · by_cases hV : Num.gv 8 r ≤ 72057594037927935
    · exact c_readI0 W0 g r K s _ _ _ d w h hB hg hr rfl rfl rfl hV
    · exact c_readI1 W0 g r K s _ _ _ d w h hB hg hr rfl rfl rfl hV
  · exact c_readO W0 g r K s _ _ _ d w h hB hg hr rfl rfl rfl trivial
  · exact c_readN W0 g r K s _ _ _ d w h hB hg hr rfl rfl rfl trivial
/-- a message, plainly -/
structure Ms where
  k : Int
  i : Int
  o : Int
  m : Nat
  w : Bool
  d : List UInt8
def zm : Ms := ⟨0, 0, 0, 0, false, []⟩
def bytesM (p : Ms) : List UInt8 := bytes p.k p.i p.o p.m p.w p.d
def GoodM (p : Ms) : Prop := Good p.k p.i p.o p.m p.w p.d.length
instance (p : Ms) : Decidable (GoodM p) := by unfold GoodM; infer_instance
def fieldsM (k : Int) (r : List UInt8) : Ms := ⟨k, (fI (kI k) r : Nat), (fO (kI k) (kO k) r : Nat), fM (kW k) r, fW (kW k) r, r.drop (nd (kW k) (kI k) (kO k))⟩
def headM (b : List UInt8) : Int := ((b.getD 0 0).toNat : Nat)
def parse (b : List UInt8) : Ms × Nat :=
  if 200 < b.length then (zm, 11) else if b.length = 0 then (zm, 8) else if kk (headM b) = false then (zm, 9) else
  if (b.drop 1).length < nd (kW (headM b)) (kI (headM b)) (kO (headM b)) then (zm, 8) else
  if fine (kW (headM b)) (kI (headM b)) (b.drop 1) = true ∧ GoodM (fieldsM (headM b) (b.drop 1)) then (fieldsM (headM b) (b.drop 1), 0) else (zm, 9)
def msV (p : Ms) (A : Option Addr) (n c : Nat) : Value := .agg #[.int .i64 p.k, .int .i64 p.i, .int .i64 p.o, .int .u64 (p.m : Int), .bool p.w, .slice A n c]
theorem shapes {K : Int} : kW K = true ∧ kI K = false ∧ kO K = false ∨ kW K = false ∧ kI K = true ∧ kO K = true ∨ kW K = false ∧ kI K = true ∧ kO K = false ∨ kW K = false ∧ kI K = false ∧ kO K = true ∨ kW K = false ∧ kI K = false ∧ kO K = false := by
  unfold kW kI kO
  simp only [decide_eq_true_eq, decide_eq_false_iff_not]
  omega
theorem one6 (a b c : Int) (m : Int) (x : Bool) (A : Option Addr) (n k : Nat) : ∀ v ∈ (#[.int .i64 a, .int .i64 b, .int .i64 c, .int .u64 m, .bool x, .slice A n k] : Array Value), v.oneCell' = true := by
  intro v hv
  simp at hv
  rcases hv with rfl | rfl | rfl | rfl | rfl | rfl <;> rfl
theorem c_Parse (A : Option Addr) (n c : Nat) (b : List UInt8) (w : World) (hb : Byt w A n c b) (hn : n ≤ 1000) :
    Calls Try.prog 35 #[.slice A n c] w fun e w' => ∃ A2 n2 c2, e = .returned (.tuple #[msV (parse b).1 A2 n2 c2, .int .i64 ((parse b).2 : Nat)]) ∧ Byt w' A2 n2 c2 (parse b).1.d ∧ Below w.heap.size w w' := by
  have hlen := hb.blen
  have HB := Lib.hid ((Below.refl _ _).alloc (Nat.le_refl w.heap.size) (.cells #[.int .i64 0, .int .i64 0, .int .i64 0, .int .u64 0, .bool false, .slice none 0 0] 42))
  have HX := Lib.hid (heap_alloc_new w (.cells #[.int .i64 0, .int .i64 0, .int .i64 0, .int .u64 0, .bool false, .slice none 0 0] 42))
  have Hb := Lib.hid (hb.bel HB.out)
  obtain ⟨⟨P, er⟩, hp⟩ : ∃ r, parse b = r := ⟨_, rfl⟩
  rw [hp]
  unfold parse at hp
  rw [hlen] at hp
  clear hb
  by_cases h1 : 200 < n
  · rw [if_pos h1] at hp
    obtain ⟨rfl, rfl⟩ := Prod.mk.inj hp
    clear hp
    go_enter Try.func35, Try.ntmps35
    go_wp2_with fail
    refine bodyPost_ret (Bx.results_cell2 rfl _ _ w.heap.size _ _ (0, 0) _ rfl HX.out Try.underlying42 rfl (by kernel_rfl) _ rfl) rfl ?_
    exact ⟨none, 0, 0, rfl, Rd.nil_, HB.out⟩
  · rw [if_neg h1] at hp
    by_cases h2 : n = 0
    · rw [if_pos h2] at hp
      subst h2
      obtain ⟨rfl, rfl⟩ := Prod.mk.inj hp
      clear hp
      go_enter Try.func35, Try.ntmps35
      go_wp2_with fail
      refine bodyPost_ret (Bx.results_cell2 rfl _ _ w.heap.size _ _ (0, 0) _ rfl HX.out Try.underlying42 rfl (by kernel_rfl) _ rfl) rfl ?_
      exact ⟨none, 0, 0, rfl, Rd.nil_, HB.out⟩
    · rw [if_neg h2] at hp
      have hn0 : ((n : Int) == 0) = false := by simp; omega
      go_enter Try.func35, Try.ntmps35
      go_upto_region 5 with (fail)
      generalize w.alloc (.cells #[.int .i64 0, .int .i64 0, .int .i64 0, .int .u64 0, .bool false, .slice none 0 0] 42) = W1 at *
      have hrl : (b.drop 1).length ≤ 1000 := by rw [List.length_drop]; omega
      have hby := fun w h hB => c_byte W1 W1.heap.size b false w h hB (Nat.le_refl _)
      have Hout : Hid ((false || decide (b.length < 1)) = false) := Lib.hid (by rw [Bool.false_or]; exact decide_eq_false (by omega))
      rw [Hout.out] at hby
      have hof : ∀ w, Calls Try.prog 85 #[.int .i64 (headM b)] w fun e w' => e = .returned (.tuple #[.agg #[.string (nm (headM b)), .bool (kW (headM b)), .bool (kI (headM b)), .bool (kO (headM b)), .bool (kD (headM b))], .bool (kk (headM b))]) ∧ Below w.heap.size w w' := fun w => c_of (headM b) w
      have hrd := fun w h hB => c_read W1 W1.heap.size (b.drop 1) (headM b) (nm (headM b)) (kW (headM b)) (kI (headM b)) (kO (headM b)) (kD (headM b)) w h hB (Nat.le_refl _) hrl shapes
      have hwr : Hid (wrap64 (headM b) = headM b) := Lib.hid (by have := (b.getD 0 0).toNat_lt; unfold headM wrap64; omega)
      have h256 : ((b.getD 0 0).toNat : Int) = headM b := rfl
      rw [h256] at hby
      have hgd := fun (A : Option Addr) (n c : Nat) w => c_Good (headM b) (fI (kI (headM b)) (b.drop 1) : Nat) (fO (kI (headM b)) (kO (headM b)) (b.drop 1) : Nat) (fM (kW (headM b)) (b.drop 1)) (fW (kW (headM b)) (b.drop 1)) A n c w
      unfold GoodM fieldsM at hp
      simp only at hp
      obtain ⟨K, hK⟩ : ∃ K, headM b = K := ⟨_, rfl⟩
      rw [hK] at hp hby hof hrd hwr hgd
      clear hK h256 hn hlen h1 h2
      obtain ⟨r, hr⟩ : ∃ r, b.drop 1 = r := ⟨_, rfl⟩
      rw [hr] at hp hby hrd hgd hrl
      have Hr := Lib.hid hr
      clear hr
      generalize kD K = d at *
      generalize nm K = s at *
      generalize kW K = a at *
      generalize kI K = bb at *
      generalize kO K = cc at *
      generalize kk K = q at *
      generalize fI bb r = FI at *
      generalize fO bb cc r = FO at *
      generalize fM a r = FM at *
      generalize fW a r = FW at *
      obtain ⟨D, hD⟩ : ∃ D, r.drop (nd a bb cc) = D := ⟨_, rfl⟩
      rw [hD] at hp hrd
      obtain ⟨ot, hot⟩ : ∃ o, decide (r.length < nd a bb cc) = o := ⟨_, rfl⟩
      rw [hot] at hrd
      obtain ⟨fn, hfn⟩ : ∃ o, fine a bb r = o := ⟨_, rfl⟩
      rw [hfn] at hrd hp
      have Hp := Lib.hid hp
      have Hot := Lib.hid hot
      clear hD hot hfn hp hrl
      go_upto_region 6 with (fail)
      have HQ : Hid (Rdr W1 (W1.alloc (.cells #[.slice A n c, .bool false] 125)) W1.heap.size b false) := Lib.hid ⟨A, n, c, heap_alloc_new W1 _, Hb.out⟩
      have BW := Lib.hid ((Below.refl _ _).alloc (Nat.le_refl W1.heap.size) (.cells #[.slice A n c, .bool false] 125))
      have hgx := heap_lt HX.out
      generalize W1.alloc (.cells #[.slice A n c, .bool false] 125) = W2 at *
      cases q with
      | false =>
        obtain ⟨rfl, rfl⟩ := Prod.mk.inj (show (zm, 9) = (P, er) from Hp.out)
        clear Hp hgd hrd
        go_wp2_with (first
        | (go_at_call 95
           (with_reducible refine (hby _ HQ.out BW.out).mono ?_)
           rintro e w3 ⟨rfl, hq3, f3⟩
           have HQ3 := Lib.hid hq3
           have BW3 := Lib.hid (BW.out.trans (f3.bel (fun k e => by omega) BW.out.size))
           clear hq3 f3 hby)
        | (simp only [hwr.out])
        | (go_at_call 85
           (with_reducible refine (hof _).mono ?_)
           rintro e w4 ⟨rfl, b4⟩
           have HQ4 := Lib.hid (HQ3.out.fr (Fr.of_bel (S := fun _ => False) b4) (fun h => h))
           have BW4 := Lib.hid (BW3.out.trans (b4.mono BW3.out.size))
           clear b4 hof)
        | (refine Bx.wpL_store_all rfl rfl 119 (.tmp 6) (.tmp 29) rfl _ rfl _ rfl _ _ (heap_alloc_new w4 _) (by kernel_rfl) rfl (one5 _ _ _ _ _) ?_
           intro w5 x5 g5
           have f5 : Fr (fun k => k = w4.heap.size) w4 w5 := (Fr.alloc _).trans (Fr.grown (S := fun k => k = w4.heap.size) g5 (by rintro k ⟨⟩; rfl)) (fun _ _ h => h)
           have b5 : Below w4.heap.size w4 w5 := f5.bel (fun k e => by omega) (Nat.le_refl _)
           have HQ5 := Lib.hid (HQ4.out.fr (Fr.of_bel (S := fun _ => False) b5) (fun h => h))
           have BW5 := Lib.hid (BW4.out.trans (b5.mono BW4.out.size))
           have HX5 := Lib.hid ((BW5.out.block _ hgx).trans HX.out)
           have HB5 := Lib.hid (HB.out.trans (BW5.out.mono HB.out.size))
           obtain ⟨l0, l1, l2, l3, l4⟩ := cells5 x5
           clear x5 g5 f5 b5)
        | (refine Bx.wpL_store_all rfl rfl 42 (.tmp 2) (.tmp 33) rfl _ rfl _ rfl _ _ HX5.out (by kernel_rfl) rfl (one6 _ _ _ _ _ _ _ _) ?_
           intro w9 x9 g9
           have HR := Lib.hid x9
           have HBR := Lib.hid (HB5.out.grown g9 HB5.out.size (by rintro k ⟨⟩; exact Nat.le_refl _))
           have HG9 := Lib.hid g9
           clear x9 g9)
        | fail)
        refine bodyPost_ret (Bx.results_cell2 rfl _ _ w.heap.size _ _ (0, 0) _ rfl HR.out Try.underlying42 rfl (by kernel_rfl) _ rfl) rfl ?_
        exact ⟨none, 0, 0, rfl, Rd.nil_, HBR.out⟩
      | true =>
        have Hp2 : Hid ((if ot = true then (zm, 8) else if fn = true ∧ Good K (↑FI) (↑FO) FM FW D.length then ({ k := K, i := ↑FI, o := ↑FO, m := FM, w := FW, d := D }, 0) else (zm, 9)) = (P, er)) := Lib.hid (by have h := Hp.out; simp only [Bool.true_eq_false, if_false] at h; rw [← Hot.out]; simpa using h)
        clear Hp
        cases ot with
        | true =>
          obtain ⟨rfl, rfl⟩ := Prod.mk.inj (show (zm, 8) = (P, er) from Hp2.out)
          clear Hp2 hgd
          go_wp2_with (first
          | (go_at_call 95
             (with_reducible refine (hby _ HQ.out BW.out).mono ?_)
             rintro e w3 ⟨rfl, hq3, f3⟩
             have HQ3 := Lib.hid hq3
             have BW3 := Lib.hid (BW.out.trans (f3.bel (fun k e => by omega) BW.out.size))
             clear hq3 f3 hby)
          | (simp only [hwr.out])
          | (go_at_call 85
             (with_reducible refine (hof _).mono ?_)
             rintro e w4 ⟨rfl, b4⟩
             have HQ4 := Lib.hid (HQ3.out.fr (Fr.of_bel (S := fun _ => False) b4) (fun h => h))
             have BW4 := Lib.hid (BW3.out.trans (b4.mono BW3.out.size))
             clear b4 hof)
          | (refine Bx.wpL_store_all rfl rfl 119 (.tmp 6) (.tmp 29) rfl _ rfl _ rfl _ _ (heap_alloc_new w4 _) (by kernel_rfl) rfl (one5 _ _ _ _ _) ?_
             intro w5 x5 g5
             have f5 : Fr (fun k => k = w4.heap.size) w4 w5 := (Fr.alloc _).trans (Fr.grown (S := fun k => k = w4.heap.size) g5 (by rintro k ⟨⟩; rfl)) (fun _ _ h => h)
             have b5 : Below w4.heap.size w4 w5 := f5.bel (fun k e => by omega) (Nat.le_refl _)
             have HQ5 := Lib.hid (HQ4.out.fr (Fr.of_bel (S := fun _ => False) b5) (fun h => h))
             have BW5 := Lib.hid (BW4.out.trans (b5.mono BW4.out.size))
             have HX5 := Lib.hid ((BW5.out.block _ hgx).trans HX.out)
             have HB5 := Lib.hid (HB.out.trans (BW5.out.mono HB.out.size))
             obtain ⟨l0, l1, l2, l3, l4⟩ := cells5 x5
             clear x5 g5 f5 b5)
          | (go_at_call 96
             (with_reducible refine (hrd _ HQ5.out BW5.out).mono ?_)
             rintro e w6 ⟨A6, n6, c6, rfl, hd6, ⟨q6, hq6⟩, f6, ha6⟩
             have HA6 : Hid (∀ ad, A6 = some ad → w.heap.size < ad.block) := Lib.hid (fun ad e => by have := ha6 ad e; have := BW5.out.size; omega)
             have HQ6 := Lib.hid hq6
             have HD6 := Lib.hid hd6
             have BW6 := Lib.hid (BW5.out.trans (f6.bel (fun k e => by omega) BW5.out.size))
             clear hq6 hd6 f6 ha6 hrd l0 l1 l2 l3 l4)
          | (refine Bx.wpL_store_all rfl rfl 42 (.tmp 8) (.tmp 39) rfl _ rfl _ rfl _ _ (heap_alloc_new w6 _) (by kernel_rfl) rfl (one6 _ _ _ _ _ _ _ _) ?_
             intro w7 x7 g7
             have f7 : Fr (fun k => k = w6.heap.size) w6 w7 := (Fr.alloc _).trans (Fr.grown (S := fun k => k = w6.heap.size) g7 (by rintro k ⟨⟩; rfl)) (fun _ _ h => h)
             have b7 : Below w6.heap.size w6 w7 := f7.bel (fun k e => by omega) (Nat.le_refl _)
             have HQ7 := Lib.hid (HQ6.out.fr (Fr.of_bel (S := fun _ => False) b7) (fun h => h))
             have HD7 := Lib.hid (HD6.out.bel b7)
             have BW7 := Lib.hid (BW6.out.trans (b7.mono BW6.out.size))
             have HX7 := Lib.hid ((BW7.out.block _ hgx).trans HX.out)
             have HB7 := Lib.hid (HB.out.trans (BW7.out.mono HB.out.size))
             have HM7 := Lib.hid x7
             obtain ⟨k0, k1, k2, k3, k4, k5⟩ := Bx.cells6 x7
             clear x7 g7 f7 b7
             obtain ⟨Aq, nq, cq, hxq, -⟩ := HQ7.out
             obtain ⟨m0, m1⟩ := cells2 hxq
             clear hxq m0)
          | (refine Bx.wpL_store_all rfl rfl 42 (.tmp 2) (.tmp 46) rfl _ rfl _ rfl _ _ HX7.out (by kernel_rfl) rfl (one6 _ _ _ _ _ _ _ _) ?_
             intro w9 x9 g9
             have HR := Lib.hid x9
             have HBR := Lib.hid (HB7.out.grown g9 HB7.out.size (by rintro k ⟨⟩; exact Nat.le_refl _))
             have HG9 := Lib.hid g9
             clear x9 g9)
          | fail)
          refine bodyPost_ret (Bx.results_cell2 rfl _ _ w.heap.size _ _ (0, 0) _ rfl HR.out Try.underlying42 rfl (by kernel_rfl) _ rfl) rfl ?_
          exact ⟨none, 0, 0, rfl, Rd.nil_, HBR.out⟩
        | false =>
          have Hp3 : Hid ((if fn = true ∧ Good K (↑FI) (↑FO) FM FW D.length then ({ k := K, i := ↑FI, o := ↑FO, m := FM, w := FW, d := D }, 0) else (zm, 9)) = (P, er)) := Hp2
          clear Hp2
          cases fn with
          | false =>
            obtain ⟨rfl, rfl⟩ := Prod.mk.inj (show (zm, 9) = (P, er) from by have h := Hp3.out; rw [if_neg (by simp)] at h; exact h)
            clear Hp3 hgd
            go_wp2_with (first
            | (go_at_call 95
               (with_reducible refine (hby _ HQ.out BW.out).mono ?_)
               rintro e w3 ⟨rfl, hq3, f3⟩
               have HQ3 := Lib.hid hq3
               have BW3 := Lib.hid (BW.out.trans (f3.bel (fun k e => by omega) BW.out.size))
               clear hq3 f3 hby)
            | (simp only [hwr.out])
            | (go_at_call 85
               (with_reducible refine (hof _).mono ?_)
               rintro e w4 ⟨rfl, b4⟩
               have HQ4 := Lib.hid (HQ3.out.fr (Fr.of_bel (S := fun _ => False) b4) (fun h => h))
               have BW4 := Lib.hid (BW3.out.trans (b4.mono BW3.out.size))
               clear b4 hof)
            | (refine Bx.wpL_store_all rfl rfl 119 (.tmp 6) (.tmp 29) rfl _ rfl _ rfl _ _ (heap_alloc_new w4 _) (by kernel_rfl) rfl (one5 _ _ _ _ _) ?_
               intro w5 x5 g5
               have f5 : Fr (fun k => k = w4.heap.size) w4 w5 := (Fr.alloc _).trans (Fr.grown (S := fun k => k = w4.heap.size) g5 (by rintro k ⟨⟩; rfl)) (fun _ _ h => h)
               have b5 : Below w4.heap.size w4 w5 := f5.bel (fun k e => by omega) (Nat.le_refl _)
               have HQ5 := Lib.hid (HQ4.out.fr (Fr.of_bel (S := fun _ => False) b5) (fun h => h))
               have BW5 := Lib.hid (BW4.out.trans (b5.mono BW4.out.size))
               have HX5 := Lib.hid ((BW5.out.block _ hgx).trans HX.out)
               have HB5 := Lib.hid (HB.out.trans (BW5.out.mono HB.out.size))
               obtain ⟨l0, l1, l2, l3, l4⟩ := cells5 x5
               clear x5 g5 f5 b5)
            | (go_at_call 96
               (with_reducible refine (hrd _ HQ5.out BW5.out).mono ?_)
               rintro e w6 ⟨A6, n6, c6, rfl, hd6, ⟨q6, hq6⟩, f6, ha6⟩
               have HA6 : Hid (∀ ad, A6 = some ad → w.heap.size < ad.block) := Lib.hid (fun ad e => by have := ha6 ad e; have := BW5.out.size; omega)
               have HQ6 := Lib.hid hq6
               have HD6 := Lib.hid hd6
               have BW6 := Lib.hid (BW5.out.trans (f6.bel (fun k e => by omega) BW5.out.size))
               clear hq6 hd6 f6 ha6 hrd l0 l1 l2 l3 l4)
            | (refine Bx.wpL_store_all rfl rfl 42 (.tmp 8) (.tmp 39) rfl _ rfl _ rfl _ _ (heap_alloc_new w6 _) (by kernel_rfl) rfl (one6 _ _ _ _ _ _ _ _) ?_
               intro w7 x7 g7
               have f7 : Fr (fun k => k = w6.heap.size) w6 w7 := (Fr.alloc _).trans (Fr.grown (S := fun k => k = w6.heap.size) g7 (by rintro k ⟨⟩; rfl)) (fun _ _ h => h)
               have b7 : Below w6.heap.size w6 w7 := f7.bel (fun k e => by omega) (Nat.le_refl _)
               have HQ7 := Lib.hid (HQ6.out.fr (Fr.of_bel (S := fun _ => False) b7) (fun h => h))
               have HD7 := Lib.hid (HD6.out.bel b7)
               have BW7 := Lib.hid (BW6.out.trans (b7.mono BW6.out.size))
               have HX7 := Lib.hid ((BW7.out.block _ hgx).trans HX.out)
               have HB7 := Lib.hid (HB.out.trans (BW7.out.mono HB.out.size))
               have HM7 := Lib.hid x7
               obtain ⟨k0, k1, k2, k3, k4, k5⟩ := Bx.cells6 x7
               clear x7 g7 f7 b7
               obtain ⟨Aq, nq, cq, hxq, -⟩ := HQ7.out
               obtain ⟨m0, m1⟩ := cells2 hxq
               clear hxq m0)
            | (refine Bx.wpL_store_all rfl rfl 42 (.tmp 2) (.tmp 53) rfl _ rfl _ rfl _ _ HX7.out (by kernel_rfl) rfl (one6 _ _ _ _ _ _ _ _) ?_
               intro w9 x9 g9
               have HR := Lib.hid x9
               have HBR := Lib.hid (HB7.out.grown g9 HB7.out.size (by rintro k ⟨⟩; exact Nat.le_refl _))
               have HG9 := Lib.hid g9
               clear x9 g9)
            | fail)
            refine bodyPost_ret (Bx.results_cell2 rfl _ _ w.heap.size _ _ (0, 0) _ rfl HR.out Try.underlying42 rfl (by kernel_rfl) _ rfl) rfl ?_
            exact ⟨none, 0, 0, rfl, Rd.nil_, HBR.out⟩
          | true =>
            by_cases hG : Good K (↑FI) (↑FO) FM FW D.length
            · obtain ⟨rfl, rfl⟩ := Prod.mk.inj (show (⟨K, ↑FI, ↑FO, FM, FW, D⟩, 0) = (P, er) from by have h := Hp3.out; rw [if_pos ⟨rfl, hG⟩] at h; exact h)
              have hG2 : ∀ m, m = D.length → decide (Good K (↑FI) (↑FO) FM FW m) = true := fun m e => by rw [e]; exact decide_eq_true hG
              clear Hp3
              go_wp2_with (first
              | (go_at_call 95
                 (with_reducible refine (hby _ HQ.out BW.out).mono ?_)
                 rintro e w3 ⟨rfl, hq3, f3⟩
                 have HQ3 := Lib.hid hq3
                 have BW3 := Lib.hid (BW.out.trans (f3.bel (fun k e => by omega) BW.out.size))
                 clear hq3 f3 hby)
              | (simp only [hwr.out])
              | (go_at_call 85
                 (with_reducible refine (hof _).mono ?_)
                 rintro e w4 ⟨rfl, b4⟩
                 have HQ4 := Lib.hid (HQ3.out.fr (Fr.of_bel (S := fun _ => False) b4) (fun h => h))
                 have BW4 := Lib.hid (BW3.out.trans (b4.mono BW3.out.size))
                 clear b4 hof)
              | (refine Bx.wpL_store_all rfl rfl 119 (.tmp 6) (.tmp 29) rfl _ rfl _ rfl _ _ (heap_alloc_new w4 _) (by kernel_rfl) rfl (one5 _ _ _ _ _) ?_
                 intro w5 x5 g5
                 have f5 : Fr (fun k => k = w4.heap.size) w4 w5 := (Fr.alloc _).trans (Fr.grown (S := fun k => k = w4.heap.size) g5 (by rintro k ⟨⟩; rfl)) (fun _ _ h => h)
                 have b5 : Below w4.heap.size w4 w5 := f5.bel (fun k e => by omega) (Nat.le_refl _)
                 have HQ5 := Lib.hid (HQ4.out.fr (Fr.of_bel (S := fun _ => False) b5) (fun h => h))
                 have BW5 := Lib.hid (BW4.out.trans (b5.mono BW4.out.size))
                 have HX5 := Lib.hid ((BW5.out.block _ hgx).trans HX.out)
                 have HB5 := Lib.hid (HB.out.trans (BW5.out.mono HB.out.size))
                 obtain ⟨l0, l1, l2, l3, l4⟩ := cells5 x5
                 clear x5 g5 f5 b5)
              | (go_at_call 96
                 (with_reducible refine (hrd _ HQ5.out BW5.out).mono ?_)
                 rintro e w6 ⟨A6, n6, c6, rfl, hd6, ⟨q6, hq6⟩, f6, ha6⟩
                 have HA6 : Hid (∀ ad, A6 = some ad → w.heap.size < ad.block) := Lib.hid (fun ad e => by have := ha6 ad e; have := BW5.out.size; omega)
                 have HQ6 := Lib.hid hq6
                 have HD6 := Lib.hid hd6
                 have BW6 := Lib.hid (BW5.out.trans (f6.bel (fun k e => by omega) BW5.out.size))
                 clear hq6 hd6 f6 ha6 hrd l0 l1 l2 l3 l4)
              | (refine Bx.wpL_store_all rfl rfl 42 (.tmp 8) (.tmp 39) rfl _ rfl _ rfl _ _ (heap_alloc_new w6 _) (by kernel_rfl) rfl (one6 _ _ _ _ _ _ _ _) ?_
                 intro w7 x7 g7
                 have f7 : Fr (fun k => k = w6.heap.size) w6 w7 := (Fr.alloc _).trans (Fr.grown (S := fun k => k = w6.heap.size) g7 (by rintro k ⟨⟩; rfl)) (fun _ _ h => h)
                 have b7 : Below w6.heap.size w6 w7 := f7.bel (fun k e => by omega) (Nat.le_refl _)
                 have HQ7 := Lib.hid (HQ6.out.fr (Fr.of_bel (S := fun _ => False) b7) (fun h => h))
                 have HD7 := Lib.hid (HD6.out.bel b7)
                 have BW7 := Lib.hid (BW6.out.trans (b7.mono BW6.out.size))
                 have HX7 := Lib.hid ((BW7.out.block _ hgx).trans HX.out)
                 have HB7 := Lib.hid (HB.out.trans (BW7.out.mono HB.out.size))
                 have HM7 := Lib.hid x7
                 obtain ⟨k0, k1, k2, k3, k4, k5⟩ := Bx.cells6 x7
                 clear x7 g7 f7 b7
                 obtain ⟨Aq, nq, cq, hxq, -⟩ := HQ7.out
                 obtain ⟨m0, m1⟩ := cells2 hxq
                 clear hxq m0)
              | (go_at_call 29
                 (with_reducible refine (hgd _ _ _ _).mono ?_)
                 rintro e w8 ⟨rfl, b8⟩
                 rw [hG2 _ HD7.out.blen.symm]
                 have HD8 := Lib.hid (HD7.out.bel b8)
                 have HX8 := Lib.hid ((b8.block _ (heap_lt HX7.out)).trans HX7.out)
                 have HB8 := Lib.hid (HB7.out.trans (b8.mono HB7.out.size))
                 have HM8 := (b8.block _ (heap_lt HM7.out)).trans HM7.out
                 clear k0 k1 k2 k3 k4 k5
                 obtain ⟨k0, k1, k2, k3, k4, k5⟩ := Bx.cells6 HM8
                 clear b8 HM8 m1)
              | (refine Bx.wpL_store_all rfl rfl 42 (.tmp 2) (.tmp 54) rfl _ rfl _ rfl _ _ HX8.out (by kernel_rfl) rfl (one6 _ _ _ _ _ _ _ _) ?_
                 intro w9 x9 g9
                 have HR := Lib.hid x9
                 have HBR := Lib.hid (HB8.out.grown g9 HB8.out.size (by rintro k ⟨⟩; exact Nat.le_refl _))
                 have HG9 := Lib.hid g9
                 clear x9 g9)
              | fail)
              have hA : ∀ ad, A6 = some ad → ad.block ≠ w.heap.size := fun ad e => by have := HA6.out ad e; omega
              refine bodyPost_ret (Bx.results_cell2 rfl _ _ w.heap.size _ _ (0, 0) _ rfl HR.out Try.underlying42 rfl (by kernel_rfl) _ rfl) rfl ?_
              exact ⟨A6, n6, c6, rfl, HD8.out.fr (Fr.grown (S := fun k => k = w.heap.size) HG9.out (by rintro k ⟨⟩; rfl)) hA, HBR.out⟩
            · obtain ⟨rfl, rfl⟩ := Prod.mk.inj (show (zm, 9) = (P, er) from by have h := Hp3.out; rw [if_neg (fun h => hG h.2)] at h; exact h)
              have hG2 : ∀ m, m = D.length → decide (Good K (↑FI) (↑FO) FM FW m) = false := fun m e => by rw [e]; exact decide_eq_false hG
              clear Hp3
              go_wp2_with (first
              | (go_at_call 95
                 (with_reducible refine (hby _ HQ.out BW.out).mono ?_)
                 rintro e w3 ⟨rfl, hq3, f3⟩
                 have HQ3 := Lib.hid hq3
                 have BW3 := Lib.hid (BW.out.trans (f3.bel (fun k e => by omega) BW.out.size))
                 clear hq3 f3 hby)
              | (simp only [hwr.out])
              | (go_at_call 85
                 (with_reducible refine (hof _).mono ?_)
                 rintro e w4 ⟨rfl, b4⟩
                 have HQ4 := Lib.hid (HQ3.out.fr (Fr.of_bel (S := fun _ => False) b4) (fun h => h))
                 have BW4 := Lib.hid (BW3.out.trans (b4.mono BW3.out.size))
                 clear b4 hof)
              | (refine Bx.wpL_store_all rfl rfl 119 (.tmp 6) (.tmp 29) rfl _ rfl _ rfl _ _ (heap_alloc_new w4 _) (by kernel_rfl) rfl (one5 _ _ _ _ _) ?_
                 intro w5 x5 g5
                 have f5 : Fr (fun k => k = w4.heap.size) w4 w5 := (Fr.alloc _).trans (Fr.grown (S := fun k => k = w4.heap.size) g5 (by rintro k ⟨⟩; rfl)) (fun _ _ h => h)
                 have b5 : Below w4.heap.size w4 w5 := f5.bel (fun k e => by omega) (Nat.le_refl _)
                 have HQ5 := Lib.hid (HQ4.out.fr (Fr.of_bel (S := fun _ => False) b5) (fun h => h))
                 have BW5 := Lib.hid (BW4.out.trans (b5.mono BW4.out.size))
                 have HX5 := Lib.hid ((BW5.out.block _ hgx).trans HX.out)
                 have HB5 := Lib.hid (HB.out.trans (BW5.out.mono HB.out.size))
                 obtain ⟨l0, l1, l2, l3, l4⟩ := cells5 x5
                 clear x5 g5 f5 b5)
              | (go_at_call 96
                 (with_reducible refine (hrd _ HQ5.out BW5.out).mono ?_)
                 rintro e w6 ⟨A6, n6, c6, rfl, hd6, ⟨q6, hq6⟩, f6, ha6⟩
                 have HA6 : Hid (∀ ad, A6 = some ad → w.heap.size < ad.block) := Lib.hid (fun ad e => by have := ha6 ad e; have := BW5.out.size; omega)
                 have HQ6 := Lib.hid hq6
                 have HD6 := Lib.hid hd6
                 have BW6 := Lib.hid (BW5.out.trans (f6.bel (fun k e => by omega) BW5.out.size))
                 clear hq6 hd6 f6 ha6 hrd l0 l1 l2 l3 l4)
              | (refine Bx.wpL_store_all rfl rfl 42 (.tmp 8) (.tmp 39) rfl _ rfl _ rfl _ _ (heap_alloc_new w6 _) (by kernel_rfl) rfl (one6 _ _ _ _ _ _ _ _) ?_
                 intro w7 x7 g7
                 have f7 : Fr (fun k => k = w6.heap.size) w6 w7 := (Fr.alloc _).trans (Fr.grown (S := fun k => k = w6.heap.size) g7 (by rintro k ⟨⟩; rfl)) (fun _ _ h => h)
                 have b7 : Below w6.heap.size w6 w7 := f7.bel (fun k e => by omega) (Nat.le_refl _)
                 have HQ7 := Lib.hid (HQ6.out.fr (Fr.of_bel (S := fun _ => False) b7) (fun h => h))
                 have HD7 := Lib.hid (HD6.out.bel b7)
                 have BW7 := Lib.hid (BW6.out.trans (b7.mono BW6.out.size))
                 have HX7 := Lib.hid ((BW7.out.block _ hgx).trans HX.out)
                 have HB7 := Lib.hid (HB.out.trans (BW7.out.mono HB.out.size))
                 have HM7 := Lib.hid x7
                 obtain ⟨k0, k1, k2, k3, k4, k5⟩ := Bx.cells6 x7
                 clear x7 g7 f7 b7
                 obtain ⟨Aq, nq, cq, hxq, -⟩ := HQ7.out
                 obtain ⟨m0, m1⟩ := cells2 hxq
                 clear hxq m0)
              | (go_at_call 29
                 (with_reducible refine (hgd _ _ _ _).mono ?_)
                 rintro e w8 ⟨rfl, b8⟩
                 rw [hG2 _ HD7.out.blen.symm]
                 have HD8 := Lib.hid (HD7.out.bel b8)
                 have HX8 := Lib.hid ((b8.block _ (heap_lt HX7.out)).trans HX7.out)
                 have HB8 := Lib.hid (HB7.out.trans (b8.mono HB7.out.size))
                 have HM8 := (b8.block _ (heap_lt HM7.out)).trans HM7.out
                 clear k0 k1 k2 k3 k4 k5
                 obtain ⟨k0, k1, k2, k3, k4, k5⟩ := Bx.cells6 HM8
                 clear b8 HM8 m1)
              | (refine Bx.wpL_store_all rfl rfl 42 (.tmp 2) (.tmp 53) rfl _ rfl _ rfl _ _ HX8.out (by kernel_rfl) rfl (one6 _ _ _ _ _ _ _ _) ?_
                 intro w9 x9 g9
                 have HR := Lib.hid x9
                 have HBR := Lib.hid (HB8.out.grown g9 HB8.out.size (by rintro k ⟨⟩; exact Nat.le_refl _))
                 have HG9 := Lib.hid g9
                 clear x9 g9)
              | fail)
              refine bodyPost_ret (Bx.results_cell2 rfl _ _ w.heap.size _ _ (0, 0) _ rfl HR.out Try.underlying42 rfl (by kernel_rfl) _ rfl) rfl ?_
              exact ⟨none, 0, 0, rfl, Rd.nil_, HBR.out⟩
end Go.Proofs.Ytdpggcpbgfancaa.Pack
