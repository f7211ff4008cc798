/- Contracts of the package pack's reference: Parse, all of it. Conditions: none. -/
import Derived.Test.YtdpggcpbgfancaaPack15
import Derived.Test.YtdpggcpbgfancaaPack16
import Derived.Test.YtdpggcpbgfancaaPack17
set_option linter.unusedVariables false
set_option linter.unusedSimpArgs false
namespace Go.Proofs.Ytdpggcpbgfancaa.Pack
open Go.RowKit Tw
set_option maxHeartbeats 8000000
set_option maxRecDepth 100000
theorem c_rParseBig (A : Option Addr) (n c : Nat) (b : List UInt8) (w : World) (hb : Byt w A n c b) (h0 : 0 < n) (h1 : n ≤ 200) (hkk : kk (headM b) = true) (cc : Bool) (hl : nd false true cc < n)
    (ha : kW (headM b) = false) (hbb : kI (headM b) = true) (hcc : kO (headM b) = cc) (hV : ¬Num.gv 8 (b.drop 1) ≤ 72057594037927935) :
    Calls Try.prog 36 #[.slice A n c] w fun e w' => ∃ A2 n2 c2, e = .returned (.tuple #[msV (parse b).1 A2 n2 c2, .int .i64 ((parse b).2 : Nat)]) ∧ Byt w' A2 n2 c2 (parse b).1.d ∧ Below w.heap.size w w' := by
  have hlen := hb.blen
  have hdl : (b.drop 1).length = n - 1 := by rw [List.length_drop]; omega
  have hnd : nd (kW (headM b)) (kI (headM b)) (kO (headM b)) ≤ (b.drop 1).length := by rw [ha, hbb, hcc]; omega
  have hW := fun w => c_hasWas (headM b) w
  have hI := fun w => c_hasId (headM b) w
  have hO := fun w => c_hasOff (headM b) w
  have hN := fun w => c_need (headM b) w
  rw [ha] at hW hN
  rw [hbb] at hI hN
  rw [hcc] at hO hN
  have hp := parse_big (b := b) (by omega) (by omega) hkk hnd hbb hV
  have HP0 := Lib.hid hp
  have hnd8 : 8 ≤ nd false true cc := by cases cc <;> decide
  have HB := Lib.hid ((Below.refl _ _).alloc (Nat.le_refl w.heap.size) (.cells #[.int .i64 0, .int .i64 0, .int .i64 0, .int .u64 0, .bool false, .slice none 0 0] 42))
  have HR := Lib.hid (heap_alloc_new w (.cells #[.int .i64 0, .int .i64 0, .int .i64 0, .int .u64 0, .bool false, .slice none 0 0] 42))
  have hb1 := hb.bel HB.out
  obtain ⟨ad, x, rfl, hx, hc0, hxl⟩ := hb1.atB (k := 0) h0
  have hx0 : b.getD 0 0 = x := by have h := hx; unfold RowKit.Hid at h; rw [List.getD_eq_getElem?_getD, h]; rfl
  have hK : headM b = (x.toNat : Int) := by unfold headM; rw [hx0]
  have hK8 : (1 : Int) ≤ headM b ∧ headM b ≤ 8 := of_decide_eq_true hkk
  rw [hK] at hW hI hO hN hK8
  have hcell : (w.alloc (.cells #[.int .i64 0, .int .i64 0, .int .i64 0, .int .u64 0, .bool false, .slice none 0 0] 42)).cell? ad = some (.int .u8 (x.toNat : Int)) := by simpa [Addr.add] using hc0
  have hsub : ∀ (q : Nat), q < n → Byt w (some (ad.add q)) (n - q) (c - q) (b.drop q) := fun q hq => by
    have h9 := hb.cutB (k := q) (by omega)
    have hle := hb.le
    rw [if_neg (by omega)] at h9
    exact h9
  have Hsub := Lib.hid hsub
  have hle := hb.le
  have Hb := Lib.hid hb
  obtain ⟨X, hX⟩ : ∃ X : Nat, x.toNat = X := ⟨_, rfl⟩
  rw [hX] at hW hI hO hN hK hcell hK8
  obtain ⟨hk1, hk2⟩ := hK8
  have hk1' : ¬ ((X : Int) < 1) := by omega
  have hk2' : ¬ ((8 : Int) < (X : Int)) := by omega
  have HKe := Lib.hid hK
  have hn0 : ((n : Int) == 0) = false := by simp; omega
  clear hb hb1 hx hc0 hx0 hK hkk ha hbb hcc hsub hX hdl hnd hk1 hk2 hp
  obtain ⟨N9, hN9⟩ : ∃ N9, nd false true cc = N9 := ⟨_, rfl⟩
  rw [hN9] at hN hl hnd8
  clear hN9
  go_enter Try.func36, Try.ntmps36
  go_upto_region 1 with (fail)
  generalize w.alloc (.cells #[.int .i64 0, .int .i64 0, .int .i64 0, .int .u64 0, .bool false, .slice none 0 0] 42) = W1 at *
  go_upto_region 11 with (first
    | (go_at_call 97
       (with_reducible refine (hN _).mono ?_)
       rintro e w5 ⟨rfl, rfl⟩)
    | (refine Bx.wpL_store_all rfl rfl 42 (.tmp 5) (.tmp 39) rfl _ rfl _ rfl _ _ (heap_alloc_new W1 _) (by kernel_rfl) rfl (one6 _ _ _ _ _ _ _ _) ?_
       intro w4 x4 g4
       have F4 : Fr (fun k => k = W1.heap.size) W1 w4 := (Fr.alloc _).trans (Fr.grown (S := fun k => k = W1.heap.size) g4 (by rintro k ⟨⟩; rfl)) (fun _ _ h => h)
       have bel4 : Below W1.heap.size W1 w4 := F4.bel (fun k e => by omega) (Nat.le_refl _)
       have hrl := heap_lt HR.out
       have HX := Lib.hid x4
       replace HR := Lib.hid ((bel4.block _ hrl).trans HR.out)
       replace hcell := (bel4.cell (block_lt_of_cell hcell)).trans hcell
       replace HB := Lib.hid (HB.out.trans (bel4.mono HB.out.size))
       clear x4 g4 F4 bel4)
    | fail)
  generalize W1.heap.size = g5 at *
  have hget := fun w' (hB : Below w.heap.size w w') => Num.c_rGetAll (some ⟨ad.block, ad.off + 1, none⟩) (n - 1) (c - 1) (b.drop 1) 8 8 w' rfl (by omega) ((Hsub.out 1 (by omega)).below hB (Nat.le_refl _))
  generalize Num.gv 8 (b.drop 1) = V at *
  have hVd : decide ((72057594037927935 : Int) < (V : Int)) = true := by simp; omega
  have hc1 : ¬ c = 1 := by omega
  go_wp2_with (first
      | (go_at_call 88
         (with_reducible refine (hW _).mono ?_)
         rintro e w5 ⟨rfl, rfl⟩)
      | (go_at_call 89
         (with_reducible refine (hI _).mono ?_)
         rintro e w5 ⟨rfl, rfl⟩)
      | (go_at_call 90
         (with_reducible refine (hO _).mono ?_)
         rintro e w5 ⟨rfl, rfl⟩)
      | (go_at_call 98
         (with_reducible refine (hget _ (HB.out)).mono ?_)
         rintro e w5 ⟨rfl, rfl⟩
         clear hget)
      | (refine Bx.wpL_store_all rfl rfl 42 (.tmp 2) (.tmp 66) rfl _ rfl _ rfl _ _ HR.out (by kernel_rfl) rfl (one6 _ _ _ _ _ _ _ _) ?_
         intro w9 x9 g9
         have HRR := Lib.hid x9
         have HBR := Lib.hid (HB.out.grown g9 HB.out.size (by rintro k ⟨⟩; exact Nat.le_refl _))
         clear x9 g9)
      | fail)
  refine bodyPost_ret (Bx.results_cell2 rfl _ _ w.heap.size _ _ (0, 0) _ rfl HRR.out Try.underlying42 rfl (by kernel_rfl) _ rfl) rfl ?_
  rw [HP0.out]
  exact ⟨none, 0, 0, rfl, Rd.nil_, HBR.out⟩
theorem c_rParse (A : Option Addr) (n c : Nat) (b : List UInt8) (w : World) (hb : Byt w A n c b) (hn : n ≤ 1000) :
    Calls Try.prog 36 #[.slice A n c] w fun e w' => ∃ A2 n2 c2, e = .returned (.tuple #[msV (parse b).1 A2 n2 c2, .int .i64 ((parse b).2 : Nat)]) ∧ Byt w' A2 n2 c2 (parse b).1.d ∧ Below w.heap.size w w' := by
  have hlen := hb.blen
  have HB := Lib.hid ((Below.refl _ _).alloc (Nat.le_refl w.heap.size) (.cells #[.int .i64 0, .int .i64 0, .int .i64 0, .int .u64 0, .bool false, .slice none 0 0] 42))
  have HR := Lib.hid (heap_alloc_new w (.cells #[.int .i64 0, .int .i64 0, .int .i64 0, .int .u64 0, .bool false, .slice none 0 0] 42))
  by_cases h1 : 200 < n
  · have HP0 : Hid (parse b = (zm, 11)) := Lib.hid (by unfold parse; rw [if_pos (by omega)])
    clear hlen hn hb
    go_enter Try.func36, Try.ntmps36
    go_wp2_with fail
    refine bodyPost_ret (Bx.results_cell2 rfl _ _ w.heap.size _ _ (0, 0) _ rfl HR.out Try.underlying42 rfl (by kernel_rfl) _ rfl) rfl ?_
    rw [HP0.out]
    exact ⟨none, 0, 0, rfl, Rd.nil_, HB.out⟩
  · by_cases h2 : n = 0
    · have HP0 : Hid (parse b = (zm, 8)) := Lib.hid (by unfold parse; rw [if_neg (by omega), if_pos (by omega)])
      subst h2
      clear hlen hn hb
      go_enter Try.func36, Try.ntmps36
      go_wp2_with fail
      refine bodyPost_ret (Bx.results_cell2 rfl _ _ w.heap.size _ _ (0, 0) _ rfl HR.out Try.underlying42 rfl (by kernel_rfl) _ rfl) rfl ?_
      rw [HP0.out]
      exact ⟨none, 0, 0, rfl, Rd.nil_, HB.out⟩
    · have h0 : 0 < n := by omega
      have hdl : (b.drop 1).length = n - 1 := by rw [List.length_drop]; omega
      by_cases hk : kk (headM b) = true
      · by_cases hnd : (b.drop 1).length < nd (kW (headM b)) (kI (headM b)) (kO (headM b))
        · have HP0 : Hid (parse b = (zm, 8)) := Lib.hid (by unfold parse; rw [if_neg (by omega), if_neg (by omega), if_neg (by rw [hk]; simp), if_pos hnd])
          have hN := fun w => c_need (headM b) w
          obtain ⟨ad, x, rfl, hx, hc0, hxl⟩ := (hb.bel HB.out).atB (k := 0) h0
          have hx0 : b.getD 0 0 = x := by have h := hx; unfold RowKit.Hid at h; rw [List.getD_eq_getElem?_getD, h]; rfl
          have hK : headM b = (x.toNat : Int) := by unfold headM; rw [hx0]
          have hcell : (w.alloc (.cells #[.int .i64 0, .int .i64 0, .int .i64 0, .int .u64 0, .bool false, .slice none 0 0] 42)).cell? ad = some (.int .u8 (x.toNat : Int)) := by simpa [Addr.add] using hc0
          have hn0 : ((n : Int) == 0) = false := by simp; omega
          have hK8 : (1 : Int) ≤ headM b ∧ headM b ≤ 8 := of_decide_eq_true hk
          rw [hK] at hN hnd hK8
          obtain ⟨X, hX⟩ : ∃ X : Nat, x.toNat = X := ⟨_, rfl⟩
          rw [hX] at hN hnd hK8 hcell
          generalize nd (kW (X : Int)) (kI (X : Int)) (kO (X : Int)) = N9 at *
          have hn9 : (n : Int) < 1 + (N9 : Int) := by omega
          have hk1' : ¬ ((X : Int) < 1) := by omega
          have hk2' : ¬ ((8 : Int) < (X : Int)) := by omega
          clear hlen hn hb hdl hk hx hc0 hx0 hK hX hnd hK8 h2
          go_enter Try.func36, Try.ntmps36
          go_wp2_with (first
            | (go_at_call 97
               (with_reducible refine (hN _).mono ?_)
               rintro e w5 ⟨rfl, rfl⟩)
            | fail)
          all_goals first
            | (exfalso; omega)
            | skip
          refine bodyPost_ret (Bx.results_cell2 rfl _ _ w.heap.size _ _ (0, 0) _ rfl HR.out Try.underlying42 rfl (by kernel_rfl) _ rfl) rfl ?_
          rw [HP0.out]
          exact ⟨none, 0, 0, rfl, Rd.nil_, HB.out⟩
        · rcases shapes (K := headM b) with ⟨ha, hbb, hcc⟩ | ⟨ha, hbb, hcc⟩ | ⟨ha, hbb, hcc⟩ | ⟨ha, hbb, hcc⟩ | ⟨ha, hbb, hcc⟩
          all_goals rw [ha, hbb, hcc] at hnd
          · exact c_rParseW A n c b w hb h0 (by omega) hk (by omega) ha hbb hcc trivial
          · by_cases hV : Num.gv 8 (b.drop 1) ≤ 72057594037927935
            · exact c_rParseIO A n c b w hb h0 (by omega) hk (by omega) ha hbb hcc hV
            · exact c_rParseBig A n c b w hb h0 (by omega) hk true (by omega) ha hbb hcc hV
          · by_cases hV : Num.gv 8 (b.drop 1) ≤ 72057594037927935
            · exact c_rParseI A n c b w hb h0 (by omega) hk (by omega) ha hbb hcc hV
            · exact c_rParseBig A n c b w hb h0 (by omega) hk false (by omega) ha hbb hcc hV
          · exact c_rParseO A n c b w hb h0 (by omega) hk (by omega) ha hbb hcc trivial
          · exact c_rParseN A n c b w hb h0 (by omega) hk (by omega) ha hbb hcc trivial
      · have hk' : kk (headM b) = false := by simpa using hk
        have HP0 : Hid (parse b = (zm, 9)) := Lib.hid (by unfold parse; rw [if_neg (by omega), if_neg (by omega), if_pos hk'])
        have hN := fun w => c_need (headM b) w
        obtain ⟨ad, x, rfl, hx, hc0, hxl⟩ := (hb.bel HB.out).atB (k := 0) h0
        have hx0 : b.getD 0 0 = x := by have h := hx; unfold RowKit.Hid at h; rw [List.getD_eq_getElem?_getD, h]; rfl
        have hK : headM b = (x.toNat : Int) := by unfold headM; rw [hx0]
        have hcell : (w.alloc (.cells #[.int .i64 0, .int .i64 0, .int .i64 0, .int .u64 0, .bool false, .slice none 0 0] 42)).cell? ad = some (.int .u8 (x.toNat : Int)) := by simpa [Addr.add] using hc0
        have hn0 : ((n : Int) == 0) = false := by simp; omega
        have hK8 : ¬((1 : Int) ≤ headM b ∧ headM b ≤ 8) := of_decide_eq_false hk'
        rw [hK] at hK8
        obtain ⟨X, hX⟩ : ∃ X : Nat, x.toNat = X := ⟨_, rfl⟩
        rw [hX] at hK8 hcell
        rw [hX] at hxl
        clear hlen hn hb hdl hk hx hc0 hx0 hK hX h2 hN hk'
        have h9 : (X : Int) < 1 ∨ 8 < (X : Int) := by omega
        clear hK8
        rcases h9 with h9 | h9
        all_goals
          go_enter Try.func36, Try.ntmps36
          go_wp2_with fail
          refine bodyPost_ret (Bx.results_cell2 rfl _ _ w.heap.size _ _ (0, 0) _ rfl HR.out Try.underlying42 rfl (by kernel_rfl) _ rfl) rfl ?_
          rw [HP0.out]
          exact ⟨none, 0, 0, rfl, Rd.nil_, HB.out⟩
end Go.Proofs.Ytdpggcpbgfancaa.Pack
