/- The contract of the reference's Cut. Conditions: none. -/
import Derived.Test.YtlfphoablloodaaVolCut
import Derived.Test.YtlfphoablloodaaCopy
import Derived.Deep.CutBlock
namespace Go.Proofs.Ytlfphoablloodaa.Vol
open Go.RowKit Tw
set_option maxHeartbeats 16000000
set_option maxRecDepth 100000

theorem info_rpc : (Try.prog.info? 57).map (fun i => (i.zero, i.size, i.bytes)) = some (some (.agg #[.int .i64 0, .int .i64 0, .int .i64 0, .int .i64 0]), 4, 32) := by kernel_rfl
def lenAt (w : World) (b : Nat) : Nat := match w.cell? ⟨b, 1, none⟩ with | some v => (intOf v).toNat | none => 0
theorem own_new {w : World} {base : Nat} {e : TypeId} {size : Nat} {A : Option Addr} {n c : Nat} {xs : List Value} (h : Tw.Own w base e size A n c xs) : (Value.slice A n c).ownBlock = none ∨ (Value.slice A n c).ownBlock ≠ some w.heap.size := by
  cases A with
  | none => exact .inl rfl
  | some ad =>
    right
    have h1 := (h.at0 ad rfl).2
    simp [Value.ownBlock]
    omega
theorem cells4 {w : World} {b : Nat} {t : TypeId} {x0 x1 x2 x3 : Value} (h : w.heap[b]? = some (.cells #[x0, x1, x2, x3] t (0, 0))) : w.cell? ⟨b, 0, none⟩ = some x0 ∧ w.cell? ⟨b, 1, none⟩ = some x1 ∧ w.cell? ⟨b, 2, none⟩ = some x2 ∧ w.cell? ⟨b, 3, none⟩ = some x3 := by
  simp [World.cell?, h]
theorem pc_of {o e a j : Nat} {F T : Int} (ha : 16 * (a / 16) = a) (hT : T = ((min (a + 128) e - a : Nat) : Int)) (hF : F = ((o - a : Nat) : Int)) (hj : j = (min (a + 128) e - a + 15) / 16) :
    [Value.int .i64 ((a / 16 : Nat) : Int), .int .i64 (j : Int), .int .i64 F, .int .i64 T] = pcV (pc o e a) := by
  subst hT hF hj
  rfl

theorem next_pc {o z k q j : Nat} {F T : Int} (hp : place o k = 16 * q) (hT : T = ((min (16 * q + 128) (o + z) - 16 * q : Nat) : Int)) (hF : F = ((o - 16 * q : Nat) : Int)) (hj : j = (min (16 * q + 128) (o + z) - 16 * q + 15) / 16) :
    pcsV (upto o (o + z) k) ++ [Value.int .i64 (q : Int), .int .i64 (j : Int), .int .i64 F, .int .i64 T] = pcsV (upto o (o + z) (k + 1)) := by
  rw [upto_succ, ← pcsV_snoc, hp, ← pc_of (by omega) hT hF hj, show 16 * q / 16 = q from by omega]
theorem c_rCut1 (s o z : Nat) (w : World) (hs0 : 1 ≤ s) (hs1 : s ≤ 256) (ho : o ≤ 16 * s) (hz0 : 0 < z) (hz : z ≤ 16 * s - o) :
    Calls Try.prog 36 #[.int .i64 (s : Int), .int .i64 (o : Int), .int .i64 (z : Int)] w fun e w' => ∃ A c, e = .returned (.tuple #[.slice A (pcs o (o + z)).length c, .int .i64 0]) ∧ Tw.Own w' w.heap.size 57 4 A (pcs o (o + z)).length c (pcsV (pcs o (o + z))) ∧ Below w.heap.size w w' := by
  go_enter Try.func36, Try.ntmps36
  go_wp2_with fail
  have hE : o + z ≤ 4096 := by omega
  have hnl := num_le (o := o) hE
  go_loopw [8, 9] (fun v i wr => ∃ (k : Nat) (A : Option Addr) (c : Nat), k ≤ num o (o + z) ∧ i = .int .i64 ((o / 16 + 8 * k : Nat) : Int) ∧ v = .slice A k c ∧ Hid (Tw.Own wr w.heap.size 57 4 A k c (pcsV (upto o (o + z) k))) ∧ Below w.heap.size w wr) (fun _ i _ => 300 - (intOf i).toNat)
  case atStart => exact ⟨0, none, 0, Nat.zero_le _, by congr 1, rfl, Lib.hid (World.ownsRow_nil _ _ _ _), Below.refl _ _⟩
  case round =>
    obtain ⟨k, A, c, hk, rfl, rfl, hown, hB⟩ := hrel
    have hplace : place o k = 16 * (o / 16 + 8 * k) := by unfold place; omega
    have hnum := lt_num (o := o) (e := o + z) (i := k)
    rw [hplace] at hnum
    generalize hq : o / 16 + 8 * k = q at *
    have Hq := Lib.hid hq
    clear hq
    by_cases hlt : 16 * q < o + z
    · have hkn := hnum.2 hlt
      clear hnum
      go_upto_block 2 with (fail)
      have hh0 := heap_alloc_new wr (.cells #[.int .i64 (q : Int), .int .i64 0, .int .i64 0, .int .i64 0] 57)
      have hne := own_new hown.out
      have ho0 := Lib.hid (hown.out.bel ((Below.refl _ _).alloc (Nat.le_refl _) (.cells #[.int .i64 (q : Int), .int .i64 0, .int .i64 0, .int .i64 0] 57)))
      have hB0 := hB.alloc hB.size (.cells #[.int .i64 (q : Int), .int .i64 0, .int .i64 0, .int .i64 0] 57)
      have hsz0 : wr.heap.size < (wr.alloc (.cells #[.int .i64 (q : Int), .int .i64 0, .int .i64 0, .int .i64 0] 57)).heap.size := by simp
      have hBx : w.heap.size ≤ wr.heap.size := hB.size
      generalize (wr.alloc (.cells #[.int .i64 (q : Int), .int .i64 0, .int .i64 0, .int .i64 0] 57)) = W1 at *
      generalize wr.heap.size = Bx at *
      have HH0 := Lib.hid hh0
      clear hown hB hh0
      have hdq : decide (16 * (q : Int) < (o : Int) + (z : Int)) = true := decide_eq_true (by omega)
      simp only [hdq]
      clear hdq
      go_cut [56] from 54 to 75 (fun _ w2 => ∃ j : Nat, j ≤ 8 ∧ Hid (j = (min (16 * q + 128) (o + z) - 16 * q + 15) / 16) ∧ Hid (o + z ≤ 16 * (q + j) ∨ j = 8) ∧ Hid (w2.heap[Bx]? = some (.cells #[.int .i64 (q : Int), .int .i64 (j : Int), .int .i64 0, .int .i64 0] 57 (0, 0))) ∧ Hid (Tw.Own w2 w.heap.size 57 4 A k c (pcsV (upto o (o + z) k))) ∧ Below w.heap.size w w2 ∧ Bx < w2.heap.size)
      case first =>
        go_wp2_with fail
        go_loopw [72] (fun _ w2 => ∃ j : Nat, j ≤ 8 ∧ Hid (j = 0 ∨ 16 * (q + (j - 1)) < o + z) ∧ Hid (w2.heap[Bx]? = some (.cells #[.int .i64 (q : Int), .int .i64 (j : Int), .int .i64 0, .int .i64 0] 57 (0, 0))) ∧ Hid (Tw.Own w2 w.heap.size 57 4 A k c (pcsV (upto o (o + z) k))) ∧ Below w.heap.size w w2 ∧ Bx < w2.heap.size) (fun _ w2 => 8 - lenAt w2 Bx)
        case atStart => exact ⟨0, by omega, Lib.hid (.inl rfl), HH0, ho0, hB0, hsz0⟩
        case round =>
          clear HH0 ho0 hB0 hsz0
          obtain ⟨j, hj8, hjl, hh, ho, hB2, hsz⟩ := hrel
          obtain ⟨d0, d1, d2, d3⟩ := cells4 hh.out
          have hla : lenAt wr Bx = j := by unfold lenAt; rw [d1]; simp [intOf]
          by_cases hgo : j < 8 ∧ 16 * (q + j) < o + z
          · obtain ⟨hg1, hg2⟩ := hgo
            go_wp2_with (first
              | (refine wpL_store_i0 rfl rfl 3 (.tmp 75) (.tmp 73) rfl Bx 1 rfl .i64 _ rfl (by kernel_rfl) _ _ hh.out (by simp) ?_
                 intro w3 h3 hg3
                 simp only [List.setIfInBounds_toArray, List.set_cons_zero, List.set_cons_succ] at h3
                 obtain ⟨d0, d1, d2, d3⟩ := cells4 h3
                 replace hh := Lib.hid h3
                 replace ho := Lib.hid (ho.out.kept hg3 hne)
                 replace hB2 := hB2.grown hg3 hB2.size (by rintro _ ⟨⟩; exact hBx)
                 replace hsz := Nat.lt_of_lt_of_le hsz hg3.size
                 clear h3 hg3))
            go_roundw
            case rel => exact ⟨j + 1, by omega, Lib.hid (.inr (by simpa using hg2)), hh, ho, hB2, hsz⟩
            case measure => rw [hla]; unfold lenAt; rw [d1]; simp [intOf]; omega
          · have hjf : j = (min (16 * q + 128) (o + z) - 16 * q + 15) / 16 := by
              have h1 := hjl.out
              clear hjl Hq hplace hkn hla
              omega
            have Hjf := Lib.hid hjf
            have Hx : Hid (o + z ≤ 16 * (q + j) ∨ j = 8) := Lib.hid (by clear hjl Hq hplace hkn hla hjf; omega)
            clear hjf hjl hla
            by_cases hj : j < 8
            · have hge : ¬ 16 * (q + j) < o + z := fun h => hgo ⟨hj, h⟩
              clear hgo
              go_wp2_with fail
              go_meet
              case rel => exact ⟨j, hj8, Hjf, Hx, hh, ho, hB2, hsz⟩
            · clear hgo
              go_wp2_with fail
              go_meet
              case rel => exact ⟨j, hj8, Hjf, Hx, hh, ho, hB2, hsz⟩
      case rest =>
        clear HH0 ho0 hB0 hsz0
        obtain ⟨j, hj8, Hjf, Hx, hh, ho, hB2, hsz⟩ := hcut
        obtain ⟨d0, d1, d2, d3⟩ := cells4 hh.out
        by_cases hT : o + z - 16 * q < 16 * j
        · by_cases hF : 16 * q < o
          · skip
            have Hys := Lib.hid (next_pc (F := (o : Int) - 16 * (q : Int)) (T := (o : Int) + (z : Int) - 16 * (q : Int)) hplace (by have := Hx.out; omega) (by have := Hx.out; omega) Hjf.out)
            go_wp2_with (first
              | (refine wpL_store_i0 rfl rfl 3 (.tmp 80) (.tmp 79) rfl Bx 3 rfl .i64 _ rfl (by kernel_rfl) _ _ hh.out (by simp) ?_
                 intro w3 h3 hg3
                 simp only [List.setIfInBounds_toArray, List.set_cons_zero, List.set_cons_succ] at h3
                 obtain ⟨d0, d1, d2, d3⟩ := cells4 h3
                 replace hh := Lib.hid h3
                 replace ho := Lib.hid (ho.out.kept hg3 hne)
                 replace hB2 := hB2.grown hg3 hB2.size (by rintro _ ⟨⟩; exact hBx)
                 replace hsz := Nat.lt_of_lt_of_le hsz hg3.size
                 clear h3 hg3)
              | (refine wpL_store_i0 rfl rfl 3 (.tmp 96) (.tmp 95) rfl Bx 3 rfl .i64 _ rfl (by kernel_rfl) _ _ hh.out (by simp) ?_
                 intro w3 h3 hg3
                 simp only [List.setIfInBounds_toArray, List.set_cons_zero, List.set_cons_succ] at h3
                 obtain ⟨d0, d1, d2, d3⟩ := cells4 h3
                 replace hh := Lib.hid h3
                 replace ho := Lib.hid (ho.out.kept hg3 hne)
                 replace hB2 := hB2.grown hg3 hB2.size (by rintro _ ⟨⟩; exact hBx)
                 replace hsz := Nat.lt_of_lt_of_le hsz hg3.size
                 clear h3 hg3)
              | (refine wpL_store_i0 rfl rfl 3 (.tmp 105) (.tmp 104) rfl Bx 2 rfl .i64 _ rfl (by kernel_rfl) _ _ hh.out (by simp) ?_
                 intro w3 h3 hg3
                 simp only [List.setIfInBounds_toArray, List.set_cons_zero, List.set_cons_succ] at h3
                 obtain ⟨d0, d1, d2, d3⟩ := cells4 h3
                 replace hh := Lib.hid h3
                 replace ho := Lib.hid (ho.out.kept hg3 hne)
                 replace hB2 := hB2.grown hg3 hB2.size (by rintro _ ⟨⟩; exact hBx)
                 replace hsz := Nat.lt_of_lt_of_le hsz hg3.size
                 clear h3 hg3)
              | (at_builtin
                 refine wpL_append _ rfl (.tmp 106) (.tmp 108) _ rfl w w.heap.size (bel_alloc hB2 hB2.size _) (size_alloc_le hB2.size _) 57 _ 4 32 Try.underlying47 info_rpc rfl (by omega) _ _ _ _ rfl (Tw.Own.bel ho.out ((Below.refl _ _).alloc (Nat.le_refl _) _)) _ _ _ _ rfl (own_lit _ _ 57 4 #[.int .i64 (q : Int), .int .i64 (j : Int), .int .i64 ((o : Int) - 16 * (q : Int)), .int .i64 ((o : Int) + (z : Int) - 16 * (q : Int))] 1 (Nat.le_refl _) (by simp [maxLen]) (by simp)).rd (by simp [Value.oneCell']) (k + 1) _ rfl Hys.out (by unfold maxLen; omega) (by omega) ?_
                 intro A3 c3 w5 hown5 hb5 hg5 ho5
                 clear hg5 ho5))
            go_roundw
            case rel => exact ⟨k + 1, A3, c3, hkn, by rw [← Hq.out]; congr 1 <;> omega, rfl, Lib.hid hown5, hb5⟩
            case measure => simp [intOf] <;> omega
          · skip
            have Hys := Lib.hid (next_pc (F := 0) (T := (o : Int) + (z : Int) - 16 * (q : Int)) hplace (by have := Hx.out; omega) (by have := Hx.out; omega) Hjf.out)
            go_wp2_with (first
              | (refine wpL_store_i0 rfl rfl 3 (.tmp 80) (.tmp 79) rfl Bx 3 rfl .i64 _ rfl (by kernel_rfl) _ _ hh.out (by simp) ?_
                 intro w3 h3 hg3
                 simp only [List.setIfInBounds_toArray, List.set_cons_zero, List.set_cons_succ] at h3
                 obtain ⟨d0, d1, d2, d3⟩ := cells4 h3
                 replace hh := Lib.hid h3
                 replace ho := Lib.hid (ho.out.kept hg3 hne)
                 replace hB2 := hB2.grown hg3 hB2.size (by rintro _ ⟨⟩; exact hBx)
                 replace hsz := Nat.lt_of_lt_of_le hsz hg3.size
                 clear h3 hg3)
              | (refine wpL_store_i0 rfl rfl 3 (.tmp 96) (.tmp 95) rfl Bx 3 rfl .i64 _ rfl (by kernel_rfl) _ _ hh.out (by simp) ?_
                 intro w3 h3 hg3
                 simp only [List.setIfInBounds_toArray, List.set_cons_zero, List.set_cons_succ] at h3
                 obtain ⟨d0, d1, d2, d3⟩ := cells4 h3
                 replace hh := Lib.hid h3
                 replace ho := Lib.hid (ho.out.kept hg3 hne)
                 replace hB2 := hB2.grown hg3 hB2.size (by rintro _ ⟨⟩; exact hBx)
                 replace hsz := Nat.lt_of_lt_of_le hsz hg3.size
                 clear h3 hg3)
              | (at_builtin
                 refine wpL_append _ rfl (.tmp 106) (.tmp 108) _ rfl w w.heap.size (bel_alloc hB2 hB2.size _) (size_alloc_le hB2.size _) 57 _ 4 32 Try.underlying47 info_rpc rfl (by omega) _ _ _ _ rfl (Tw.Own.bel ho.out ((Below.refl _ _).alloc (Nat.le_refl _) _)) _ _ _ _ rfl (own_lit _ _ 57 4 #[.int .i64 (q : Int), .int .i64 (j : Int), .int .i64 (0), .int .i64 ((o : Int) + (z : Int) - 16 * (q : Int))] 1 (Nat.le_refl _) (by simp [maxLen]) (by simp)).rd (by simp [Value.oneCell']) (k + 1) _ rfl Hys.out (by unfold maxLen; omega) (by omega) ?_
                 intro A3 c3 w5 hown5 hb5 hg5 ho5
                 clear hg5 ho5))
            go_roundw
            case rel => exact ⟨k + 1, A3, c3, hkn, by rw [← Hq.out]; congr 1 <;> omega, rfl, Lib.hid hown5, hb5⟩
            case measure => simp [intOf] <;> omega
        · by_cases hF : 16 * q < o
          · skip
            have Hys := Lib.hid (next_pc (F := (o : Int) - 16 * (q : Int)) (T := 16 * (j : Int)) hplace (by have := Hx.out; omega) (by have := Hx.out; omega) Hjf.out)
            go_wp2_with (first
              | (refine wpL_store_i0 rfl rfl 3 (.tmp 80) (.tmp 79) rfl Bx 3 rfl .i64 _ rfl (by kernel_rfl) _ _ hh.out (by simp) ?_
                 intro w3 h3 hg3
                 simp only [List.setIfInBounds_toArray, List.set_cons_zero, List.set_cons_succ] at h3
                 obtain ⟨d0, d1, d2, d3⟩ := cells4 h3
                 replace hh := Lib.hid h3
                 replace ho := Lib.hid (ho.out.kept hg3 hne)
                 replace hB2 := hB2.grown hg3 hB2.size (by rintro _ ⟨⟩; exact hBx)
                 replace hsz := Nat.lt_of_lt_of_le hsz hg3.size
                 clear h3 hg3)
              | (refine wpL_store_i0 rfl rfl 3 (.tmp 105) (.tmp 104) rfl Bx 2 rfl .i64 _ rfl (by kernel_rfl) _ _ hh.out (by simp) ?_
                 intro w3 h3 hg3
                 simp only [List.setIfInBounds_toArray, List.set_cons_zero, List.set_cons_succ] at h3
                 obtain ⟨d0, d1, d2, d3⟩ := cells4 h3
                 replace hh := Lib.hid h3
                 replace ho := Lib.hid (ho.out.kept hg3 hne)
                 replace hB2 := hB2.grown hg3 hB2.size (by rintro _ ⟨⟩; exact hBx)
                 replace hsz := Nat.lt_of_lt_of_le hsz hg3.size
                 clear h3 hg3)
              | (at_builtin
                 refine wpL_append _ rfl (.tmp 106) (.tmp 108) _ rfl w w.heap.size (bel_alloc hB2 hB2.size _) (size_alloc_le hB2.size _) 57 _ 4 32 Try.underlying47 info_rpc rfl (by omega) _ _ _ _ rfl (Tw.Own.bel ho.out ((Below.refl _ _).alloc (Nat.le_refl _) _)) _ _ _ _ rfl (own_lit _ _ 57 4 #[.int .i64 (q : Int), .int .i64 (j : Int), .int .i64 ((o : Int) - 16 * (q : Int)), .int .i64 (16 * (j : Int))] 1 (Nat.le_refl _) (by simp [maxLen]) (by simp)).rd (by simp [Value.oneCell']) (k + 1) _ rfl Hys.out (by unfold maxLen; omega) (by omega) ?_
                 intro A3 c3 w5 hown5 hb5 hg5 ho5
                 clear hg5 ho5))
            go_roundw
            case rel => exact ⟨k + 1, A3, c3, hkn, by rw [← Hq.out]; congr 1 <;> omega, rfl, Lib.hid hown5, hb5⟩
            case measure => simp [intOf] <;> omega
          · skip
            have Hys := Lib.hid (next_pc (F := 0) (T := 16 * (j : Int)) hplace (by have := Hx.out; omega) (by have := Hx.out; omega) Hjf.out)
            go_wp2_with (first
              | (refine wpL_store_i0 rfl rfl 3 (.tmp 80) (.tmp 79) rfl Bx 3 rfl .i64 _ rfl (by kernel_rfl) _ _ hh.out (by simp) ?_
                 intro w3 h3 hg3
                 simp only [List.setIfInBounds_toArray, List.set_cons_zero, List.set_cons_succ] at h3
                 obtain ⟨d0, d1, d2, d3⟩ := cells4 h3
                 replace hh := Lib.hid h3
                 replace ho := Lib.hid (ho.out.kept hg3 hne)
                 replace hB2 := hB2.grown hg3 hB2.size (by rintro _ ⟨⟩; exact hBx)
                 replace hsz := Nat.lt_of_lt_of_le hsz hg3.size
                 clear h3 hg3)
              | (at_builtin
                 refine wpL_append _ rfl (.tmp 106) (.tmp 108) _ rfl w w.heap.size (bel_alloc hB2 hB2.size _) (size_alloc_le hB2.size _) 57 _ 4 32 Try.underlying47 info_rpc rfl (by omega) _ _ _ _ rfl (Tw.Own.bel ho.out ((Below.refl _ _).alloc (Nat.le_refl _) _)) _ _ _ _ rfl (own_lit _ _ 57 4 #[.int .i64 (q : Int), .int .i64 (j : Int), .int .i64 (0), .int .i64 (16 * (j : Int))] 1 (Nat.le_refl _) (by simp [maxLen]) (by simp)).rd (by simp [Value.oneCell']) (k + 1) _ rfl Hys.out (by unfold maxLen; omega) (by omega) ?_
                 intro A3 c3 w5 hown5 hb5 hg5 ho5
                 clear hg5 ho5))
            go_roundw
            case rel => exact ⟨k + 1, A3, c3, hkn, by rw [← Hq.out]; congr 1 <;> omega, rfl, Lib.hid hown5, hb5⟩
            case measure => simp [intOf] <;> omega
    · have hkn : k = num o (o + z) := Nat.le_antisymm hk (Nat.le_of_not_lt fun h => hlt (hnum.1 h))
      clear hnum
      have hqb : q ≤ 1000 := by have := Hq.out; omega
      have Hkn := Lib.hid hkn
      clear hkn hplace
      go_wp2_with fail
      go_ret2
      obtain rfl := Hkn.out
      rw [pcs_length]
      exact ⟨A, c, rfl, hown.out, hB⟩

theorem c_rCut (s o z : Int) (w : World) (hs : -9223372036854775808 ≤ s ∧ s ≤ 9223372036854775807) (ho : -9223372036854775808 ≤ o ∧ o ≤ 9223372036854775807) (hz : -9223372036854775808 ≤ z ∧ z ≤ 9223372036854775807) :
    Calls Try.prog 36 #[.int .i64 s, .int .i64 o, .int .i64 z] w fun e w' => ∃ A c, e = .returned (.tuple #[.slice A (cut s o z).1.length c, .int .i64 ((cut s o z).2 : Nat)]) ∧ Tw.Own w' w.heap.size 57 4 A (cut s o z).1.length c (pcsV (cut s o z).1) ∧ Below w.heap.size w w' := by
  by_cases h1 : s < 1 ∨ 256 < s
  · have hc : cut s o z = ([], 2) := if_pos h1
    rw [hc]
    go_enter Try.func36, Try.ntmps36
    go_wp2_with fail
    all_goals first
      | (go_ret2; exact ⟨none, 0, rfl, World.ownsRow_nil _ _ _ _, Below.refl _ _⟩)
      | (exfalso; omega)
  · by_cases h2 : o < 0 ∨ z < 0 ∨ 16 * s < o ∨ 16 * s - o < z
    · have hc : cut s o z = ([], 13) := by rw [cut, if_neg h1, if_pos h2]
      rw [hc]
      go_enter Try.func36, Try.ntmps36
      go_wp2_with fail
      all_goals first
        | (go_ret2; exact ⟨none, 0, rfl, World.ownsRow_nil _ _ _ _, Below.refl _ _⟩)
        | (exfalso; omega)
    · by_cases h3 : z = 0
      · have hc : cut s o z = ([], 0) := by rw [cut, if_neg h1, if_neg h2, if_pos h3]
        rw [hc]
        subst h3
        go_enter Try.func36, Try.ntmps36
        go_wp2_with fail
        go_loopw [8] (fun v wr => v = .slice none 0 0 ∧ w = wr) (fun _ _ => 0)
        case atStart => exact ⟨rfl, rfl⟩
        case round =>
          obtain ⟨rfl, rfl⟩ := hrel
          go_wp2_with fail
          go_ret2
          exact ⟨none, 0, rfl, World.ownsRow_nil _ _ _ _, Below.refl _ _⟩
      · have hc : cut s o z = (pcs o.toNat (o + z).toNat, 0) := by rw [cut, if_neg h1, if_neg h2, if_neg h3]
        obtain ⟨s, rfl⟩ : ∃ k : Nat, s = (k : Int) := ⟨s.toNat, by omega⟩
        obtain ⟨o, rfl⟩ : ∃ k : Nat, o = (k : Int) := ⟨o.toNat, by omega⟩
        obtain ⟨z, rfl⟩ : ∃ k : Nat, z = (k : Int) := ⟨z.toNat, by omega⟩
        rw [hc, show ((o : Int) + (z : Int)).toNat = o + z from by omega, Int.toNat_natCast]
        exact c_rCut1 s o z w (by omega) (by omega) (by omega) (by omega) (by omega)
end Go.Proofs.Ytlfphoablloodaa.Vol
