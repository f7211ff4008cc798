/- The law WireTurned, walked. Conditions: none. -/
import Derived.Test.YtdpggcpbgfancaaWire10
import Derived.Test.YtdpggcpbgfancaaSealLaw3
namespace Go.Proofs.Ytdpggcpbgfancaa.Wire
open Go.RowKit Tw
open Crc (turn)
set_option maxHeartbeats 8000000
set_option maxRecDepth 100000
/-- Parse of bytes that are no packet -/
theorem c_Parse_no (A : Option Addr) (n c : Nat) (b : List UInt8) (w : World) (hb : Byt w A n c b) (hn : n ≤ 1000) (hp : (parse b).2 ≠ 0) :
    Calls Try.prog 25 #[.slice A n c] w fun e w' => ∃ (f t : Nat) (k s a : Int) (A2 : Option Addr) (n2 c2 er : Nat), e = .returned (.tuple #[.agg #[.int .u32 (f : Int), .int .u32 (t : Int), .int .i64 k, .int .i64 s, .int .i64 a, .slice A2 n2 c2], .int .i64 (er : Int)]) ∧ Hid (er ≠ 0) ∧ Below w.heap.size w w' :=
  (c_Parse A n c b w hb hn).mono fun e w' ⟨A2, n2, c2, he, _, hB⟩ => ⟨_, _, _, _, _, A2, n2, c2, _, he, hp, hB⟩
theorem turn3 {w : World} {g : Nat} {t : TypeId} {a b c : Value} (h : w.heap[g]? = some (.cells #[a, b, c] t (0, 0))) : w.cell? ⟨g, 0, none⟩ = some a ∧ w.cell? ⟨g, 1, none⟩ = some b ∧ w.cell? ⟨g, 2, none⟩ = some c := by
  simp [World.cell?, h]
theorem w_WireTurned (f t : Nat) (k s ac : Int) (A : Option Addr) (n c : Nat) (body : List UInt8) (z : Int) (r : Nat) (y : Int) (w : World) (hf : f < 4294967296) (ht : t < 4294967296) (hb : Byt w A n c body) (hr : r < 4294967296)
    (hz0 : -9223372036854775808 ≤ z) (hz1 : z ≤ 9223372036854775807) (hy0 : -9223372036854775808 ≤ y) (hy1 : y ≤ 9223372036854775807) :
    Calls Try.prog 5 #[.agg #[.int .u32 (f : Int), .int .u32 (t : Int), .int .i64 k, .int .i64 s, .int .i64 ac, .slice A n c], .agg #[.int .i64 z, .int .u32 (r : Int), .int .i64 y]] w fun e w' => e = .returned (.bool true) ∧ Below w.heap.size w w' := by
  obtain ⟨W2, hW2, x1, x2, hB⟩ := Actlog.two_boxes w (.cells #[.int .u32 (f : Int), .int .u32 (t : Int), .int .i64 k, .int .i64 s, .int .i64 ac, .slice A n c] 25) (.cells #[.int .i64 z, .int .u32 (r : Int), .int .i64 y] 38)
  have HB := Lib.hid hB
  have HX := Lib.hid x1
  have Hb := Lib.hid (hb.bel hB)
  have hlen := hb.blen
  obtain ⟨k0, k1, k2, k3, k4, k5⟩ := cells6 x1
  obtain ⟨l0, l1, l2⟩ := turn3 x2
  clear x1 x2 hB hb
  go_enter Try.func5, Try.ntmps5
  go_upto_region 1 with (fail)
  rw [← hW2]
  clear hW2
  go_quiet (fail)
  replace HB : Hid (Below w.heap.size w (W2.drewN nq)) := Lib.hid ⟨HB.out.os, HB.out.tape, HB.out.output, HB.out.size, HB.out.block⟩
  replace HX : Hid ((W2.drewN nq).heap[w.heap.size]? = some (.cells #[.int .u32 (f : Int), .int .u32 (t : Int), .int .i64 k, .int .i64 s, .int .i64 ac, .slice A n c] 25 (0, 0))) := HX
  replace Hb : Hid (Byt (W2.drewN nq) A n c body) := Lib.hid (Hb.out.drewN nq)
  clear k0 k1 k2 k3 k4 k5 l0 l1 l2
  generalize W2.drewN nq = W0 at *
  obtain ⟨k0, k1, k2, k3, k4, k5⟩ := cells6 HX.out
  have hby := fun w (hb : Byt w A n c body) => c_BytesO f t k s ac A n c body w hf ht hb
  by_cases hG : GoodP ⟨f, t, k, s, ac, body⟩
  · have hbi : bytes f t k s ac body = Crc.sealed (raw f t k s ac body) := if_pos hG
    have hsl := sealed_raw_len ⟨f, t, k, s, ac, body⟩
    have hcut := fun q => parse_cut ⟨f, t, k, s, ac, body⟩ hG (k := q)
    have htn := fun a => parse_turned ⟨f, t, k, s, ac, body⟩ (a := a) (s := r) hr
    have hn2 := (good_bounds hG).1
    simp only at hsl hn2 hcut htn
    rw [hlen] at hsl hcut htn hn2
    rw [hbi] at hby
    generalize Crc.sealed (raw f t k s ac body) = BY at *
    have hcut' : ∀ k, k < 23 + n → (parse (BY.take k)).2 ≠ 0 := fun k hk => hcut k hk
    have Htn := Lib.hid htn
    have Hsl := Lib.hid hsl
    clear hbi hG hcut htn hsl
    have hd1 : Hid (decide ((300 : Int) < (n : Int)) = false) := Lib.hid (by simp; omega)
    have hnz : (23 + (n : Int) == 0) = false := by simp; omega
    go_upto_region 5 with (first
      | (go_at_call 21
         (with_reducible refine (hby _ Hb.out).mono ?_)
         rintro e w1 ⟨A1, n1, c1, rfl, h1, bel1⟩
         obtain rfl : n1 = 23 + n := by have h2 := h1.rd.blen; have := Hsl.out; omega
         have H1 := Lib.hid (Tw.Own.mono h1 HB.out.size)
         have LX := Lib.hid ((bel1.block _ (heap_lt HX.out)).trans HX.out)
         have LB := Lib.hid (HB.out.trans (bel1.mono HB.out.size))
         clear h1 bel1 hby k0 k1 k2 k3 k4 k5
         obtain ⟨k0, k1, k2, k3, k4, k5⟩ := cells6 LX.out
         have k9 := trivial
         clear k0 k1 k2 k3 k4))
    obtain ⟨g, cap, hv, hgb, hgl⟩ := H1.out.form (by omega)
    injection hv with hv1 hv2 hv3
    subst hv1 hv3
    clear k5 k9 LX HX hd1 HB hn2 hlen hnz
    by_cases hyc : 0 ≤ y ∧ y < 23 + n
    · obtain ⟨q, rfl⟩ : ∃ q : Nat, y = (q : Int) := ⟨y.toNat, by omega⟩
      have hq : q < 23 + n := by omega
      have hnq := hcut' q hq
      have hqc : q ≤ c1 := by have := H1.out.rd.le; omega
      have hbq := fun w (h : Byt w (some ⟨g, 0, none⟩) q c1 (BY.take q)) => c_Parse_no _ _ _ _ w h (by omega) hnq
      clear hyc hcut' hnq
      go_upto_region 9 with (first
        | (go_at_call 25
           (with_reducible refine (hbq _ (by have h9 := H1.out.rd.upto (k := q) (by omega); rw [Nat.mul_one] at h9; simpa [Byt, bytesV, List.map_take] using h9)).mono ?_)
           rintro e w3 ⟨f3, t3, k3, s3, a3, A3, n3, c3, er, rfl, her, bel3⟩
           have H3 := Lib.hid (Tw.Own.bel H1.out bel3)
           have HB3 := Lib.hid (LB.out.trans (bel3.mono LB.out.size))
           have hne : ((er : Int) == 0) = false := by have := her.out; simp; omega
           clear bel3 hbq)
        | (refine Disk.wpL_store_all rfl rfl 25 (.tmp 9) (.tmp 46) rfl _ rfl _ rfl _ _ (heap_alloc_new w3 _) (by kernel_rfl) rfl (one6 _ _ _ _ _ _ _ _) ?_
           intro w4 x4 g4
           have F4 : Fr (fun k => k = w3.heap.size) w3 w4 := (Fr.alloc _).trans (Fr.grown (S := fun k => k = w3.heap.size) g4 (by rintro k ⟨⟩; rfl)) (fun _ _ h => h)
           have bel4 : Below w3.heap.size w3 w4 := F4.bel (fun k e => by omega) (Nat.le_refl _)
           have O := Lib.hid (Tw.Own.bel H3.out bel4)
           have B := Lib.hid (HB3.out.trans (bel4.mono HB3.out.size))
           clear x4 g4 F4 bel4))
      by_cases hzr : z < 0 ∨ 19 + (n : Int) < z ∨ r = 0
      · have Hzr := Lib.hid hzr
        have ht1 : Hid (wrap64 (((23 + n : Nat) : Int) - 4) = 19 + (n : Int)) := Lib.hid (by unfold wrap64; omega)
        clear hzr
        go_wp2_with (first
          | (go_at_call 18
             (with_reducible refine (c_lives _).mono ?_)
             rintro e w8 ⟨rfl, bel8⟩
             have HBL := Lib.hid (B.out.trans (bel8.mono B.out.size))
             clear bel8)
          )
        all_goals first
          | (go_ret; exact ⟨rfl, HBL.out⟩)
          | (exfalso; have := Hzr.out; simp only [beq_eq_false_iff_ne, ne_eq] at *; omega)
      · obtain ⟨a, rfl⟩ : ∃ a : Nat, z = (a : Int) := ⟨z.toNat, by omega⟩
        have ha : a ≤ 19 + n := by omega
        have hr0 : r ≠ 0 := by omega
        have hrb : ((r : Int) == 0) = false := by simp; omega
        have hz19 : (decide ((19 : Int) + (n : Int) < (a : Int))) = false := by simp; omega
        clear hzr
        go_wp2_with fail
        go_loopw [11, 12] (fun v i wr => ∃ k q : Nat, k ≤ 4 ∧ i = .int .i64 (k : Int) ∧ v = .int .u32 (q : Int) ∧ Hid (q = r / 256 ^ k) ∧ q < 4294967296 ∧ Hid (Own wr w.heap.size 5 1 (some ⟨g, 0, none⟩) (23 + n) c1 (bytesV (turn BY (Seal.bits4 a k (23 + n) r)))) ∧ Hid (Below w.heap.size w wr)) (fun _ i _ => 4 - (intOf i).toNat)
        case atStart => exact ⟨0, r, by omega, rfl, rfl, Lib.hid (by simp), hr, Lib.hid (by rw [Seal.turn_bits_none Hsl.out (by omega)]; exact O.out), B⟩
        case round =>
          clear O B
          obtain ⟨k, q, hk, rfl, rfl, hq, hql, ho, hB⟩ := hrel
          by_cases hk4 : k < 4
          · have hpl : a + k < 23 + n := by omega
            obtain ⟨u, hu⟩ : ∃ u, BY[a + k]? = some u := Seal.get_some (by rw [Hsl.out]; exact hpl)
            have hc1 := ho.out.cellAt (a + k) (by rw [Nat.mul_one]; exact hpl)
            rw [Seal.turn_cell Hsl.out (Nat.le_of_lt hpl) rfl hu] at hc1
            have hn1 := (Seal.turn_next Hsl.out (Nat.succ_le_of_lt hpl) rfl hu hq.out)
            have hxu := Seal.xor_byte u q
            generalize u ^^^ UInt8.ofNat (q % 256) = u2 at hn1 hxu
            have Hn1 := Lib.hid hn1
            clear hu hn1
            go_wp2_with (first
              | (refine wpL_store_own rfl 5 (.tmp 79) (.tmp 78) rfl w.heap.size 5 g (a + k) (23 + n) c1 rfl .u8 _ rfl (by kernel_rfl) _ ho.out hpl _ Hn1.out ?_
                 intro w9 h9 hg9
                 have H9 := Lib.hid h9
                 clear h9 hc1))
            have hB9 := Lib.hid (hB.out.grown hg9 hB.out.size (by rintro j ⟨⟩; exact hgb))
            clear hxu
            go_roundw
            case rel => exact ⟨k + 1, q / 256, by omega, by go_num, by first | rfl | simp, Lib.hid (by rw [hq.out, Nat.div_div_eq_div_mul, ← Nat.pow_succ]), by omega, H9, hB9⟩
            case measure => simp [intOf] <;> omega
          · obtain rfl : k = 4 := by omega
            have hbp := fun w (h : Byt w (some ⟨g, 0, none⟩) (23 + n) c1 (turn BY (Seal.bits4 a 4 (23 + n) r))) => c_Parse_no _ _ _ _ w h (by omega) (Htn.out a hr0 ha)
            go_wp2_with (first
              | (go_at_call 25
                 (with_reducible refine (hbp _ ho.out.rd).mono ?_)
                 rintro e w13 ⟨f13, t13, k13, s13, a13, A13, n13, c13, er13, rfl, her13, bel13⟩
                 have HB13 := Lib.hid (hB.out.trans (bel13.mono hB.out.size))
                 have hne13 : ((er13 : Int) != 0) = true := by have := her13.out; simp; omega
                 clear bel13 hbp)
              | (refine Disk.wpL_store_all rfl rfl 25 (.tmp 13) (.tmp 85) rfl _ rfl _ rfl _ _ (heap_alloc_new w13 _) (by kernel_rfl) rfl (one6 _ _ _ _ _ _ _ _) ?_
                 intro w14 x14 g14
                 have F14 : Fr (fun k => k = w13.heap.size) w13 w14 := (Fr.alloc _).trans (Fr.grown (S := fun k => k = w13.heap.size) g14 (by rintro k ⟨⟩; rfl)) (fun _ _ h => h)
                 have bel14 : Below w13.heap.size w13 w14 := F14.bel (fun k e => by omega) (Nat.le_refl _)
                 have HB14 := Lib.hid (HB13.out.trans (bel14.mono HB13.out.size))
                 clear x14 g14 F14 bel14)
              | (go_at_call 18
                 (with_reducible refine (c_lives _).mono ?_)
                 rintro e w8 ⟨rfl, bel8⟩
                 have HBL := Lib.hid (HB14.out.trans (bel8.mono HB14.out.size))
                 clear bel8)
              )
            go_ret
            exact ⟨rfl, HBL.out⟩
    · have hcf : (decide ((0 : Int) ≤ y) && decide (y < 23 + (n : Int))) = false := by simp; omega
      have O := H1
      have B := LB
      go_upto_region 9 with (fail)
      all_goals
        clear hcut'
        by_cases hzr : z < 0 ∨ 19 + (n : Int) < z ∨ r = 0
        · have Hzr := Lib.hid hzr
          have ht1 : Hid (wrap64 (((23 + n : Nat) : Int) - 4) = 19 + (n : Int)) := Lib.hid (by unfold wrap64; omega)
          clear hzr
          go_wp2_with (first
            | (go_at_call 18
               (with_reducible refine (c_lives _).mono ?_)
               rintro e w8 ⟨rfl, bel8⟩
               have HBL := Lib.hid (B.out.trans (bel8.mono B.out.size))
               clear bel8)
            )
          all_goals first
            | (go_ret; exact ⟨rfl, HBL.out⟩)
            | (exfalso; have := Hzr.out; simp only [beq_eq_false_iff_ne, ne_eq] at *; omega)
        · obtain ⟨a, rfl⟩ : ∃ a : Nat, z = (a : Int) := ⟨z.toNat, by omega⟩
          have ha : a ≤ 19 + n := by omega
          have hr0 : r ≠ 0 := by omega
          have hrb : ((r : Int) == 0) = false := by simp; omega
          have hz19 : (decide ((19 : Int) + (n : Int) < (a : Int))) = false := by simp; omega
          clear hzr
          go_wp2_with fail
          go_loopw [11, 12] (fun v i wr => ∃ k q : Nat, k ≤ 4 ∧ i = .int .i64 (k : Int) ∧ v = .int .u32 (q : Int) ∧ Hid (q = r / 256 ^ k) ∧ q < 4294967296 ∧ Hid (Own wr w.heap.size 5 1 (some ⟨g, 0, none⟩) (23 + n) c1 (bytesV (turn BY (Seal.bits4 a k (23 + n) r)))) ∧ Hid (Below w.heap.size w wr)) (fun _ i _ => 4 - (intOf i).toNat)
          case atStart => exact ⟨0, r, by omega, rfl, rfl, Lib.hid (by simp), hr, Lib.hid (by rw [Seal.turn_bits_none Hsl.out (by omega)]; exact O.out), B⟩
          case round =>
            clear O B
            obtain ⟨k, q, hk, rfl, rfl, hq, hql, ho, hB⟩ := hrel
            by_cases hk4 : k < 4
            · have hpl : a + k < 23 + n := by omega
              obtain ⟨u, hu⟩ : ∃ u, BY[a + k]? = some u := Seal.get_some (by rw [Hsl.out]; exact hpl)
              have hc1 := ho.out.cellAt (a + k) (by rw [Nat.mul_one]; exact hpl)
              rw [Seal.turn_cell Hsl.out (Nat.le_of_lt hpl) rfl hu] at hc1
              have hn1 := (Seal.turn_next Hsl.out (Nat.succ_le_of_lt hpl) rfl hu hq.out)
              have hxu := Seal.xor_byte u q
              generalize u ^^^ UInt8.ofNat (q % 256) = u2 at hn1 hxu
              have Hn1 := Lib.hid hn1
              clear hu hn1
              go_wp2_with (first
                | (refine wpL_store_own rfl 5 (.tmp 79) (.tmp 78) rfl w.heap.size 5 g (a + k) (23 + n) c1 rfl .u8 _ rfl (by kernel_rfl) _ ho.out hpl _ Hn1.out ?_
                   intro w9 h9 hg9
                   have H9 := Lib.hid h9
                   clear h9 hc1))
              have hB9 := Lib.hid (hB.out.grown hg9 hB.out.size (by rintro j ⟨⟩; exact hgb))
              clear hxu
              go_roundw
              case rel => exact ⟨k + 1, q / 256, by omega, by go_num, by first | rfl | simp, Lib.hid (by rw [hq.out, Nat.div_div_eq_div_mul, ← Nat.pow_succ]), by omega, H9, hB9⟩
              case measure => simp [intOf] <;> omega
            · obtain rfl : k = 4 := by omega
              have hbp := fun w (h : Byt w (some ⟨g, 0, none⟩) (23 + n) c1 (turn BY (Seal.bits4 a 4 (23 + n) r))) => c_Parse_no _ _ _ _ w h (by omega) (Htn.out a hr0 ha)
              go_wp2_with (first
                | (go_at_call 25
                   (with_reducible refine (hbp _ ho.out.rd).mono ?_)
                   rintro e w13 ⟨f13, t13, k13, s13, a13, A13, n13, c13, er13, rfl, her13, bel13⟩
                   have HB13 := Lib.hid (hB.out.trans (bel13.mono hB.out.size))
                   have hne13 : ((er13 : Int) != 0) = true := by have := her13.out; simp; omega
                   clear bel13 hbp)
                | (refine Disk.wpL_store_all rfl rfl 25 (.tmp 13) (.tmp 85) rfl _ rfl _ rfl _ _ (heap_alloc_new w13 _) (by kernel_rfl) rfl (one6 _ _ _ _ _ _ _ _) ?_
                   intro w14 x14 g14
                   have F14 : Fr (fun k => k = w13.heap.size) w13 w14 := (Fr.alloc _).trans (Fr.grown (S := fun k => k = w13.heap.size) g14 (by rintro k ⟨⟩; rfl)) (fun _ _ h => h)
                   have bel14 : Below w13.heap.size w13 w14 := F14.bel (fun k e => by omega) (Nat.le_refl _)
                   have HB14 := Lib.hid (HB13.out.trans (bel14.mono HB13.out.size))
                   clear x14 g14 F14 bel14)
                | (go_at_call 18
                   (with_reducible refine (c_lives _).mono ?_)
                   rintro e w8 ⟨rfl, bel8⟩
                   have HBL := Lib.hid (HB14.out.trans (bel8.mono HB14.out.size))
                   clear bel8)
                )
              go_ret
              exact ⟨rfl, HBL.out⟩
  · have hbi : bytes f t k s ac body = [] := if_neg hG
    rw [hbi] at hby
    clear hbi hG
    go_wp2_with (first
      | (go_at_call 21
         (with_reducible refine (hby _ Hb.out).mono ?_)
         rintro e w1 ⟨A1, n1, c1, rfl, h1, bel1⟩
         obtain rfl : n1 = 0 := by have h2 := h1.rd.blen; simp at h2; omega
         have LX := Lib.hid ((bel1.block _ (heap_lt HX.out)).trans HX.out)
         have LB := Lib.hid (HB.out.trans (bel1.mono HB.out.size))
         clear h1 bel1 hby k0 k1 k2 k3 k4 k5
         obtain ⟨k0, k1, k2, k3, k4, k5⟩ := cells6 LX.out
         clear k0 k1 k2 k3 k4)
      | (go_at_call 18
         (with_reducible refine (c_lives _).mono ?_)
         rintro e w8 ⟨rfl, bel8⟩
         have HBL := Lib.hid (LB.out.trans (bel8.mono LB.out.size))
         clear bel8)
      )
    all_goals first
      | (go_ret; exact ⟨rfl, HBL.out⟩)
      | skip
section
open Go.ChangeShapes Go.WideShapes Go.Deep
variable {H : Type} {enc : TypeId × Value → H} {P : Program} {W : World} {base : Nat} {spare : Nat → Bool} {held : Bool}
theorem open_trn {r : Reach} {base2 : Nat} {t : TypeId} {v : Value} {d : DataW H} {ps : List MemPlace} (hL : flat P 4 t = some [.int .i64, .int .u32, .int .i64]) (hc : P.cellsOf t = 3) (ht : (P.underlying t).map (·.isRow) = some true)
    (hv : Value.okWide P W r base2 t v) (h : DataW.Trod enc P W base spare held t v d ps) : ∃ (z : Int) (q : Nat) (y : Int), v = .agg #[.int .i64 z, .int .u32 (q : Int), .int .i64 y] ∧ q < 4294967296 ∧ (-9223372036854775808 ≤ z ∧ z ≤ 9223372036854775807) ∧ (-9223372036854775808 ≤ y ∧ y ≤ 9223372036854775807) := by
  obtain ⟨cs, rfl, hr⟩ := open_agg 4 hL hc ht hv h
  obtain ⟨v1, r1, rfl, k1, hr⟩ := rowOk_cons hr
  obtain ⟨v2, r2, rfl, k2, hr⟩ := rowOk_cons hr
  obtain ⟨v3, r3, rfl, k3, hr⟩ := rowOk_cons hr
  obtain rfl := rowOk_nil hr
  obtain ⟨z1, rfl, q1⟩ := leaf_i64 k1
  obtain ⟨z2, rfl, q2⟩ := leaf_u32 k2
  obtain ⟨z3, rfl, q3⟩ := leaf_i64 k3
  exact ⟨z1, z2, z3, rfl, q2, q1, q3⟩
end
end Go.Proofs.Ytdpggcpbgfancaa.Wire
