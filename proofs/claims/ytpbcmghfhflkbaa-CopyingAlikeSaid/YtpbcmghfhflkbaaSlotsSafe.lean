/- The law SlotsSafe, walked. Conditions: none. -/
import Derived.Test.YtpbcmghfhflkbaaB10
set_option linter.unusedVariables false
set_option linter.unusedSimpArgs false
namespace Go.Proofs.Ytpbcmghfhflkbaa.Slots
open Go.RowKit Tw Disk
set_option maxHeartbeats 8000000
set_option maxRecDepth 100000
theorem word_of {W : World} {r : List Value} (h : RowOk W [.int .u64] r) : ∃ x : Nat, r = [.int .u64 (x : Int)] ∧ x < 18446744073709551616 := by
  obtain ⟨v1, r1, rfl, k1, h⟩ := rowOk_cons h
  obtain rfl := rowOk_nil h
  obtain ⟨z1, rfl, q1⟩ := leaf_u64 k1
  exact ⟨z1, rfl, q1⟩
/-- behind i words -/
structure Play (D : Dsk) (s k : Int) (i last : Nat) : Prop where
  clean : Clean D
  len : D.cells.length = 10
  now : latest D 1 s = (i, last)
  fuse : D.fuse = k - 2 * (i : Int)
  pos : 0 ≤ D.fuse
  ops : D.ops ≤ 2 * i
theorem on10 {s : Int} (hs : 2 ≤ s ∧ s ≤ 8) {N : Nat} (h : N = 10) : On 1 s N := by
  unfold On RingOk
  omega
theorem play0 {s k : Int} (hk : 0 ≤ k) : Play ((Dsk.new 10).setFuse k) s k 0 0 :=
  ⟨(clean_new 10).fused k, by simp [Dsk.setFuse, Dsk.new], by rw [latest_fuse, latest_new], by simp [Dsk.setFuse]; omega, by simp [Dsk.setFuse]; omega, Nat.le_refl _⟩
theorem Play.next {D D' : Dsk} {s k : Int} {i last x e : Nat} (h : Play D s k i last) (hs : 2 ≤ s ∧ s ≤ 8) (hi : i < 30) (hx : x < 18446744073709551616) (hp : sput D 1 s x = (D', e)) :
    (e = 0 ∧ Play D' s k (i + 1) x) ∨ (e = 3 ∧ k < 2 * (i : Int) + 2 ∧ D'.ops ≤ 2 * i + 1 ∧ ∀ mask, ∃ n, latest (D'.crash mask) 1 s = (n, last) ∨ latest (D'.crash mask) 1 s = (n, x)) := by
  rcases sput_safe h.clean (by have := h.pos; omega) (on10 hs h.len) h.now (by omega) hx hp with ⟨rfl, q⟩ | ⟨rfl, q⟩
  · have h1 := q.fuse
    have h2 := q.fuse'
    have h3 := h.fuse
    have h4 := h.pos
    refine .inl ⟨rfl, q.clean, q.off.len.trans h.len, q.now, ?_, ?_, ?_⟩
    · rw [h2, if_pos (by omega), h3]
      omega
    · rw [h2, if_pos (by omega)]
      omega
    · rw [q.ops]
      have := h.ops
      omega
  · have h1 := q.fuse
    have h3 := h.fuse
    have h5 := q.ops
    have h6 := h.ops
    refine .inr ⟨rfl, by omega, by omega, fun mask => ?_⟩
    rcases q.or mask with e | e
    · exact ⟨i, .inl e⟩
    · exact ⟨i + 1, .inr e⟩
theorem w_SlotsSafe (A : Option Addr) (nl cb : Nat) (rows : List (List Value)) (s k : Int) (mask : Nat) (w : World) (hr : SlRows w 1 A nl cb rows) (hro : ∀ (i : Nat) (r : List Value), rows[i]? = some r → RowOk w [.int .u64] r) (hm : mask < 18446744073709551616) (hk : -9223372036854775808 ≤ k ∧ k ≤ 9223372036854775807) :
    Calls Try.prog 4 #[.slice A nl cb, .agg #[.int .i64 s, .int .i64 k, .int .u64 (mask : Int)]] w fun e w' => e = .returned (.bool true) ∧ Below w.heap.size w w' := by
  have hB := ((Below.refl w.heap.size w).alloc (Nat.le_refl _) (.cells #[.int .i64 s, .int .i64 k, .int .u64 (mask : Int)] 55))
  have HX := Lib.hid (heap_alloc_new w (.cells #[.int .i64 s, .int .i64 k, .int .u64 (mask : Int)] 55))
  obtain ⟨k1, k2, k3⟩ := three_cells HX.out
  have HB0 := Lib.hid hB
  have Hr := Lib.hid hr
  have Hro := Lib.hid hro
  clear hr hro hB
  go_enter Try.func4, Try.ntmps4
  go_wp2_with fail
  go_quiet (fail)
  have HBq := Lib.hid (HB0.out.trans ((Fr.drewN (S := fun _ => False) nq).bel (fun _ e => e.elim) HB0.out.size))
  generalize (w.alloc (.cells #[.int .i64 s, .int .i64 k, .int .u64 (mask : Int)] 55)).drewN nq = W1 at *
  clear k1 k2 k3 HX HB0
  by_cases h1 : s < 2
  · skip
    go_wp2_with (first
      | (go_at_call 15; (with_reducible refine (c_lives _).mono ?_); rintro e w5 ⟨rfl, b5⟩))
    go_ret
    exact ⟨rfl, HBq.out.trans (b5.mono HBq.out.size)⟩
  by_cases h2 : 8 < s
  · skip
    go_wp2_with (first
      | (go_at_call 15; (with_reducible refine (c_lives _).mono ?_); rintro e w5 ⟨rfl, b5⟩))
    go_ret
    exact ⟨rfl, HBq.out.trans (b5.mono HBq.out.size)⟩
  by_cases h3 : 30 < nl
  · skip
    go_wp2_with (first
      | (go_at_call 15; (with_reducible refine (c_lives _).mono ?_); rintro e w5 ⟨rfl, b5⟩))
    go_ret
    exact ⟨rfl, HBq.out.trans (b5.mono HBq.out.size)⟩
  by_cases h4 : k < 0
  · skip
    go_wp2_with (first
      | (go_at_call 15; (with_reducible refine (c_lives _).mono ?_); rintro e w5 ⟨rfl, b5⟩))
    go_ret
    exact ⟨rfl, HBq.out.trans (b5.mono HBq.out.size)⟩
  by_cases h5 : 100 < k
  · skip
    go_wp2_with (first
      | (go_at_call 15; (with_reducible refine (c_lives _).mono ?_); rintro e w5 ⟨rfl, b5⟩))
    go_ret
    exact ⟨rfl, HBq.out.trans (b5.mono HBq.out.size)⟩
  have hs : 2 ≤ s ∧ s ≤ 8 := by omega
  have hnl : nl ≤ 30 := by omega
  have hk2 : 0 ≤ k ∧ k ≤ 100 := by omega
  clear h1 h2 h3 h4 h5
  go_wp2_with (first
    | (go_at_call 16
       (with_reducible refine (c_dNewI' 10 10 rfl _ (by omega) (by omega)).mono ?_)
       rintro e w1 ⟨p, g, mb, rfl, hk, hge, hb1⟩
       have HB := Lib.hid (HBq.out.trans (hb1.mono HBq.out.size))
       have HK := Lib.hid hk
       have HG : Hid (w.heap.size ≤ p ∧ w.heap.size ≤ g ∧ w.heap.size ≤ mb) := Lib.hid (by have := HBq.out.size; omega)
       clear hb1 hk hge)
    | (go_at_call 22
       (with_reducible refine (c_FuseD HK.out k hk).mono ?_)
       rintro e w2 ⟨rfl, hk2, f2⟩
       have HB := Lib.hid (HB.out.trans (f2.bel (B := w.heap.size) (fun k e => by have := HG.out; omega) HB.out.size))
       have HK2 := Lib.hid hk2
       clear hk2 f2 HK))
  have HP0 := Lib.hid (play0 (s := s) hk2.1)
  generalize (Dsk.new 10).setFuse k = D0 at *
  go_loopw [10, 11, 52] (fun v10 v11 v wr => ∃ (i last : Nat) (D : Dsk), i ≤ nl ∧ v = .int .i64 (i : Int) ∧ v10 = .int .u64 (last : Int) ∧ v11 = .int .u64 (last : Int) ∧ Hid (Dk wr p g mb 10 D) ∧ Hid (Play D s k i last) ∧ Hid (Below w.heap.size w wr)) (fun _ _ v _ => nl - (intOf v).toNat)
  case atStart => exact ⟨0, 0, D0, Nat.zero_le _, rfl, rfl, rfl, HK2, HP0, HB⟩
  case round =>
    clear HK2 HP0 HB
    obtain ⟨i, last, D, hi, rfl, rfl, rfl, HK, HP, HB⟩ := hrel
    by_cases hin : i < nl
    · obtain ⟨ad, rw_, rfl, hri, hrl, hcell⟩ := Hr.out.at hin
      obtain ⟨x, rfl, hx⟩ := word_of (Hro.out i rw_ hri)
      have hc0 := hcell 0 _ rfl
      rw [show (ad.add (i * 1)).add 0 = ad.add i from by rw [add_add, Nat.mul_one, Nat.add_zero]] at hc0
      have hcx : wr.cell? (ad.add i) = some (.int .u64 (x : Int)) := by
        rw [HB.out.cell (block_lt_of_cell hc0)]
        exact hc0
      obtain ⟨⟨D', e⟩, hsp⟩ : ∃ r, sput D 1 s x = r := ⟨_, rfl⟩
      have hnx := HP.out.next hs (by omega) hx hsp
      have Hsp := Lib.hid hsp
      have ho : Hid (D.ops + 1 < 1000000000) := Lib.hid (by have := HP.out.ops; omega)
      clear hri hrl hcell hc0 hsp
      rcases hnx with ⟨rfl, hpl⟩ | ⟨rfl, hkk, hoo, hcr⟩
      · have HP' := Lib.hid hpl
        clear hpl
        go_wp2_with (first
        | (go_at_call 18
           (with_reducible refine (c_PutI HK.out ho.out 1 s _ x rfl hx _ Hsp.out).mono ?_)
           rintro e w3 ⟨rfl, hk3, f3⟩
           have HB := Lib.hid (HB.out.trans (f3.bel (B := w.heap.size) (fun k e => by have := HG.out; omega) HB.out.size))
           have HK := Lib.hid hk3
           clear hk3 f3 hcx Hsp)
        )
        go_roundw
        case rel => exact ⟨i + 1, x, D', by omega, by go_num, rfl, rfl, HK, HP', HB⟩
        case measure => simp [intOf] <;> omega
      · have hw2 : wrap64 (2 * (nl : Int)) = 2 * (nl : Int) := by unfold wrap64; omega
        have hklt : k < 2 * (nl : Int) := by omega
        have hnl0 : ((nl : Int) == 0) = false := by simp; omega
        obtain ⟨n, hor⟩ := hcr mask
        rcases hor with hl | hl
        · have HL := Lib.hid hl
          clear hcr hl
          go_wp2_with (first
          | (go_at_call 18
             (with_reducible refine (c_PutI HK.out ho.out 1 s _ x rfl hx _ Hsp.out).mono ?_)
             rintro e w3 ⟨rfl, hk3, f3⟩
             have HB := Lib.hid (HB.out.trans (f3.bel (B := w.heap.size) (fun k e => by have := HG.out; omega) HB.out.size))
             have HK := Lib.hid hk3
             clear hk3 f3 hcx Hsp)
          | (go_at_call 20
             (with_reducible refine (c_Crash HK.out mask hm).mono ?_)
             rintro e w9 ⟨rfl, hk9, f9⟩
             have HB9 := Lib.hid (HB.out.trans (f9.bel (B := w.heap.size) (fun k e => by have := HG.out; omega) HB.out.size))
             have HK9 := Lib.hid hk9
             clear hk9 f9)
          | (go_at_call 26
             (with_reducible refine (c_Latest HK9.out 1 s).mono ?_)
             rw [HL.out]
             rintro e w10 ⟨rfl, hb10⟩
             have HB10 := Lib.hid (HB9.out.trans (hb10.mono HB9.out.size))
             clear hb10)
          | (go_at_call 15; (with_reducible refine (c_lives _).mono ?_); rintro e w5 ⟨rfl, b5⟩)
          )
          go_ret
          exact ⟨rfl, HB10.out.trans (b5.mono HB10.out.size)⟩
        · have HL := Lib.hid hl
          clear hcr hl
          by_cases hxl : x = last
          · subst hxl
            go_wp2_with (first
            | (go_at_call 18
               (with_reducible refine (c_PutI HK.out ho.out 1 s _ x rfl hx _ Hsp.out).mono ?_)
               rintro e w3 ⟨rfl, hk3, f3⟩
               have HB := Lib.hid (HB.out.trans (f3.bel (B := w.heap.size) (fun k e => by have := HG.out; omega) HB.out.size))
               have HK := Lib.hid hk3
               clear hk3 f3 hcx Hsp)
            | (go_at_call 20
               (with_reducible refine (c_Crash HK.out mask hm).mono ?_)
               rintro e w9 ⟨rfl, hk9, f9⟩
               have HB9 := Lib.hid (HB.out.trans (f9.bel (B := w.heap.size) (fun k e => by have := HG.out; omega) HB.out.size))
               have HK9 := Lib.hid hk9
               clear hk9 f9)
            | (go_at_call 26
               (with_reducible refine (c_Latest HK9.out 1 s).mono ?_)
               rw [HL.out]
               rintro e w10 ⟨rfl, hb10⟩
               have HB10 := Lib.hid (HB9.out.trans (hb10.mono HB9.out.size))
               clear hb10)
            | (go_at_call 15; (with_reducible refine (c_lives _).mono ?_); rintro e w5 ⟨rfl, b5⟩)
            )
            go_ret
            exact ⟨rfl, HB10.out.trans (b5.mono HB10.out.size)⟩
          · have hxe : ((x : Int) == (last : Int)) = false := by simp; omega
            go_wp2_with (first
            | (go_at_call 18
               (with_reducible refine (c_PutI HK.out ho.out 1 s _ x rfl hx _ Hsp.out).mono ?_)
               rintro e w3 ⟨rfl, hk3, f3⟩
               have HB := Lib.hid (HB.out.trans (f3.bel (B := w.heap.size) (fun k e => by have := HG.out; omega) HB.out.size))
               have HK := Lib.hid hk3
               clear hk3 f3 hcx Hsp)
            | (go_at_call 20
               (with_reducible refine (c_Crash HK.out mask hm).mono ?_)
               rintro e w9 ⟨rfl, hk9, f9⟩
               have HB9 := Lib.hid (HB.out.trans (f9.bel (B := w.heap.size) (fun k e => by have := HG.out; omega) HB.out.size))
               have HK9 := Lib.hid hk9
               clear hk9 f9)
            | (go_at_call 26
               (with_reducible refine (c_Latest HK9.out 1 s).mono ?_)
               rw [HL.out]
               rintro e w10 ⟨rfl, hb10⟩
               have HB10 := Lib.hid (HB9.out.trans (hb10.mono HB9.out.size))
               clear hb10)
            | (go_at_call 15; (with_reducible refine (c_lives _).mono ?_); rintro e w5 ⟨rfl, b5⟩)
            )
            go_ret
            exact ⟨rfl, HB10.out.trans (b5.mono HB10.out.size)⟩
    · obtain rfl : i = nl := by omega
      have HL : Hid (latest (D.crash mask) 1 s = (i, last)) := Lib.hid (by rw [HP.out.clean.latest_crash]; exact HP.out.now)
      by_cases hz : i = 0
      · have hz2 : ((i : Int) == 0) = true := by simp [hz]
        go_wp2_with (first
        | (go_at_call 20
           (with_reducible refine (c_Crash HK.out mask hm).mono ?_)
           rintro e w9 ⟨rfl, hk9, f9⟩
           have HB9 := Lib.hid (HB.out.trans (f9.bel (B := w.heap.size) (fun k e => by have := HG.out; omega) HB.out.size))
           have HK9 := Lib.hid hk9
           clear hk9 f9)
        | (go_at_call 26
           (with_reducible refine (c_Latest HK9.out 1 s).mono ?_)
           rw [HL.out]
           rintro e w10 ⟨rfl, hb10⟩
           have HB10 := Lib.hid (HB9.out.trans (hb10.mono HB9.out.size))
           clear hb10)
        | (go_at_call 15; (with_reducible refine (c_lives _).mono ?_); rintro e w5 ⟨rfl, b5⟩)
        )
        go_ret
        exact ⟨rfl, HB10.out.trans (b5.mono HB10.out.size)⟩
      · have hz2 : ((i : Int) == 0) = false := by simp; omega
        go_wp2_with (first
        | (go_at_call 20
           (with_reducible refine (c_Crash HK.out mask hm).mono ?_)
           rintro e w9 ⟨rfl, hk9, f9⟩
           have HB9 := Lib.hid (HB.out.trans (f9.bel (B := w.heap.size) (fun k e => by have := HG.out; omega) HB.out.size))
           have HK9 := Lib.hid hk9
           clear hk9 f9)
        | (go_at_call 26
           (with_reducible refine (c_Latest HK9.out 1 s).mono ?_)
           rw [HL.out]
           rintro e w10 ⟨rfl, hb10⟩
           have HB10 := Lib.hid (HB9.out.trans (hb10.mono HB9.out.size))
           clear hb10)
        | (go_at_call 15; (with_reducible refine (c_lives _).mono ?_); rintro e w5 ⟨rfl, b5⟩)
        )
        go_ret
        exact ⟨rfl, HB10.out.trans (b5.mono HB10.out.size)⟩
section
open Go.ChangeShapes Go.WideShapes Go.Deep
variable {H : Type} {enc : TypeId × Value → H} {P : Program} {W : World} {base : Nat} {spare : Nat → Bool} {held : Bool}
theorem open_point {r : Reach} {base2 : Nat} {t : TypeId} {v : Value} {d : DataW H} {ps : List MemPlace} (hL : flat P 4 t = some [.int .i64, .int .i64, .int .u64]) (hc : P.cellsOf t = 3) (ht : (P.underlying t).map (·.isRow) = some true)
    (hv : Value.okWide P W r base2 t v) (h : DataW.Trod enc P W base spare held t v d ps) : ∃ (s k : Int) (m : Nat), v = .agg #[.int .i64 s, .int .i64 k, .int .u64 (m : Int)] ∧ (-9223372036854775808 ≤ k ∧ k ≤ 9223372036854775807) ∧ m < 18446744073709551616 := by
  obtain ⟨cs, rfl, hr⟩ := open_agg 4 hL hc ht hv h
  obtain ⟨v1, r1, rfl, k1, hr⟩ := rowOk_cons hr
  obtain ⟨v2, r2, rfl, k2, hr⟩ := rowOk_cons hr
  obtain ⟨v3, r3, rfl, k3, hr⟩ := rowOk_cons hr
  obtain rfl := rowOk_nil hr
  obtain ⟨z1, rfl, q1⟩ := leaf_i64 k1
  obtain ⟨z2, rfl, q2⟩ := leaf_i64 k2
  obtain ⟨z3, rfl, q3⟩ := leaf_u64 k3
  exact ⟨z1, z2, z3, rfl, q2, q3⟩
end
end Go.Proofs.Ytpbcmghfhflkbaa.Slots
