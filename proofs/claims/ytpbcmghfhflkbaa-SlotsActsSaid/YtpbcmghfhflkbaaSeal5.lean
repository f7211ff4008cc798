/- Contracts of the package seal, and of its reference: Get. Conditions: none. -/
import Derived.Test.YtpbcmghfhflkbaaSeal4
import Derived.Test.YtpbcmghfhflkbaaArr
set_option linter.unusedVariables false
set_option linter.unusedSimpArgs false
namespace Go.Proofs.Ytpbcmghfhflkbaa.Seal
open Go.RowKit Tw
open Crc (le sealed le_length sealed_length)
set_option maxHeartbeats 400000

/-- what bytes tell: the bytes, and the error's number -/
def get (b : List UInt8) : List UInt8 × Nat := if b.length < 4 then ([], 8) else if sealed (b.take (b.length - 4)) = b then (b.take (b.length - 4), 0) else ([], 10)
theorem get_short {b : List UInt8} (h : b.length < 4) : get b = ([], 8) := by simp [get, h]
theorem get_sum {b : List UInt8} (h : 4 ≤ b.length) (hs : sealed (b.take (b.length - 4)) ≠ b) : get b = ([], 10) := by simp [get, show ¬ b.length < 4 by omega, hs]
theorem get_ok {b : List UInt8} (h : 4 ≤ b.length) (hs : sealed (b.take (b.length - 4)) = b) : get b = (b.take (b.length - 4), 0) := by simp [get, show ¬ b.length < 4 by omega, hs]
theorem sealed_iff (b : List UInt8) (m : Nat) (hb : b.length = m + 4) : sealed (b.take m) = b ↔ le 4 (Crc.sum (b.take m)) = b.drop m := by
  constructor
  · intro h
    have h2 : (sealed (b.take m)).drop m = b.drop m := by rw [h]
    rw [← h2]
    unfold sealed
    rw [List.drop_append_of_le_length (by simp; omega), List.drop_of_length_le (by simp; omega), List.nil_append]
  · intro h
    unfold sealed
    rw [h, List.take_append_drop]

theorem c_Get (A : Option Addr) (n c : Nat) (b : List UInt8) (w : World) (hb : Byt w A n c b) (hn : n ≤ 140737488351000) :
    Calls Try.prog 209 #[.slice A n c] w fun e w' => ∃ A2 c2, e = .returned (.tuple #[.slice A2 (get b).1.length c2, .int .i64 ((get b).2 : Nat)]) ∧ Byt w' A2 (get b).1.length c2 (get b).1 ∧ Below w.heap.size w w' := by
  have hbl := hb.blen
  by_cases hn4 : n < 4
  · rw [get_short (by omega)]
    go_enter Try.func209, Try.ntmps209
    go_wp2_with fail
    go_ret2
    exact ⟨none, 0, rfl, Rd.nil_, Below.refl _ _⟩
  · obtain ⟨m, rfl⟩ : ∃ m, n = m + 4 := ⟨n - 4, by omega⟩
    obtain ⟨ad, rfl, -⟩ := hb.src (by omega)
    have Hb := Lib.hid hb
    have Hbl := Lib.hid hbl
    have Hn4 := Lib.hid hn4
    clear hn4 hbl
    have hmc : m + 4 ≤ c := hb.le
    go_enter Try.func209, Try.ntmps209
    go_wp2_with fail
    have Hrd : Hid (Byt w (some (ad.add m)) 4 (c - m) (b.drop m)) := Lib.hid (by
      have h := Hb.out.cutB (k := m) (by omega)
      rw [if_neg (by omega), Nat.add_sub_cancel_left] at h
      exact h)
    have Hup : Hid (Byt w (some ad) m c (b.take m)) := Lib.hid (Hb.out.uptoB (k := m) (by omega))
    have hl4 := le_length 4 (Crc.sum (b.take m))
    have Hd4 : Hid ((b.drop m).length = 4) := Lib.hid (by rw [List.length_drop, Hbl.out]; omega)
    have Hl4 := Lib.hid hl4
    have heg : Try.prog.eqGuardType Try.prog.depth 311 = false := by kernel_rfl
    have hiff := sealed_iff b m Hbl.out
    have hsm : b.length - 4 = m := by rw [Hbl.out]; omega
    generalize hle : le 4 (Crc.sum (b.take m)) = l4 at *
    have Hle := Lib.hid hle
    have Hiff := Lib.hid hiff
    have Hsm := Lib.hid hsm
    clear hle hiff hsm hl4
    obtain ⟨q, hq⟩ : ∃ q, q = !decide (l4 = b.drop m) := ⟨_, rfl⟩
    have Hq := Lib.hid hq
    clear hq
    refine wp_region_phi (by kernel_rfl) 10 none (fun _ => false) (fun i_ v wz => match i_ with
      | 0 => v = .slice (some ad) (m + 4) c
      | 1 => v = .int .i64 (m : Int)
      | 2 => v = .slice (some ad) m c
      | 3 => v = .agg (bytesV l4).toArray
      | 4 => v = .slice (some ad) (m + 4) c
      | 5 => v = .int .i64 (m : Int)
      | 6 => v = .slice (some (ad.add m)) 4 (c - m)
      | 7 => v = .pointer (some (ad.add m))
      | 8 => v = .agg (bytesV (b.drop m)).toArray
      | 9 => v = .bool q
      | _ => True) (by kernel_rfl) ?_ ?_ ?_
    · (repeat' (first | exact allLt_zero | refine allLt_succ ?_ ?_))
      · exact fun _ _ _ h _ => h
      · exact fun _ _ _ h _ => h
      · exact fun _ _ _ h _ => h
      · exact fun _ _ _ h _ => h
      · exact fun _ _ _ h _ => h
      · exact fun _ _ _ h _ => h
      · exact fun _ _ _ h _ => h
      · exact fun _ _ _ h _ => h
      · exact fun _ _ _ h _ => h
      · exact fun _ _ _ h _ => h
    · (repeat' (first | exact allLt_zero | refine allLt_succ ?_ ?_))
      · intro a w' hf he
        have k0 : a.tmps.getD 0 undef = .slice (some ad) (m + 4) c := hf.var (by kernel_rfl) rfl
        refine wpOp_step rfl (fun K hK => ?_)
        go_simp
        exact hK _ _ ⟨_, rfl, rfl, World.grownBy.refl _ _⟩
      · intro a w' hf he
        have k4 : a.tmps.getD 4 undef = .int .i64 (m : Int) := hf.var (by kernel_rfl) rfl
        refine wpOp_step rfl (fun K hK => ?_)
        go_simp
        exact hK _ _ ⟨_, rfl, rfl, World.grownBy.refl _ _⟩
      · intro a w' hf he
        have f0 : a.tmps.getD 11 undef = .slice (some ad) (m + 4) c := he 0 (by kernel_rfl)
        have f1 : a.tmps.getD 12 undef = .int .i64 (m : Int) := he 1 (by kernel_rfl)
        rw [show kindRow _ _ = none from by kernel_rfl] at hf
        refine wpOp_step rfl (fun K hK => ?_)
        go_simp
        rw [if_pos (by omega)]
        exact hK _ _ ⟨_, rfl, rfl, World.grownBy.refl _ _⟩
      · intro a w' hf he
        have f2 : a.tmps.getD 13 undef = .slice (some ad) m c := he 2 (by kernel_rfl)
        rw [show kindRow _ _ = none from by kernel_rfl] at hf
        refine wpOp_step rfl (fun K hK => ?_)
        go_simp
        refine (c_sum _ _ _ (b.take m) _ (Hup.out.bel hf.bel)).mono ?_
        rintro e w2 ⟨rfl, hb2⟩
        rw [Hle.out]
        exact hK _ _ ⟨_, rfl, rfl, grown_bel hb2⟩
      · intro a w' hf he
        have k0 : a.tmps.getD 0 undef = .slice (some ad) (m + 4) c := hf.var (by kernel_rfl) rfl
        refine wpOp_step rfl (fun K hK => ?_)
        go_simp
        exact hK _ _ ⟨_, rfl, rfl, World.grownBy.refl _ _⟩
      · intro a w' hf he
        have k4 : a.tmps.getD 4 undef = .int .i64 (m : Int) := hf.var (by kernel_rfl) rfl
        refine wpOp_step rfl (fun K hK => ?_)
        go_simp
        exact hK _ _ ⟨_, rfl, rfl, World.grownBy.refl _ _⟩
      · intro a w' hf he
        have f4 : a.tmps.getD 15 undef = .slice (some ad) (m + 4) c := he 4 (by kernel_rfl)
        have f5 : a.tmps.getD 16 undef = .int .i64 (m : Int) := he 5 (by kernel_rfl)
        rw [show kindRow _ _ = none from by kernel_rfl] at hf
        refine wpOp_step rfl (fun K hK => ?_)
        go_simp
        rw [if_pos (by omega), if_neg (by omega)]
        exact hK _ _ ⟨_, rfl, rfl, World.grownBy.refl _ _⟩
      · intro a w' hf he
        have f6 : a.tmps.getD 17 undef = .slice (some (ad.add m)) 4 (c - m) := he 6 (by kernel_rfl)
        rw [show kindRow _ _ = none from by kernel_rfl] at hf
        have hat := run_arrayAt (P := Try.prog) w' 311 _ 4 (some (ad.add m)) 4 (c - m) Try.underlying311 (by omega)
        refine wpOp_step rfl (fun K hK => ?_)
        go_simp
        exact hK _ _ ⟨_, rfl, rfl, World.grownBy.refl _ _⟩
      · intro a w' hf he
        have f7 : a.tmps.getD 18 undef = .pointer (some (ad.add m)) := he 7 (by kernel_rfl)
        rw [show kindRow _ _ = none from by kernel_rfl] at hf
        refine wpOp_step rfl (fun K hK => ?_)
        refine wp_load_rd 311 (.tmp 18) rfl (ad.add m) f7 (bytesV (b.drop m)) _ ((Hrd.out.bel hf.bel).cell _ rfl) Try.underlying311 rfl (by rw [bytesV_length, Hd4.out]; kernel_rfl) ?_
        exact hK _ _ ⟨_, rfl, rfl, World.grownBy.refl _ _⟩
      · intro a w' hf he
        have f3 : a.tmps.getD 14 undef = .agg (bytesV l4).toArray := he 3 (by kernel_rfl)
        have f8 : a.tmps.getD 19 undef = .agg (bytesV (b.drop m)).toArray := he 8 (by kernel_rfl)
        rw [show kindRow _ _ = none from by kernel_rfl] at hf
        have hne := run_eql_barr (P := Try.prog) w' l4 (b.drop m) Hl4.out Hd4.out Try.underlying311 Try.underlying5 (by kernel_rfl)
        refine wpOp_step rfl (fun K hK => ?_)
        go_simp
        rw [← Hq.out]
        exact hK _ _ ⟨_, rfl, rfl, World.grownBy.refl _ _⟩
    · intro a w' hf he
      obtain ⟨u11, f0⟩ : ∃ u, a.tmps.getD 11 undef = u := ⟨_, rfl⟩
      obtain ⟨u12, f1⟩ : ∃ u, a.tmps.getD 12 undef = u := ⟨_, rfl⟩
      obtain ⟨u13, f2⟩ : ∃ u, a.tmps.getD 13 undef = u := ⟨_, rfl⟩
      obtain ⟨u14, f3⟩ : ∃ u, a.tmps.getD 14 undef = u := ⟨_, rfl⟩
      obtain ⟨u15, f4⟩ : ∃ u, a.tmps.getD 15 undef = u := ⟨_, rfl⟩
      obtain ⟨u16, f5⟩ : ∃ u, a.tmps.getD 16 undef = u := ⟨_, rfl⟩
      obtain ⟨u17, f6⟩ : ∃ u, a.tmps.getD 17 undef = u := ⟨_, rfl⟩
      obtain ⟨u18, f7⟩ : ∃ u, a.tmps.getD 18 undef = u := ⟨_, rfl⟩
      obtain ⟨u19, f8⟩ : ∃ u, a.tmps.getD 19 undef = u := ⟨_, rfl⟩
      have f9 : a.tmps.getD 20 undef = .bool q := he 9 (by decide)
      have hlit := hf.lit ((11, u11) :: (12, u12) :: (13, u13) :: (14, u14) :: (15, u15) :: (16, u16) :: (17, u17) :: (18, u18) :: (19, u19) :: (20, .bool q) :: []) (by kernel_rfl) ⟨f0, f1, f2, f3, f4, f5, f6, f7, f8, f9, trivial⟩
      have hB := hf.bel
      clear he hf f0 f1 f2 f3 f4 f5 f6 f7 f8 f9 
      subst hlit
      simp only [putAll_nil, putAll_cons, Act.put, List.setIfInBounds_toArray, List.set_cons_zero, List.set_cons_succ]
      simp only [List.drop_succ_cons, List.drop_zero]
      have hB0 : Below w.heap.size w w' := hB
      have Hr := Lib.hid (Hup.out.bel hB)
      clear hB
      cases q with
      | true =>
        have hget : Hid (get b = ([], 10)) := Lib.hid (get_sum (by rw [Hbl.out]; omega) (by
          rw [Hsm.out]
          intro h
          have h2 := Hq.out
          rw [Hiff.out.1 h] at h2
          simp at h2))
        go_wp2_with fail
        go_ret2
        rw [hget.out]
        exact ⟨none, 0, rfl, Rd.nil_, hB0⟩
      | false =>
        have hs : l4 = b.drop m := by have h2 := Hq.out; simpa using h2
        have hget : Hid (get b = (b.take m, 0)) := Lib.hid (by rw [get_ok (by rw [Hbl.out]; omega) (by rw [Hsm.out]; exact Hiff.out.2 hs), Hsm.out])
        clear hs
        go_wp2_with (first
          | (at_make
             refine wpL_make _ rfl _ _ _ rfl w w.heap.size hB0 hB0.size 5 _ 1 1 Try.underlying96 Num.info_u8 _ _ _ _ m rfl rfl (by omega) (by omega) (by omega) (by unfold maxLen; omega) _ (made_u8 m) ?_
             intro w2 hown2 hb2 hg2
             have k2 := hown2.heap
             have hr2 := Hr.out.grown hg2 (by simp)
             have hgl := hB0.size
             generalize w'.heap.size = g at *
             clear hg2 hown2)
          | (refine wpL_copy rfl (.tmp 23) (.tmp 24) 96 96 rfl 5 Try.underlying96 (by kernel_rfl) _ _ m m (m + 4) c rfl rfl g 0 _ 5 k2 (bytesV (b.take m)) m (by rw [bytesV_length, List.length_take, Hbl.out]; omega) (Nat.min_eq_right (by omega)).symm (fun h0 => ⟨rfl, ad, rfl, hr2.cell ad rfl⟩) (by simp [bytesV]) bytesV_one (bytesV (b.take m)) (splice_all (by rw [bytesV_length, bytesV_length, List.length_take, Hbl.out, List.length_replicate]; omega)) ?_
             intro w3 h3 hgr))
        go_ret2
        rw [hget.out]
        have hl : (b.take m).length = m := by rw [List.length_take, Hbl.out]; omega
        refine ⟨some ⟨g, 0, none⟩, m, by simp only [hl]; rfl, ?_, hb2.grown hgr hb2.size (by rintro k ⟨⟩; exact hgl)⟩
        show Byt w3 _ (b.take m).length m (b.take m)
        rw [hl]
        exact rd_of_heap h3 (by rw [bytesV_length, hl]) (by unfold maxLen; omega)

theorem c_rGet (A : Option Addr) (n c : Nat) (b : List UInt8) (w : World) (hb : Byt w A n c b) (hn : n ≤ 140737488351000) :
    Calls Try.prog 240 #[.slice A n c] w fun e w' => ∃ A2 c2, e = .returned (.tuple #[.slice A2 (get b).1.length c2, .int .i64 ((get b).2 : Nat)]) ∧ Byt w' A2 (get b).1.length c2 (get b).1 ∧ Below w.heap.size w w' := by
  have hbl := hb.blen
  by_cases hn4 : n < 4
  · rw [get_short (by omega)]
    go_enter Try.func240, Try.ntmps240
    go_wp2_with fail
    go_ret2
    exact ⟨none, 0, rfl, Rd.nil_, Below.refl _ _⟩
  · obtain ⟨m, rfl⟩ : ∃ m, n = m + 4 := ⟨n - 4, by omega⟩
    obtain ⟨ad, rfl, -⟩ := hb.src (by omega)
    have Hb := Lib.hid hb
    have Hbl := Lib.hid hbl
    have Hn4 := Lib.hid hn4
    clear hn4 hbl
    have hmc : m + 4 ≤ c := hb.le
    go_enter Try.func240, Try.ntmps240
    go_wp2_with fail
    have Hup : Hid (Byt w (some ad) m c (b.take m)) := Lib.hid (Hb.out.uptoB (k := m) (by omega))
    have hsm : b.length - 4 = m := by rw [Hbl.out]; omega
    have Hsm := Lib.hid hsm
    clear hsm
    have Htl : Hid ((b.take m).length = m) := Lib.hid (by rw [List.length_take, Hbl.out]; omega)
    obtain ⟨q, hq⟩ : ∃ q, q = !(sealed (b.take m) == b) := ⟨_, rfl⟩
    have Hq := Lib.hid hq
    clear hq
    have hqe : Hid (q = false ↔ sealed (b.take m) = b) := Lib.hid (by
      rw [Hq.out]
      simp)
    refine wp_region_phi (by kernel_rfl) 6 none (fun _ => false) (fun i_ v wz => match i_ with
      | 0 => v = .slice (some ad) m c
      | 1 => ∃ A3 c3, v = .slice A3 (m + 4) c3 ∧ Byt wz A3 (m + 4) c3 (sealed (b.take m))
      | 2 => v = .string ⟨(sealed (b.take m)).toArray⟩
      | 3 => v = .slice (some ad) (m + 4) c
      | 4 => v = .string ⟨b.toArray⟩
      | 5 => v = .bool q
      | _ => True) (by kernel_rfl) ?_ ?_ ?_
    · (repeat' (first | exact allLt_zero | refine allLt_succ ?_ ?_))
      · exact fun _ _ _ h _ => h
      · intro v w1 w2 h hg
        rw [show kindRow _ _ = none from by kernel_rfl] at hg
        obtain ⟨A3, c3, rfl, hr⟩ := h
        exact ⟨A3, c3, rfl, hr.bel (bel_grown hg)⟩
      · exact fun _ _ _ h _ => h
      · exact fun _ _ _ h _ => h
      · exact fun _ _ _ h _ => h
      · exact fun _ _ _ h _ => h
    · (repeat' (first | exact allLt_zero | refine allLt_succ ?_ ?_))
      · intro a w' hf he
        have k4 : a.tmps.getD 4 undef = .slice (some ad) m c := hf.var (by kernel_rfl) rfl
        refine wpOp_step rfl (fun K hK => ?_)
        go_simp
        exact hK _ _ ⟨_, rfl, rfl, World.grownBy.refl _ _⟩
      · intro a w' hf he
        have f0 : a.tmps.getD 13 undef = .slice (some ad) m c := he 0 (by kernel_rfl)
        rw [show kindRow _ _ = none from by kernel_rfl] at hf
        refine wpOp_step rfl (fun K hK => ?_)
        go_simp
        refine (c_rPut _ m _ _ _ (Hup.out.bel hf.bel) (by omega)).mono ?_
        rintro e w2 ⟨A3, c3, rfl, hown, hb2⟩
        exact hK _ _ ⟨_, rfl, ⟨A3, c3, rfl, hown.rd⟩, grown_bel hb2⟩
      · intro a w' hf he
        obtain ⟨A1, c1, hv1, hr1⟩ := he 1 (by kernel_rfl)
        have f1 : a.tmps.getD 14 undef = _ := hv1
        rw [show kindRow _ _ = none from by kernel_rfl] at hf
        have hcv := run_str (P := Try.prog) w' 96 9 5 A1 (m + 4) c1 (sealed (b.take m)) Try.underlying96 Try.underlying5 Try.underlying9 hr1
        refine wpOp_step rfl (fun K hK => ?_)
        go_simp
        exact hK _ _ ⟨_, rfl, rfl, World.grownBy.refl _ _⟩
      · intro a w' hf he
        have k0 : a.tmps.getD 0 undef = .slice (some ad) (m + 4) c := hf.var (by kernel_rfl) rfl
        refine wpOp_step rfl (fun K hK => ?_)
        go_simp
        exact hK _ _ ⟨_, rfl, rfl, World.grownBy.refl _ _⟩
      · intro a w' hf he
        have f3 : a.tmps.getD 16 undef = .slice (some ad) (m + 4) c := he 3 (by kernel_rfl)
        rw [show kindRow _ _ = none from by kernel_rfl] at hf
        have hcv := run_str (P := Try.prog) w' 96 9 5 _ (m + 4) _ b Try.underlying96 Try.underlying5 Try.underlying9 (Hb.out.bel hf.bel)
        refine wpOp_step rfl (fun K hK => ?_)
        go_simp
        exact hK _ _ ⟨_, rfl, rfl, World.grownBy.refl _ _⟩
      · intro a w' hf he
        have f2 : a.tmps.getD 15 undef = .string ⟨(sealed (b.take m)).toArray⟩ := he 2 (by kernel_rfl)
        have f4 : a.tmps.getD 17 undef = .string ⟨b.toArray⟩ := he 4 (by kernel_rfl)
        rw [show kindRow _ _ = none from by kernel_rfl] at hf
        refine wpOp_step rfl (fun K hK => ?_)
        go_simp
        rw [← Hq.out]
        exact hK _ _ ⟨_, rfl, rfl, World.grownBy.refl _ _⟩
    · intro a w' hf he
      obtain ⟨u13, f0⟩ : ∃ u, a.tmps.getD 13 undef = u := ⟨_, rfl⟩
      obtain ⟨u14, f1⟩ : ∃ u, a.tmps.getD 14 undef = u := ⟨_, rfl⟩
      obtain ⟨u15, f2⟩ : ∃ u, a.tmps.getD 15 undef = u := ⟨_, rfl⟩
      obtain ⟨u16, f3⟩ : ∃ u, a.tmps.getD 16 undef = u := ⟨_, rfl⟩
      obtain ⟨u17, f4⟩ : ∃ u, a.tmps.getD 17 undef = u := ⟨_, rfl⟩
      have f5 : a.tmps.getD 18 undef = .bool q := he 5 (by decide)
      have hlit := hf.lit ((13, u13) :: (14, u14) :: (15, u15) :: (16, u16) :: (17, u17) :: (18, .bool q) :: []) (by kernel_rfl) ⟨f0, f1, f2, f3, f4, f5, trivial⟩
      have hB := hf.bel
      clear he hf f0 f1 f2 f3 f4 f5 
      subst hlit
      simp only [putAll_nil, putAll_cons, Act.put, List.setIfInBounds_toArray, List.set_cons_zero, List.set_cons_succ]
      simp only [List.drop_succ_cons, List.drop_zero]
      have hB0 : Below w.heap.size w w' := hB
      have Hr := Lib.hid (Hup.out.bel hB)
      clear hB
      cases q with
      | true =>
        have hget : Hid (get b = ([], 10)) := Lib.hid (get_sum (by rw [Hbl.out]; omega) (by
          rw [Hsm.out]
          intro h
          have h2 := hqe.out.2 h
          simp at h2))
        go_wp2_with fail
        go_ret2
        rw [hget.out]
        exact ⟨none, 0, rfl, Rd.nil_, hB0⟩
      | false =>
        have hget : Hid (get b = (b.take m, 0)) := Lib.hid (by rw [get_ok (by rw [Hbl.out]; omega) (by rw [Hsm.out]; exact hqe.out.1 rfl), Hsm.out])
        go_wp2_with (first
          | (at_builtin
             refine wpL_append _ rfl (.tmp 19) (.tmp 20) _ rfl w w.heap.size (bel_alloc hB0 hB0.size _) (size_alloc_le hB0.size _) 5 _ 1 1 Try.underlying96 Num.info_u8 rfl (by omega) _ _ _ [] rfl (own_empty _ _ _ _ hB0.size) _ _ _ _ rfl (Hr.out.alloc _) bytesV_one m (bytesV (b.take m)) (by omega) rfl (by unfold maxLen; omega) (by omega) ?_
             intro A1 c1 w1 hown1 hb1 hg1 ho1
             clear hg1 ho1))
        go_ret2
        rw [hget.out]
        refine ⟨A1, c1, by simp only [Htl.out]; rfl, ?_, hb1⟩
        show Byt w1 _ (b.take m).length c1 (b.take m)
        rw [Htl.out]
        exact hown1.rd
end Go.Proofs.Ytpbcmghfhflkbaa.Seal
