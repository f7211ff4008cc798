/- The reference's Acked. Conditions: at most 2^20 bodies. -/
import Derived.Test.YtlfphoablloodaaOutRef
import Derived.IntWalk
namespace Go.Proofs.Ytlfphoablloodaa.Outbox
open Go.RowKit Tw
set_option maxHeartbeats 400000

section
variable {w : World} {B : Nat} {F : Nat → Prop} {p : Nat} {win first : Int} {bs : List (List UInt8)}
theorem bodies_one {M : Nat → Prop} {vs : List Value} (h : Bodies w F M vs bs) : ∀ u ∈ vs, u.oneCell' = true := by
  intro u hu
  obtain ⟨i, hi⟩ := List.mem_iff_getElem?.1 hu
  have hlt : i < bs.length := by
    have := (List.getElem?_eq_some_iff.1 hi).1
    have := h.1
    omega
  obtain ⟨v, hv, A, n, c, rfl, _⟩ := h.2 i _ (List.getElem?_eq_getElem hlt)
  rw [hi] at hv
  injection hv with hv
  subst hv
  rfl

set_option maxRecDepth 100000 in
theorem c_rAcked (ho : RefR w B F p win first bs) (hBw : B ≤ w.heap.size) (hb : bs.length ≤ 1048576) (hw : 0 < win) (hw2 : win ≤ 64) (hf0 : 1 ≤ first) (hf1 : first ≤ 1099511627776) (g : Nat) (n : Int) (hn : n = first + g - 1) (hg0 : 0 < g) (hg1 : (g : Int) ≤ min (bs.length : Int) win)
    (N : Nat) (hN : (N : Int) = max (min ((bs.length : Int) - g) win - (min (bs.length : Int) win - g)) 0) :
    Calls Try.prog 52 #[.pointer (some ⟨p, 0, none⟩), .int .i64 n] w fun e w' => ∃ A2 c2, e = .returned (.slice A2 N c2) ∧ Rd w' 1 A2 N c2 (intsV (from_ (first + min (bs.length : Int) win) N)) ∧ (∀ ad, A2 = some ad → w.heap.size ≤ ad.block) ∧
      ∃ F', RefR w' B F' p win (first + g) (bs.drop g) ∧ Fr F w w' ∧ ∀ k, F' k → F k ∨ w.heap.size ≤ k := by
  have Ho := Lib.hid ho
  clear ho
  obtain ⟨N0, HN0⟩ : ∃ N0 : Nat, Hid ((N0 : Int) = min (bs.length : Int) win) := ⟨(min (bs.length : Int) win).toNat, Lib.hid (by omega)⟩
  rw [← HN0.out] at hg1 hN
  rw [← HN0.out]
  have hN64 : N0 ≤ 64 := by have := HN0.out; omega
  have HN := Lib.hid hN
  have Hn := Lib.hid hn
  clear hN hn
  have hgN : g ≤ N0 := by omega
  go_enter Try.func52, Try.ntmps52
  go_wp2_with (first
    | (go_at_call 59
       (with_reducible refine (c_rNumbers Ho.out (by omega) hw hw2 (by omega) (by omega) N0 HN0.out).mono ?_)
       rintro e w1 ⟨A1, c1, rfl, hown1, hb1⟩
       have hr1 := hown1.rd))
  obtain ⟨ad, z0, rfl, hz0, hcell0⟩ := rd_ints_at hr1 (k := 0) (by omega)
  obtain ⟨ad', z1, hA1, hz1, hcell1⟩ := rd_ints_at hr1 (k := N0 - 1) (by omega)
  injection hA1 with hA1
  subst hA1
  have ez0 := from_get hz0.out
  have ez1 := from_get hz1.out
  clear hz0 hz1
  have hu := Lib.hid (show Try.prog.underlying 78 = some (.slice (Try.prog.elem 78)) from by kernel_rfl)
  have e1 : ((N0 : Int) == 0) = false := by simp; omega
  have hcell2 := hcell1
  rw [show N0 - 1 = ((N0 : Int) - 1).toNat from by omega] at hcell1
  rw [show ((N0 - 1 : Nat) : Int) = (N0 : Int) - 1 from by omega] at ez1
  rw [show ad.add 0 = ad from by unfold Addr.add; simp] at hcell0
  have hi0 := Lib.hid (show (0 : Int) ≤ 0 ∧ (0 : Int) < (N0 : Int) from by omega)
  have hi1 := Lib.hid (show (0 : Int) ≤ (N0 : Int) - 1 ∧ (N0 : Int) - 1 < (N0 : Int) from by omega)
  have hadb := hown1.at0 ad rfl
  have Ez0 := Lib.hid ez0
  have Ez1 := Lib.hid ez1
  clear ez0 ez1 hown1
  have t0 : ¬ n < z0 := by have := Ez0.out; have := Hn.out; omega
  have t1 : ¬ z1 < n := by have := Ez1.out; have := Hn.out; omega
  have hr0 := Lib.hid (Ho.out.bel hb1)
  have hF0 : ∀ k, F k → B ≤ k ∧ k < w.heap.size := by
    obtain ⟨_, _, _, h⟩ := Ho.out
    exact h.inF
  have hsz1 := hb1.size
  have HF0 := Lib.hid hF0
  clear hF0
  go_wp2_with (first
    | (rw [Go.run_indexAt_slice (P := Try.prog) _ 78 _ _ _ _ _ hu.out]; (first | rw [if_pos hi0.out] | rw [if_pos hi1.out]); go_simp))
  clear hcell0 hcell1 hcell2
  go_loopw [34] (fun _ wr => ∃ (j : Nat) (F' : Nat → Prop), j ≤ g ∧ Hid (RefR wr B F' p win (first + j) (bs.drop j)) ∧ Hid (Fr F w1 wr) ∧ Hid (∀ k, F' k → F k ∨ w1.heap.size ≤ k)) (fun _ wr => (n + 1 - firstOf wr p).toNat)
  case atStart => exact ⟨0, F, by omega, Lib.hid (by simpa using hr0.out), Lib.hid (Fr.refl _ _), Lib.hid (fun k h => .inl h)⟩
  case round =>
    obtain ⟨j, F', hj, HR, HF, HK⟩ := hrel
    have d1 := HR.out.c1
    by_cases hlt : j < g
    · obtain ⟨A, c, vs, h⟩ := HR.out
      obtain ⟨L, hL⟩ : ∃ L, (bs.drop j).length = L + 1 := ⟨(bs.drop j).length - 1, by have := HN0.out; simp; omega⟩
      have d0 := cell_of_row _ p 0 _ _ _ h.blk
      simp only [List.getElem?_toArray, List.getElem?_cons_zero] at d0
      have hrd := h.row.rd
      have hcl := hrd.le
      have hcc := hrd.cap
      unfold maxLen at hcc
      have hcut := (hrd).cut (k := 1) (by omega)
      have Hat := Lib.hid h
      have hLb : L ≤ 1048576 := by have h1 := hL; simp at h1; omega
      rw [hL] at d0 hcl hcut
      have hnil := hrd.nil
      have hone := bodies_one h.bod
      have hplt := heap_lt h.blk
      have Hat := Lib.hid h
      have HL := Lib.hid hL
      have hdr : 1 * 1 = 1 := rfl
      rw [hdr, show L + 1 - 1 = L from rfl] at hcut
      have HC := Lib.hid hcut
      clear h hL hrd hcut
      have t2 : first + (j : Int) ≤ n := by have := Hn.out; omega
      have hBr : B ≤ wr.heap.size := by have := HF.out.size; omega
      cases A with
      | none => have := hnil rfl; omega
      | some ad2 =>
        clear hnil
        by_cases hc1 : c = 1
        · subst hc1
          obtain rfl : L = 0 := by omega
          go_wp2_with (first
            | (at_builtin
               refine wpL_append _ rfl (.tmp 38) (.tmp 43) _ rfl wr wr.heap.size (bel_alloc (Below.refl _ _) (Nat.le_refl _) _) (size_alloc_le (Nat.le_refl _) _) 22 _ 1 24 Try.underlying88 info_bs rfl (by omega) _ _ _ [] rfl (own_empty _ _ _ _ (Nat.le_refl _)) _ _ _ _ rfl (HC.out.alloc _) (fun u hu => hone u (List.mem_of_mem_drop hu)) 0 (vs.drop 1) (by omega) rfl (by unfold maxLen; omega) (by omega) ?_
               intro A4 c4 w4 hown4 hb4 hg4 ho4
               have hblk4 := heap_fr (S := fun _ => False) Hat.out.blk (Fr.of_bel hb4) (fun h => h)
               have g0 := cell_of_row w4 p 0 _ _ _ hblk4
               have g1 := cell_of_row w4 p 1 _ _ _ hblk4
               have k0 := frozen_of_row w4 p 0 _ _ hblk4
               have k1 := frozen_of_row w4 p 1 _ _ hblk4
               simp at g0 g1
               clear hg4 ho4 hblk4))
          obtain ⟨hd, hfrd⟩ := rstep_done Hat.out HL.out hb4 hBr hown4
          rw [List.drop_drop] at hd
          have hnew := RefR.c1 ⟨A4, c4, _, hd⟩
          have hsz4 := hb4.size
          have hszr := HF.out.size
          refine ⟨⟨j + 1, _, by omega, Lib.hid ⟨A4, c4, _, by rw [show first + ((j + 1 : Nat) : Int) = first + (j : Int) + 1 from by omega]; exact hd⟩, Lib.hid (HF.out.trans hfrd (fun k h1 h2 => ?_)), Lib.hid (fun k h1 => ?_)⟩, ?_⟩
          · rcases HK.out k h2 with h3 | h3
            · exact h3
            · omega
          · rcases h1 with h1 | h1
            · exact HK.out k h1
            · exact .inr (by omega)
          · rw [firstOf_eq hnew, firstOf_eq d1]
            omega
        · have HC2 := HC.out
          rw [if_neg hc1] at HC2
          have HC := Lib.hid HC2
          clear HC2
          go_wp2_with (first
            | (at_builtin
               refine wpL_append _ rfl (.tmp 38) (.tmp 43) _ rfl wr wr.heap.size (bel_alloc (Below.refl _ _) (Nat.le_refl _) _) (size_alloc_le (Nat.le_refl _) _) 22 _ 1 24 Try.underlying88 info_bs rfl (by omega) _ _ _ [] rfl (own_empty _ _ _ _ (Nat.le_refl _)) _ _ _ _ rfl (HC.out.alloc _) (fun u hu => hone u (List.mem_of_mem_drop hu)) L (vs.drop 1) (by omega) rfl (by unfold maxLen; omega) (by omega) ?_
               intro A4 c4 w4 hown4 hb4 hg4 ho4
               have hblk4 := heap_fr (S := fun _ => False) Hat.out.blk (Fr.of_bel hb4) (fun h => h)
               have g0 := cell_of_row w4 p 0 _ _ _ hblk4
               have g1 := cell_of_row w4 p 1 _ _ _ hblk4
               have k0 := frozen_of_row w4 p 0 _ _ hblk4
               have k1 := frozen_of_row w4 p 1 _ _ hblk4
               simp at g0 g1
               clear hg4 ho4 hblk4))
          obtain ⟨hd, hfrd⟩ := rstep_done Hat.out HL.out hb4 hBr hown4
          rw [List.drop_drop] at hd
          have hnew := RefR.c1 ⟨A4, c4, _, hd⟩
          have hsz4 := hb4.size
          have hszr := HF.out.size
          refine ⟨⟨j + 1, _, by omega, Lib.hid ⟨A4, c4, _, by rw [show first + ((j + 1 : Nat) : Int) = first + (j : Int) + 1 from by omega]; exact hd⟩, Lib.hid (HF.out.trans hfrd (fun k h1 h2 => ?_)), Lib.hid (fun k h1 => ?_)⟩, ?_⟩
          · rcases HK.out k h2 with h3 | h3
            · exact h3
            · omega
          · rcases h1 with h1 | h1
            · exact HK.out k h1
            · exact .inr (by omega)
          · rw [firstOf_eq hnew, firstOf_eq d1]
            omega
    · obtain rfl : j = g := by omega
      have t2 : ¬ first + (j : Int) ≤ n := by have := Hn.out; omega
      obtain ⟨N1, HN1⟩ : ∃ N1 : Nat, Hid ((N1 : Int) = min ((bs.length - j : Nat) : Int) win) := ⟨(min ((bs.length - j : Nat) : Int) win).toNat, Lib.hid (by omega)⟩
      have hwas : Rd wr 1 (some ad) N0 c1 (intsV (from_ first N0)) := hr1.fr HF.out (fun a e hF => by injection e with e; subst e; have := HF0.out _ hF; omega)
      have Hwas := Lib.hid hwas
      clear hwas
      have hjl : (j : Int) ≤ bs.length := by have := HN0.out; omega
      go_wp2_with (first
        | (go_at_call 59
           (with_reducible refine (c_rNumbers HR.out (by simp; omega) hw hw2 (by omega) (by omega) N1 (by have := HN1.out; simp; omega)).mono ?_)
           rintro e w3 ⟨A3, c3, rfl, hown3, hb3⟩))
      have HW3 := Lib.hid (Hwas.out.bel hb3)
      have HR3 := Lib.hid (HR.out.bel hb3)
      have HF3 := Lib.hid (HF.out.trans (Fr.of_bel (S := F) hb3) (fun _ _ h => h))
      have HO3 := Lib.hid hown3.rd
      have hsz3 : w.heap.size ≤ w3.heap.size := by have := HF3.out.size; omega
      clear Hwas HR HF hown3 hb3 d1 hr0
      go_loopw [6, 8, 57] (fun v _ x wl => ∃ (k : Nat) (A2 : Option Addr) (c2 : Nat), k ≤ N1 ∧ x = .int .i64 (k : Int) ∧ v = .slice A2 (k - (N0 - j)) c2 ∧ Own wl w3.heap.size 3 1 A2 (k - (N0 - j)) c2 (intsV (from_ (first + N0) (k - (N0 - j)))) ∧ Below w3.heap.size w3 wl) (fun _ _ x _ => N1 - (intOf x).toNat)
      case atStart => exact ⟨0, none, 0, by omega, rfl, by rw [Nat.zero_sub], by rw [Nat.zero_sub]; exact World.ownsRow_nil _ _ _ _, Below.refl _ _⟩
      case round =>
        obtain ⟨k, A2, c2, hk, rfl, rfl, hown, hbl⟩ := hrel
        have hN1 : N1 ≤ 64 := by have := HN1.out; omega
        by_cases hlt2 : k < N1
        · obtain ⟨adk, zk, rfl, hzk, hcellk⟩ := rd_ints_at (HO3.out.bel hbl) hlt2
          obtain ⟨adl, zl, hAl, hzl, hcelll⟩ := rd_ints_at (HW3.out.bel hbl) (k := N0 - 1) (by omega)
          injection hAl with hAl
          subst hAl
          have hcelll2 := hcelll
          rw [show N0 - 1 = ((N0 : Int) - 1).toNat from by omega] at hcelll
          have ezk := Lib.hid (from_get hzk.out)
          have ezl := Lib.hid (from_get hzl.out)
          clear hzk hzl
          by_cases hin : k < N0 - j
          · have t3 : ¬ zl < zk := by have := ezk.out; have := ezl.out; omega
            have hk0 : k - (N0 - j) = 0 := by omega
            rw [hk0] at hown ⊢
            go_wp2_with fail
            go_roundw
            case rel =>
              have hk1 : k + 1 - (N0 - j) = 0 := by omega
              exact ⟨k + 1, A2, c2, by omega, by go_num, by rw [hk1], by rw [hk1]; exact hown, hbl⟩
            case measure => simp [intOf] <;> omega
          · have t3 : zl < zk := by have := ezk.out; have := ezl.out; omega
            obtain ⟨q, hq⟩ : ∃ q, k - (N0 - j) = q := ⟨_, rfl⟩
            rw [hq] at hown ⊢
            have Hq := Lib.hid hq
            have hq64 : q ≤ 64 := by omega
            clear hq
            go_wp2_with (first
              | (at_builtin
                 refine wpL_append _ rfl (.tmp 69) (.tmp 71) _ rfl w3 w3.heap.size (bel_alloc hbl hbl.size _) (size_alloc_le hbl.size _) 3 _ 1 8 Try.underlying78 info_int rfl (by omega) _ _ _ _ rfl (hown.alloc _) _ _ _ _ rfl (rd_one _ _ _) (by simp [Value.oneCell']) (q + 1) (intsV (from_ (first + N0) (q + 1))) rfl (by rw [from_succ, intsV_append, show zk = first + (N0 : Int) + (q : Int) from by have := ezk.out; have := Hq.out; omega]; rfl) (by unfold maxLen; omega) (by omega) ?_
                 intro A5 c5 w5 hown5 hb5 hg5 ho5))
            clear hg5 ho5
            go_wp2
            go_roundw
            case rel =>
              have hk1 : k + 1 - (N0 - j) = q + 1 := by have := Hq.out; omega
              exact ⟨k + 1, A5, c5, by omega, by go_num, by rw [hk1], by rw [hk1]; exact hown5, hb5⟩
            case measure => simp [intOf] <;> omega
        · obtain rfl : k = N1 := by omega
          have hNN : k - (N0 - j) = N := by have := HN.out; have := HN1.out; omega
          rw [hNN] at hown ⊢
          go_wp2_with fail
          go_ret
          refine ⟨A2, c2, rfl, hown.rd, fun ad e => ?_, F', HR3.out.bel hbl, ?_, fun k h => ?_⟩
          · have := (hown.at0 ad e).1; omega
          · exact ((Fr.of_bel (S := F) hb1).trans HF3.out (fun _ _ h => h)).trans (Fr.of_bel (S := F) hbl) (fun _ _ h => h)
          · rcases HK.out k h with h1 | h1
            · exact .inl h1
            · exact .inr (by omega)
end
end Go.Proofs.Ytlfphoablloodaa.Outbox
