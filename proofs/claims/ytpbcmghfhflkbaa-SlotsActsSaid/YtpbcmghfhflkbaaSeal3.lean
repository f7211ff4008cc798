/- Contracts of the package seal: Put. Conditions: the bytes are not beyond what a machine holds. -/
import Derived.Test.YtpbcmghfhflkbaaSeal2
set_option linter.unusedVariables false
set_option linter.unusedSimpArgs false
namespace Go.Proofs.Ytpbcmghfhflkbaa.Seal
open Go.RowKit Tw
open Crc (le sealed le_length sealed_length)
set_option maxHeartbeats 400000

theorem splice_one (n : Nat) (b : List UInt8) (hb : b.length = n) : splice (bytesV (List.replicate (n + 4) 0)) 0 (bytesV b) = bytesV (b ++ List.replicate 4 0) := by
  simp [splice, bytesV, ← hb]
theorem splice_two (n : Nat) (l4 b : List UInt8) (hb : b.length = n) (h4 : l4.length = 4) : splice (bytesV (b ++ List.replicate 4 0)) n (bytesV l4) = bytesV (b ++ l4) := by
  simp [splice, bytesV, ← hb, h4]
theorem c_Put (A : Option Addr) (n c : Nat) (b : List UInt8) (w : World) (hb : Byt w A n c b) (hn : n ≤ 140737488351000) :
    Calls Try.prog 164 #[.slice A n c] w fun e w' => ∃ A2 c2, e = .returned (.slice A2 (n + 4) c2) ∧ Own w' w.heap.size 5 1 A2 (n + 4) c2 (bytesV (sealed b)) ∧ Below w.heap.size w w' := by
  have Hb := Lib.hid hb
  have hbl := hb.blen
  have Hbl := Lib.hid hbl
  clear hbl
  have hl4 := le_length 4 (Crc.sum b)
  have Hs : Hid (sealed b = b ++ le 4 (Crc.sum b)) := Lib.hid rfl
  generalize hle : le 4 (Crc.sum b) = l4 at *
  have Hle := Lib.hid hle
  clear hle
  have h4 : (Try.prog.info? 311).map (·.size) = some (bytesV l4).toArray.size := by rw [List.size_toArray, bytesV_length, hl4]; kernel_rfl
  have H4 := Lib.hid h4
  have Hl4 := Lib.hid hl4
  clear h4 hl4
  go_enter Try.func164, Try.ntmps164
  go_wp2_with (first
    | (go_at_call 217
       (with_reducible refine (c_sum _ _ _ b _ hb).mono ?_)
       rintro e w1 ⟨rfl, hb1⟩
       rw [Hle.out])
    | (refine wpList_store_row rfl 311 (.tmp 3) (.tmp 6) rfl w1.heap.size _ rfl rfl _ _ (heap_alloc_new _ _) H4.out (by simp [bytesV_length, Hl4.out]) (Array.all_eq_true_iff_forall_mem.2 fun v hv => bytesV_one v (by simpa using hv)) ?_
       have g1 := setRow_heap _ w1.heap.size _ (bytesV l4).toArray _ _ (heap_alloc_new w1 (.cells #[.int .u8 0, .int .u8 0, .int .u8 0, .int .u8 0] 311))
       have B1 : Below w.heap.size w ((w1.alloc (.cells #[.int .u8 0, .int .u8 0, .int .u8 0, .int .u8 0] 311)).setRow w1.heap.size (bytesV l4).toArray) := (bel_alloc hb1 hb1.size _).grown (grown_setRow _ _ _) (size_alloc_le hb1.size _) (by rintro k ⟨⟩; exact hb1.size)
       generalize hs0 : w1.heap.size = s0 at *
       have hs0w : w.heap.size ≤ s0 := hs0 ▸ hb1.size
       clear hb1
       generalize ((w1.alloc (.cells #[.int .u8 0, .int .u8 0, .int .u8 0, .int .u8 0] 311)).setRow s0 (bytesV l4).toArray) = W1 at *
       clear hs0)
    | (at_make
       refine wpL_make _ rfl _ _ _ rfl w w.heap.size B1 B1.size 5 _ 1 1 Try.underlying96 Num.info_u8 _ _ _ _ (n + 4) rfl rfl (by omega) (by omega) (by omega) (by unfold maxLen; omega) _ (made_u8 (n + 4)) ?_
       intro w2 hown2 hb2 hg2
       have g2 := heap_grown g1 hg2 (by simp)
       have hs0l := heap_lt g1
       have k2 := hown2.heap
       have hgB := hb2.size
       have hgW := B1.size
       generalize hg0 : W1.heap.size = g at *
       clear g1 B1 hown2 hg2 hg0))
  have Hb2 := Lib.hid (hb.bel hb2)
  have hgl := heap_lt k2
  have hs0g : s0 ≠ g := by omega
  have hdrop := splice_two n l4 b Hbl.out Hl4.out
  refine wp_region_phi (by kernel_rfl) 6 ((some g)) (fun i_ => match i_ with | 3 => true | _ => false) (fun i_ v wz => match i_ with
    | 0 => v = .slice (some ⟨g, 0, none⟩) (n + 4) (n + 4)
    | 1 => v = .slice (some ⟨g, 0, none⟩) (n + 4) (n + 4)
    | 2 => v = .slice A n c
    | 3 => v = .int .i64 n ∧ wz.heap[g]? = some (.cells (bytesV (b ++ List.replicate 4 0)).toArray 5 (0, 0))
    | 4 => v = .slice (some ⟨g, n, none⟩) 4 4
    | 5 => v = .slice (some ⟨s0, 0, none⟩) 4 4
    | _ => True) (by kernel_rfl) ?_ ?_ ?_
  · (repeat' (first | exact allLt_zero | refine allLt_succ ?_ ?_))
    · exact fun _ _ _ h _ => h
    · exact fun _ _ _ h _ => h
    · exact fun _ _ _ h _ => h
    · intro v w1 w2 h hg
      rw [show kindRow _ _ = none from by kernel_rfl] at hg
      exact ⟨h.1, heap_grown h.2 hg (by simp)⟩
    · exact fun _ _ _ h _ => h
    · exact fun _ _ _ h _ => h
  · (repeat' (first | exact allLt_zero | refine allLt_succ ?_ ?_))
    · intro a w' hf he
      have k4 : a.tmps.getD 4 undef = .slice (some ⟨g, 0, none⟩) (n + 4) (n + 4) := hf.var (by kernel_rfl) rfl
      refine wpOp_step rfl (fun K hK => ?_)
      go_simp
      exact hK _ _ ⟨_, rfl, rfl, World.grownBy.refl _ _⟩
    · intro a w' hf he
      have k4 : a.tmps.getD 4 undef = .slice (some ⟨g, 0, none⟩) (n + 4) (n + 4) := hf.var (by kernel_rfl) rfl
      refine wpOp_step rfl (fun K hK => ?_)
      go_simp
      exact hK _ _ ⟨_, rfl, rfl, World.grownBy.refl _ _⟩
    · intro a w' hf he
      have k0 : a.tmps.getD 0 undef = .slice A n c := hf.var (by kernel_rfl) rfl
      refine wpOp_step rfl (fun K hK => ?_)
      go_simp
      exact hK _ _ ⟨_, rfl, rfl, World.grownBy.refl _ _⟩
    · intro a w' hf he
      have f1 : a.tmps.getD 12 undef = .slice (some ⟨g, 0, none⟩) (n + 4) (n + 4) := he 1 (by kernel_rfl)
      have f2 : a.tmps.getD 13 undef = .slice A n c := he 2 (by kernel_rfl)
      rw [show kindRow _ _ = none from by kernel_rfl] at hf
      refine wpOp_step rfl (fun K hK => ?_)
      refine wp_copy_splice (.tmp 12) (.tmp 13) 96 96 rfl 5 Try.underlying96 (by kernel_rfl) _ A (n + 4) (n + 4) n c f1 f2 g 0 _ 5 ((hf.bel.block _ hgl).trans k2) (bytesV b) (by rw [bytesV_length, Hbl.out]; exact (Nat.min_eq_left (by omega)).symm) (fun h0 => ⟨rfl, (Hb2.out.bel hf.bel).src (by rw [bytesV_length, Hbl.out] at h0; exact h0)⟩) (by simp [bytesV, Hbl.out]) bytesV_one ?_
      intro w3 h3 hgr
      rw [splice_one n b Hbl.out] at h3
      exact hK _ _ ⟨_, rfl, ⟨by rw [bytesV_length, Hbl.out]; rfl, h3⟩, hgr⟩
    · intro a w' hf he
      have f0 : a.tmps.getD 11 undef = .slice (some ⟨g, 0, none⟩) (n + 4) (n + 4) := he 0 (by kernel_rfl)
      obtain ⟨hv3, hr3⟩ := he 3 (by kernel_rfl)
      have f3 : a.tmps.getD 14 undef = _ := hv3
      rw [show kindRow _ _ = ((some g)) from by kernel_rfl] at hf
      refine wpOp_step rfl (fun K hK => ?_)
      go_simp
      rw [if_pos (by omega)]
      exact hK _ _ ⟨_, rfl, rfl, World.grownBy.refl _ _⟩
    · intro a w' hf he
      have k3 : a.tmps.getD 3 undef = .pointer (some ⟨s0, 0, none⟩) := hf.var (by kernel_rfl) rfl
      refine wpOp_step rfl (fun K hK => ?_)
      go_simp
      exact hK _ _ ⟨_, rfl, rfl, World.grownBy.refl _ _⟩
  · intro a w' hf he
    obtain ⟨u11, f0⟩ : ∃ u, a.tmps.getD 11 undef = u := ⟨_, rfl⟩
    obtain ⟨u12, f1⟩ : ∃ u, a.tmps.getD 12 undef = u := ⟨_, rfl⟩
    obtain ⟨u13, f2⟩ : ∃ u, a.tmps.getD 13 undef = u := ⟨_, rfl⟩
    obtain ⟨hv3, hr3⟩ := he 3 (by decide)
    have f3 : a.tmps.getD 14 undef = _ := hv3
    have f4 : a.tmps.getD 15 undef = .slice (some ⟨g, n, none⟩) 4 4 := he 4 (by decide)
    have f5 : a.tmps.getD 16 undef = .slice (some ⟨s0, 0, none⟩) 4 4 := he 5 (by decide)
    have hlit := hf.lit ((11, u11) :: (12, u12) :: (13, u13) :: (14, _) :: (15, .slice (some ⟨g, n, none⟩) 4 4) :: (16, .slice (some ⟨s0, 0, none⟩) 4 4) :: []) (by kernel_rfl) ⟨f0, f1, f2, f3, f4, f5, trivial⟩
    have hB := hf.grown
    clear he hf f0 f1 f2 f3 f4 f5 hv3
    subst hlit
    simp only [putAll_nil, putAll_cons, Act.put, List.setIfInBounds_toArray, List.set_cons_zero, List.set_cons_succ]
    simp only [List.drop_succ_cons, List.drop_zero]
    refine wpList_plain rfl fun _ hK => wp_copy_splice (.tmp 15) (.tmp 16) 96 96 rfl 5 Try.underlying96 (by kernel_rfl) _ _ 4 4 4 4 rfl rfl g n _ 5 hr3 (bytesV l4) (by rw [bytesV_length, Hl4.out]; rfl) (fun _ => ⟨rfl, (rd_of_heap (heap_grown (w := w2.drew) g2 hB (by simpa using hs0g)) (by rw [bytesV_length, Hl4.out]) (by simp [maxLen])).src (by omega)⟩) (by simp [bytesV, Hbl.out, Hl4.out]) bytesV_one ?_
    intro w5 h5 hgr
    rw [hdrop] at h5
    refine hK _ _ ?_
    clear hK
    simp only [Act.put, List.setIfInBounds_toArray, List.set_cons_zero, List.set_cons_succ]
    have hbw : Below w.heap.size w w5 := ((show Below w.heap.size w w2.drew from ⟨hb2.os, hb2.tape, hb2.output, hb2.size, hb2.block⟩).grown hB hb2.size (by rintro k ⟨⟩; exact hgW)).grown hgr (Nat.le_trans hb2.size hB.size) (by rintro k ⟨⟩; exact hgW)
    go_wp2_with fail
    go_ret
    refine ⟨some ⟨g, 0, none⟩, n + 4, rfl, ?_, hbw⟩
    rw [Hs.out]
    exact own_of_heap h5 hgW (by simp [bytesV, Hbl.out, Hl4.out]) (by unfold maxLen; omega)
end Go.Proofs.Ytpbcmghfhflkbaa.Seal
