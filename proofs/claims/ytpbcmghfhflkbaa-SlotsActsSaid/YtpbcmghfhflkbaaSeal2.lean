/- Contracts of the package seal: the sum of bytes. Conditions: none. -/
import Derived.Test.YtpbcmghfhflkbaaSeal
import Derived.Test.YtpbcmghfhflkbaaCopy
import Derived.Test.YtpbcmghfhflkbaaRegion
set_option linter.unusedVariables false
set_option linter.unusedSimpArgs false
namespace Go.Proofs.Ytpbcmghfhflkbaa.Seal
open Go.RowKit Tw
open Crc (le sealed le_length sealed_length)
set_option maxHeartbeats 400000

theorem be_le (S : Nat) : ∃ y0 y1 y2 y3 : UInt8, Num.be 4 S = [y3, y2, y1, y0] ∧ le 4 S = [y0, y1, y2, y3] := by
  refine ⟨UInt8.ofNat (S / 256 ^ 0), UInt8.ofNat (S / 256 ^ 1), UInt8.ofNat (S / 256 ^ 2), UInt8.ofNat (S / 256 ^ 3), rfl, ?_⟩
  have e : ∀ x : Nat, UInt8.ofNat (x % 256) = UInt8.ofNat x := fun x => by
    apply UInt8.toNat_inj.1
    simp
  simp [le, e]

theorem c_sum (A : Option Addr) (n c : Nat) (b : List UInt8) (w : World) (hb : Byt w A n c b) :
    Calls Try.prog 217 #[.slice A n c] w fun e w' => e = .returned (.agg (bytesV (le 4 (Crc.sum b))).toArray) ∧ Below w.heap.size w w' := by
  have Hb := Lib.hid hb
  obtain ⟨y0, y1, y2, y3, hbe, hle⟩ := be_le (Crc.sum b)
  rw [hle]
  have Hbe := Lib.hid hbe
  clear hbe hle
  go_enter Try.func217, Try.ntmps217
  go_wp2_with fail
  have hg1 : ((w.alloc (.cells #[.int .u8 0, .int .u8 0, .int .u8 0, .int .u8 0] 311)).alloc (.cells #[.int .u8 0, .int .u8 0, .int .u8 0, .int .u8 0] 311)).heap[w.heap.size + 1]? = some (.cells [Value.int .u8 0, .int .u8 0, .int .u8 0, .int .u8 0].toArray 311 (0, 0)) := by
    have h := heap_alloc_new (w.alloc (.cells #[.int .u8 0, .int .u8 0, .int .u8 0, .int .u8 0] 311)) (.cells #[.int .u8 0, .int .u8 0, .int .u8 0, .int .u8 0] 311)
    simpa using h
  have hg2 : ((w.alloc (.cells #[.int .u8 0, .int .u8 0, .int .u8 0, .int .u8 0] 311)).alloc (.cells #[.int .u8 0, .int .u8 0, .int .u8 0, .int .u8 0] 311)).heap[w.heap.size]? = some (.cells [Value.int .u8 0, .int .u8 0, .int .u8 0, .int .u8 0].toArray 311 (0, 0)) := by
    have h := heap_alloc_new w (.cells #[.int .u8 0, .int .u8 0, .int .u8 0, .int .u8 0] 311)
    rw [Below.heap_alloc _ _ _ (by simp)]
    simpa using h
  have hB0 : Below w.heap.size w ((w.alloc (.cells #[.int .u8 0, .int .u8 0, .int .u8 0, .int .u8 0] 311)).alloc (.cells #[.int .u8 0, .int .u8 0, .int .u8 0, .int .u8 0] 311)) := ((Below.refl _ _).alloc (Nat.le_refl _) _).alloc (by simp) _
  have Hb0 := Lib.hid (hb.bel hB0)
  generalize ((w.alloc (.cells #[.int .u8 0, .int .u8 0, .int .u8 0, .int .u8 0] 311)).alloc (.cells #[.int .u8 0, .int .u8 0, .int .u8 0, .int .u8 0] 311)) = W0 at *
  have hlt1 : w.heap.size + 1 < W0.heap.size := heap_lt hg1
  refine wp_region_phi (by kernel_rfl) 5 ((some (w.heap.size + 1))) (fun i_ => match i_ with | 4 => true | _ => false) (fun i_ v wz => match i_ with
    | 0 => v = .slice (some ⟨w.heap.size + 1, 0, none⟩) 4 4
    | 1 => v = .slice A n c
    | 2 => v = .int .u32 (Crc.sum b : Nat)
    | 3 => ∃ A3 c3, v = .slice A3 4 c3 ∧ Own wz W0.heap.size 5 1 A3 4 c3 (bytesV (Num.be 4 (Crc.sum b)))
    | 4 => v = .int .i64 4 ∧ wz.heap[w.heap.size + 1]? = some (.cells (bytesV (Num.be 4 (Crc.sum b))).toArray 311 (0, 0))
    | _ => True) (by kernel_rfl) ?_ ?_ ?_
  · (repeat' (first | exact allLt_zero | refine allLt_succ ?_ ?_))
    · exact fun _ _ _ h _ => h
    · exact fun _ _ _ h _ => h
    · exact fun _ _ _ h _ => h
    · intro v w1 w2 h hg
      rw [show kindRow _ _ = ((some (w.heap.size + 1))) from by kernel_rfl] at hg
      obtain ⟨A3, c3, rfl, hr⟩ := h
      exact ⟨A3, c3, rfl, hr.kept hg (own_apart hr (by rintro k ⟨⟩; omega))⟩
    · intro v w1 w2 h hg
      rw [show kindRow _ _ = none from by kernel_rfl] at hg
      exact ⟨h.1, heap_grown h.2 hg (by simp)⟩
  · (repeat' (first | exact allLt_zero | refine allLt_succ ?_ ?_))
    · intro a w' hf he
      have k3 : a.tmps.getD 3 undef = .pointer (some ⟨w.heap.size + 1, 0, none⟩) := hf.var (by kernel_rfl) rfl
      refine wpOp_step rfl (fun K hK => ?_)
      go_simp
      exact hK _ _ ⟨_, rfl, rfl, World.grownBy.refl _ _⟩
    · intro a w' hf he
      have k0 : a.tmps.getD 0 undef = .slice A n c := hf.var (by kernel_rfl) rfl
      refine wpOp_step rfl (fun K hK => ?_)
      go_simp
      exact hK _ _ ⟨_, rfl, rfl, World.grownBy.refl _ _⟩
    · intro a w' hf he
      have f1 : a.tmps.getD 5 undef = .slice A n c := he 1 (by kernel_rfl)
      rw [show kindRow _ _ = none from by kernel_rfl] at hf
      refine wpOp_step rfl (fun K hK => ?_)
      go_simp
      refine (Crc.c_Sum _ _ _ b _ (Hb0.out.bel hf.bel)).mono ?_
      rintro e w2 ⟨rfl, hb2⟩
      exact hK _ _ ⟨_, rfl, rfl, grown_bel hb2⟩
    · intro a w' hf he
      have f2 : a.tmps.getD 6 undef = .int .u32 (Crc.sum b : Nat) := he 2 (by kernel_rfl)
      rw [show kindRow _ _ = none from by kernel_rfl] at hf
      refine wpOp_step rfl (fun K hK => ?_)
      go_simp
      refine (Num.c_Put32 none 0 0 [] _ (Crc.sum b) 4 _ Rd.nil_ rfl (Crc.sum_lt b) rfl (by omega)).mono ?_
      rintro e w2 ⟨A3, c3, rfl, hown, hb2⟩
      exact hK _ _ ⟨_, rfl, ⟨A3, c3, rfl, hown.mono hf.bel.size⟩, grown_bel hb2⟩
    · intro a w' hf he
      have f0 : a.tmps.getD 4 undef = .slice (some ⟨w.heap.size + 1, 0, none⟩) 4 4 := he 0 (by kernel_rfl)
      obtain ⟨A3, c3, hv3, hr3⟩ := he 3 (by kernel_rfl)
      have f3 : a.tmps.getD 7 undef = _ := hv3
      rw [show kindRow _ _ = none from by kernel_rfl] at hf
      refine wpOp_step rfl (fun K hK => ?_)
      refine wp_copy_splice (.tmp 4) (.tmp 7) 96 96 rfl 5 Try.underlying96 (by kernel_rfl) _ A3 4 4 4 c3 f0 f3 (w.heap.size + 1) 0 _ 311 ((hf.bel.block _ hlt1).trans hg1) (bytesV (Num.be 4 (Crc.sum b))) (by rw [bytesV_length, Num.be_length]; rfl) (fun _ => ⟨rfl, hr3.rd.src (by omega)⟩) (by rw [bytesV_length, Num.be_length]; simp) bytesV_one ?_
      intro w2 h2 hgr
      rw [splice_all (by rw [bytesV_length, Num.be_length]; rfl)] at h2
      exact hK _ _ ⟨_, rfl, ⟨by rw [bytesV_length, Num.be_length]; rfl, h2⟩, hgr⟩
  · intro a w' hf he
    obtain ⟨u4, f0⟩ : ∃ u, a.tmps.getD 4 undef = u := ⟨_, rfl⟩
    obtain ⟨u5, f1⟩ : ∃ u, a.tmps.getD 5 undef = u := ⟨_, rfl⟩
    obtain ⟨u6, f2⟩ : ∃ u, a.tmps.getD 6 undef = u := ⟨_, rfl⟩
    obtain ⟨u7, f3⟩ : ∃ u, a.tmps.getD 7 undef = u := ⟨_, rfl⟩
    obtain ⟨hv4, hr4⟩ := he 4 (by decide)
    have f4 : a.tmps.getD 8 undef = _ := hv4
    have hlit := hf.lit ((4, u4) :: (5, u5) :: (6, u6) :: (7, u7) :: (8, _) :: []) (by kernel_rfl) ⟨f0, f1, f2, f3, f4, trivial⟩
    have hB := hf.grown
    clear he hf f0 f1 f2 f3 f4 hv4
    subst hlit
    simp only [putAll_nil, putAll_cons, Act.put, List.setIfInBounds_toArray, List.set_cons_zero, List.set_cons_succ]
    simp only [List.drop_succ_cons, List.drop_zero]
    rw [Hbe.out] at hr4
    simp only [bytesV_cons, bytesV_nil] at hr4 ⊢
    have c0 : w'.cell? ⟨w.heap.size + 1, 0, none⟩ = some (.int .u8 (y3.toNat : Int)) := by simp [World.cell?, hr4]
    have c1 : w'.cell? ⟨w.heap.size + 1, 1, none⟩ = some (.int .u8 (y2.toNat : Int)) := by simp [World.cell?, hr4]
    have c2 : w'.cell? ⟨w.heap.size + 1, 2, none⟩ = some (.int .u8 (y1.toNat : Int)) := by simp [World.cell?, hr4]
    have c3 : w'.cell? ⟨w.heap.size + 1, 3, none⟩ = some (.int .u8 (y0.toNat : Int)) := by simp [World.cell?, hr4]
    clear hg1
    have Hlt1 := Lib.hid hlt1
    clear hlt1
    have hg2' : w'.heap[w.heap.size]? = some (.cells [Value.int .u8 0, .int .u8 0, .int .u8 0, .int .u8 0].toArray 311 (0, 0)) := heap_grown (w := W0.drew) hg2 hB (by simp)
    have hBw : Below w.heap.size w w' := (show Below w.heap.size w W0.drew from ⟨hB0.os, hB0.tape, hB0.output, hB0.size, hB0.block⟩).grown hB hB0.size (by rintro k ⟨⟩; omega)
    clear hB hg2
    have hu4 : (Try.prog.info? 311).map (·.size) = some 4 := by kernel_rfl
    go_wp2_with (first
      | (refine wpL_store_int rfl 5 (.tmp 17) (.tmp 10) rfl _ 0 rfl .u8 _ rfl (by kernel_rfl) _ _ hr4 (by simp) ?_
         intro w5 h5 hgr5
         simp only [List.setIfInBounds_toArray, List.set_cons_zero, List.set_cons_succ] at h5)
      | (refine wpL_store_int rfl 5 (.tmp 18) (.tmp 12) rfl _ 1 rfl .u8 _ rfl (by kernel_rfl) _ _ h5 (by simp) ?_
         intro w6 h6 hgr6
         simp only [List.setIfInBounds_toArray, List.set_cons_zero, List.set_cons_succ] at h6)
      | (refine wpL_store_int rfl 5 (.tmp 19) (.tmp 14) rfl _ 2 rfl .u8 _ rfl (by kernel_rfl) _ _ h6 (by simp) ?_
         intro w7 h7 hgr7
         simp only [List.setIfInBounds_toArray, List.set_cons_zero, List.set_cons_succ] at h7)
      | (refine wpL_store_int rfl 5 (.tmp 20) (.tmp 16) rfl _ 3 rfl .u8 _ rfl (by kernel_rfl) _ _ h7 (by simp) ?_
         intro w8 h8 hgr8
         simp only [List.setIfInBounds_toArray, List.set_cons_zero, List.set_cons_succ] at h8
         have hg8 := ((hgr5.trans hgr6).trans hgr7).trans hgr8
         have h82 := heap_grown hg2' hg8 (by simp)
         clear hgr5 hgr6 hgr7 hgr8 h5 h6 h7 c0 c1 c2 c3)
      | (refine wpList_load_row rfl 311 (.tmp 3) rfl _ rfl _ _ _ _ h8 Try.underlying311 rfl hu4 ?_)
      | (refine wpList_store_row rfl 311 (.tmp 2) (.tmp 21) rfl _ _ rfl rfl _ _ h82 hu4 rfl (by simp [Value.oneCell']) ?_))
    (try simp only [Exit.inBlock, Exit.then])
    refine bodyPost_ret (results_cell_row rfl _ _ w.heap.size _ _ (0, 0) _ rfl (setRow_heap _ _ _ _ _ _ h82) Try.underlying311 rfl hu4) rfl ?_
    exact ⟨rfl, (hBw.grown hg8 hBw.size (by rintro k ⟨⟩; omega)).grown (grown_setRow _ _ _) (Nat.le_trans hBw.size hg8.size) (by rintro k ⟨⟩; omega)⟩
end Go.Proofs.Ytpbcmghfhflkbaa.Seal
