/- Contracts of the package seal, and of its reference: Record. Conditions: none. -/
import Derived.Test.YtpbcmghfhflkbaaSeal3
set_option linter.unusedVariables false
set_option linter.unusedSimpArgs false
namespace Go.Proofs.Ytpbcmghfhflkbaa.Seal
open Go.RowKit Tw
open Crc (le sealed le_length sealed_length)
set_option maxHeartbeats 400000

/-- the bytes of a record -/
def rec (n p : Nat) : List UInt8 := sealed (Num.be 4 n ++ Num.be 8 p)
theorem rec_length (n p : Nat) : (rec n p).length = 16 := by simp [rec, sealed_length, Num.be_length]
def z16 : List Value := [.int .u8 0, .int .u8 0, .int .u8 0, .int .u8 0, .int .u8 0, .int .u8 0, .int .u8 0, .int .u8 0, .int .u8 0, .int .u8 0, .int .u8 0, .int .u8 0, .int .u8 0, .int .u8 0, .int .u8 0, .int .u8 0]
theorem z16_bytes : z16 = bytesV (List.replicate 16 0) := rfl

theorem two_alloc (w : World) (o : Obj) : ∃ w0, w0 = (w.alloc o).alloc o ∧ w0.heap[w.heap.size]? = some o ∧ w0.heap[w.heap.size + 1]? = some o ∧ Below w.heap.size w w0 := by
  refine ⟨_, rfl, ?_, ?_, ((Below.refl _ _).alloc (Nat.le_refl _) _).alloc (by simp) _⟩
  · rw [Below.heap_alloc _ _ _ (by simp)]
    exact heap_alloc_new w o
  · have h := heap_alloc_new (w.alloc o) o
    simpa using h

theorem c_Record (n p : Nat) (w : World) (hn : n < 4294967296) (hp : p < 18446744073709551616) :
    Calls Try.prog 95 #[.int .u32 (n : Int), .int .u64 (p : Int)] w fun e w' => e = .returned (.agg (bytesV (rec n p)).toArray) ∧ Below w.heap.size w w' := by
  have Hl := Lib.hid (rec_length n p)
  have H16 : Hid ((Try.prog.info? 35).map (·.size) = some (bytesV (rec n p)).toArray.size) := Lib.hid (by rw [List.size_toArray, bytesV_length, Hl.out]; kernel_rfl)
  have hr : Hid (sealed (Num.be 4 n ++ Num.be 8 p) = rec n p) := Lib.hid rfl
  generalize rec n p = L at *
  go_enter Try.func95, Try.ntmps95
  go_wp2_with fail
  obtain ⟨W0, hW0, hg1, hg2, hB0⟩ := two_alloc w (.cells z16.toArray 35)
  have HW : W0 = ((w.alloc (.cells #[.int .u8 0, .int .u8 0, .int .u8 0, .int .u8 0, .int .u8 0, .int .u8 0, .int .u8 0, .int .u8 0, .int .u8 0, .int .u8 0, .int .u8 0, .int .u8 0, .int .u8 0, .int .u8 0, .int .u8 0, .int .u8 0] 35)).alloc (.cells #[.int .u8 0, .int .u8 0, .int .u8 0, .int .u8 0, .int .u8 0, .int .u8 0, .int .u8 0, .int .u8 0, .int .u8 0, .int .u8 0, .int .u8 0, .int .u8 0, .int .u8 0, .int .u8 0, .int .u8 0, .int .u8 0] 35)) := hW0
  rw [← HW]
  clear HW hW0
  have hlt1 : w.heap.size + 1 < W0.heap.size := heap_lt hg2
  have HW0 := hB0.size
  refine wp_region_phi (by kernel_rfl) 7 ((some (w.heap.size + 1))) (fun i_ => match i_ with | 6 => true | _ => false) (fun i_ v wz => match i_ with
    | 0 => v = .slice (some ⟨w.heap.size + 1, 0, none⟩) 16 16
    | 1 => v = .int .u32 (n : Int)
    | 2 => ∃ A3 c3, v = .slice A3 4 c3 ∧ Own wz W0.heap.size 5 1 A3 4 c3 (bytesV (Num.be 4 n))
    | 3 => v = .int .u64 (p : Int)
    | 4 => ∃ A3 c3, v = .slice A3 12 c3 ∧ Own wz W0.heap.size 5 1 A3 12 c3 (bytesV (Num.be 4 n ++ Num.be 8 p))
    | 5 => ∃ A3 c3, v = .slice A3 16 c3 ∧ Own wz W0.heap.size 5 1 A3 16 c3 (bytesV L)
    | 6 => v = .int .i64 16 ∧ wz.heap[w.heap.size + 1]? = some (.cells (bytesV L).toArray 35 (0, 0))
    | _ => True) (by kernel_rfl) ?_ ?_ ?_
  · (repeat' (first | exact allLt_zero | refine allLt_succ ?_ ?_))
    · exact fun _ _ _ h _ => h
    · exact fun _ _ _ h _ => h
    · intro v w1 w2 h hg
      rw [show kindRow _ _ = ((some (w.heap.size + 1))) from by kernel_rfl] at hg
      obtain ⟨A3, c3, rfl, hr⟩ := h
      exact ⟨A3, c3, rfl, hr.kept hg (own_apart hr (by rintro k ⟨⟩; omega))⟩
    · exact fun _ _ _ h _ => h
    · intro v w1 w2 h hg
      rw [show kindRow _ _ = ((some (w.heap.size + 1))) from by kernel_rfl] at hg
      obtain ⟨A3, c3, rfl, hr⟩ := h
      exact ⟨A3, c3, rfl, hr.kept hg (own_apart hr (by rintro k ⟨⟩; omega))⟩
    · intro v w1 w2 h hg
      rw [show kindRow _ _ = ((some (w.heap.size + 1))) from by kernel_rfl] at hg
      obtain ⟨A3, c3, rfl, hr⟩ := h
      exact ⟨A3, c3, rfl, hr.kept hg (own_apart hr (by rintro k ⟨⟩; omega))⟩
    · intro v w1 w2 h hg
      rw [show kindRow _ _ = none from by kernel_rfl] at hg
      exact ⟨h.1, heap_grown h.2 hg (by simp)⟩
  · (repeat' (first | exact allLt_zero | refine allLt_succ ?_ ?_))
    · intro a w' hf he
      have k5 : a.tmps.getD 5 undef = .pointer (some ⟨w.heap.size + 1, 0, none⟩) := hf.var (by kernel_rfl) rfl
      refine wpOp_step rfl (fun K hK => ?_)
      go_simp
      exact hK _ _ ⟨_, rfl, rfl, World.grownBy.refl _ _⟩
    · intro a w' hf he
      have k0 : a.tmps.getD 0 undef = .int .u32 (n : Int) := hf.var (by kernel_rfl) rfl
      refine wpOp_step rfl (fun K hK => ?_)
      go_simp
      exact hK _ _ ⟨_, rfl, rfl, World.grownBy.refl _ _⟩
    · intro a w' hf he
      have f1 : a.tmps.getD 7 undef = .int .u32 (n : Int) := he 1 (by kernel_rfl)
      rw [show kindRow _ _ = none from by kernel_rfl] at hf
      refine wpOp_step rfl (fun K hK => ?_)
      go_simp
      refine (Num.c_Put32 none 0 0 [] _ n 4 _ Rd.nil_ rfl hn rfl (by omega)).mono ?_
      rintro e w2 ⟨A3, c3, rfl, hown, hb2⟩
      exact hK _ _ ⟨_, rfl, ⟨A3, c3, rfl, hown.mono hf.bel.size⟩, grown_bel hb2⟩
    · intro a w' hf he
      have k1 : a.tmps.getD 1 undef = .int .u64 (p : Int) := hf.var (by kernel_rfl) rfl
      refine wpOp_step rfl (fun K hK => ?_)
      go_simp
      exact hK _ _ ⟨_, rfl, rfl, World.grownBy.refl _ _⟩
    · intro a w' hf he
      obtain ⟨A2, c2, hv2, hr2⟩ := he 2 (by kernel_rfl)
      have f2 : a.tmps.getD 8 undef = _ := hv2
      have f3 : a.tmps.getD 9 undef = .int .u64 (p : Int) := he 3 (by kernel_rfl)
      rw [show kindRow _ _ = none from by kernel_rfl] at hf
      refine wpOp_step rfl (fun K hK => ?_)
      go_simp
      refine (Num.c_Put64 _ _ _ _ _ p 12 _ hr2.rd rfl hp rfl (by omega)).mono ?_
      rintro e w2 ⟨A3, c3, rfl, hown, hb2⟩
      exact hK _ _ ⟨_, rfl, ⟨A3, c3, rfl, hown.mono hf.bel.size⟩, grown_bel hb2⟩
    · intro a w' hf he
      obtain ⟨A4, c4, hv4, hr4⟩ := he 4 (by kernel_rfl)
      have f4 : a.tmps.getD 10 undef = _ := hv4
      rw [show kindRow _ _ = none from by kernel_rfl] at hf
      refine wpOp_step rfl (fun K hK => ?_)
      go_simp
      refine (c_Put _ 12 _ _ _ hr4.rd (by omega)).mono ?_
      rintro e w2 ⟨A3, c3, rfl, hown, hb2⟩
      rw [hr.out] at hown
      exact hK _ _ ⟨_, rfl, ⟨A3, c3, rfl, hown.mono hf.bel.size⟩, grown_bel hb2⟩
    · intro a w' hf he
      have f0 : a.tmps.getD 6 undef = .slice (some ⟨w.heap.size + 1, 0, none⟩) 16 16 := he 0 (by kernel_rfl)
      obtain ⟨A5, c5, hv5, hr5⟩ := he 5 (by kernel_rfl)
      have f5 : a.tmps.getD 11 undef = _ := hv5
      rw [show kindRow _ _ = none from by kernel_rfl] at hf
      refine wpOp_step rfl (fun K hK => ?_)
      refine wp_copy_splice (.tmp 6) (.tmp 11) 96 96 rfl 5 Try.underlying96 (by kernel_rfl) _ _ 16 16 16 _ f0 f5 (w.heap.size + 1) 0 _ 35 ((hf.bel.block _ hlt1).trans hg2) (bytesV L) (by rw [bytesV_length, Hl.out]; rfl) (fun _ => ⟨rfl, hr5.rd.src (by omega)⟩) (by rw [bytesV_length, Hl.out]; simp [z16]) bytesV_one ?_
      intro w2 h2 hgr
      rw [splice_all (by rw [bytesV_length, Hl.out]; rfl)] at h2
      exact hK _ _ ⟨_, rfl, ⟨by rw [bytesV_length, Hl.out]; rfl, h2⟩, hgr⟩
  · intro a w' hf he
    obtain ⟨u6, f0⟩ : ∃ u, a.tmps.getD 6 undef = u := ⟨_, rfl⟩
    obtain ⟨u7, f1⟩ : ∃ u, a.tmps.getD 7 undef = u := ⟨_, rfl⟩
    obtain ⟨u8, f2⟩ : ∃ u, a.tmps.getD 8 undef = u := ⟨_, rfl⟩
    obtain ⟨u9, f3⟩ : ∃ u, a.tmps.getD 9 undef = u := ⟨_, rfl⟩
    obtain ⟨u10, f4⟩ : ∃ u, a.tmps.getD 10 undef = u := ⟨_, rfl⟩
    obtain ⟨u11, f5⟩ : ∃ u, a.tmps.getD 11 undef = u := ⟨_, rfl⟩
    obtain ⟨hv6, hr6⟩ := he 6 (by decide)
    have f6 : a.tmps.getD 12 undef = _ := hv6
    have hlit := hf.lit ((6, u6) :: (7, u7) :: (8, u8) :: (9, u9) :: (10, u10) :: (11, u11) :: (12, _) :: []) (by kernel_rfl) ⟨f0, f1, f2, f3, f4, f5, f6, trivial⟩
    have hB := hf.grown
    clear he hf f0 f1 f2 f3 f4 f5 f6 hv6
    subst hlit
    simp only [putAll_nil, putAll_cons, Act.put, List.setIfInBounds_toArray, List.set_cons_zero, List.set_cons_succ]
    simp only [List.drop_succ_cons, List.drop_zero]
    have h1' := heap_grown (w := W0.drew) hg1 hB (by simp)
    have hBw : Below w.heap.size w w' := (show Below w.heap.size w W0.drew from ⟨hB0.os, hB0.tape, hB0.output, hB0.size, hB0.block⟩).grown hB hB0.size (by rintro k ⟨⟩; omega)
    clear hB hg1 hg2
    go_wp2_with (first
      | (refine wpList_load_row rfl 35 (.tmp 5) rfl _ rfl _ _ _ _ hr6 Try.underlying35 rfl H16.out ?_)
      | (refine wpList_store_row rfl 35 (.tmp 4) (.tmp 13) rfl _ _ rfl rfl _ _ h1' H16.out (by simp [bytesV_length, Hl.out, z16]) (Array.all_eq_true_iff_forall_mem.2 fun v hv => bytesV_one v (by simpa using hv)) ?_))
    (try simp only [Exit.inBlock, Exit.then])
    refine bodyPost_ret (results_cell_row rfl _ _ w.heap.size _ _ (0, 0) _ rfl (setRow_heap _ _ _ _ _ _ h1') Try.underlying35 rfl H16.out) rfl ?_
    exact ⟨rfl, hBw.grown (grown_setRow _ _ _) hBw.size (by rintro k ⟨⟩; omega)⟩

theorem fill_next {L : List UInt8} {k : Nat} {q : UInt8} (hL : L.length = 16) (hq : L[k]? = some q) (hk : k < 16) : (bytesV (L.take k ++ List.replicate (16 - k) 0)).toArray.setIfInBounds k (.int .u8 (q.toNat : Int)) = (bytesV (L.take (k + 1) ++ List.replicate (16 - (k + 1)) 0)).toArray := by
  rw [Crc.take_snoc hq, List.setIfInBounds_toArray]
  congr 1
  obtain ⟨m, hm⟩ : ∃ m, 16 - k = m + 1 := ⟨15 - k, by omega⟩
  rw [hm, show 16 - (k + 1) = m from by omega, List.replicate_succ, bytesV_append, bytesV_append, List.set_append_right _ _ (by simp [bytesV]; omega)]
  have : k - (bytesV (L.take k)).length = 0 := by simp [bytesV]; omega
  rw [this]
  simp [bytesV]
set_option maxRecDepth 100000 in
theorem c_rRecord (n p : Nat) (w : World) (hn : n < 4294967296) (hp : p < 18446744073709551616) :
    Calls Try.prog 98 #[.int .u32 (n : Int), .int .u64 (p : Int)] w fun e w' => e = .returned (.agg (bytesV (rec n p)).toArray) ∧ Below w.heap.size w w' := by
  have Hl := Lib.hid (rec_length n p)
  have H16 : Hid ((Try.prog.info? 35).map (·.size) = some (bytesV (rec n p)).toArray.size) := Lib.hid (by rw [List.size_toArray, bytesV_length, Hl.out]; kernel_rfl)
  have hr : Hid (sealed (Num.be 4 n ++ Num.be 8 p) = rec n p) := Lib.hid rfl
  generalize rec n p = L at *
  go_enter Try.func98, Try.ntmps98
  obtain ⟨W0, hW0, hg1, hg2, hB0⟩ := two_alloc w (.cells z16.toArray 35)
  have HW : Hid (((w.alloc (.cells #[.int .u8 0, .int .u8 0, .int .u8 0, .int .u8 0, .int .u8 0, .int .u8 0, .int .u8 0, .int .u8 0, .int .u8 0, .int .u8 0, .int .u8 0, .int .u8 0, .int .u8 0, .int .u8 0, .int .u8 0, .int .u8 0] 35)).alloc (.cells #[.int .u8 0, .int .u8 0, .int .u8 0, .int .u8 0, .int .u8 0, .int .u8 0, .int .u8 0, .int .u8 0, .int .u8 0, .int .u8 0, .int .u8 0, .int .u8 0, .int .u8 0, .int .u8 0, .int .u8 0, .int .u8 0] 35)) = W0) := Lib.hid hW0.symm
  clear hW0
  have hlt1 : w.heap.size + 1 < W0.heap.size := heap_lt hg2
  have HW0 := hB0.size
  go_wp2_with (first
    | (go_at_call 169
       rw [HW.out]
       (with_reducible refine (Num.c_rPut32 none 0 0 [] _ n 4 _ Rd.nil_ rfl hn rfl (by omega)).mono ?_)
       rintro e w1 ⟨A1, c1, rfl, hown1, hb1⟩)
    | (go_at_call 168
       (with_reducible refine (Num.c_rPut64 _ _ _ _ _ p 12 _ hown1.rd rfl hp rfl (by omega)).mono ?_)
       rintro e w2 ⟨A2, c2, rfl, hown2, hb2⟩)
    | (go_at_call 167
       (with_reducible refine (c_rPut _ 12 _ _ _ hown2.rd (by omega)).mono ?_)
       rintro e w3 ⟨A3, c3, rfl, hown3, hb3⟩
       replace hown3 : Own w3 w2.heap.size 5 1 A3 16 c3 (bytesV (sealed (Num.be 4 n ++ Num.be 8 p))) := hown3
       rw [hr.out] at hown3
       have hB3 : Below W0.heap.size W0 w3 := (hb1.trans (hb2.mono hb1.size)).trans (hb3.mono (Nat.le_trans hb1.size hb2.size))))
  have g1 := (hB3.block _ (by omega)).trans hg1
  have g2 := (hB3.block _ hlt1).trans hg2
  have hBw : Below w.heap.size w w3 := hB0.trans (hB3.mono HW0)
  have hsz := hB3.size
  replace hown3 := hown3.mono (Nat.le_trans hb1.size hb2.size)
  clear HW hg1 hg2 hb1 hb2 hb3 hown1 hown2 hB3 hB0
  obtain ⟨ad, rfl, -⟩ := hown3.rd.src (by omega)
  have Ho := Lib.hid hown3
  clear hown3
  go_loopw [13] (fun i wr => ∃ k : Nat, k ≤ 16 ∧ i = .int .i64 (k : Int) ∧ wr.heap[w.heap.size + 1]? = some (.cells (bytesV (L.take k ++ List.replicate (16 - k) 0)).toArray 35 (0, 0)) ∧ wr.heap[w.heap.size]? = some (.cells z16.toArray 35 (0, 0)) ∧ Hid (Own wr W0.heap.size 5 1 (some ad) 16 c3 (bytesV L)) ∧ Below w.heap.size w wr) (fun i _ => 16 - (intOf i).toNat)
  case atStart => exact ⟨0, by omega, rfl, g2, g1, Ho, hBw⟩
  case round =>
    clear g1 g2 hBw Ho
    obtain ⟨k, hk, rfl, g2, g1, ho, hBw⟩ := hrel
    by_cases hk16 : k < 16
    · obtain ⟨ad', q, had, hq, hcell, hq256⟩ := Rd.atB ho.out.rd hk16
      injection had with had
      subst had
      have hfill := fill_next Hl.out hq.out hk16
      have Hf := Lib.hid hfill
      clear hfill
      have Hks : Hid (k < (bytesV (L.take k ++ List.replicate (16 - k) 0)).toArray.size) := Lib.hid (by rw [List.size_toArray, bytesV_length, List.length_append, List.length_take, List.length_replicate, Hl.out]; omega)
      have G2 := Lib.hid g2
      have G1 := Lib.hid g1
      clear g1 g2
      go_wp2_with (first
        | (refine wpL_store_int rfl 5 (.tmp 21) (.tmp 20) rfl _ k rfl .u8 _ rfl (by kernel_rfl) _ _ G2.out Hks.out ?_
           intro w5 h5 hgr
           rw [Hf.out] at h5))
      have ho5 := ho.out.kept hgr (own_apart ho.out (by rintro j ⟨⟩; omega))
      have h15 := heap_grown G1.out hgr (by simp)
      have hB5 := hBw.grown hgr hBw.size (by rintro j ⟨⟩; omega)
      go_roundw
      case rel => exact ⟨k + 1, by omega, by go_num, h5, h15, Lib.hid ho5, hB5⟩
      case measure => simp [intOf] <;> omega
    · obtain rfl : k = 16 := by omega
      have hL : L.take 16 ++ List.replicate (16 - 16) 0 = L := by rw [Nat.sub_self, List.replicate_zero, List.append_nil, List.take_of_length_le (by rw [Hl.out]; omega)]
      rw [hL] at g2
      have G2 := Lib.hid g2
      have G1 := Lib.hid g1
      clear hL g1 g2
      go_wp2_with (first
        | (refine wpList_load_row rfl 35 (.tmp 5) rfl _ rfl _ _ _ _ G2.out Try.underlying35 rfl H16.out ?_)
        | (refine wpList_store_row rfl 35 (.tmp 4) (.tmp 23) rfl _ _ rfl rfl _ _ G1.out H16.out (by simp [bytesV_length, Hl.out, z16]) (Array.all_eq_true_iff_forall_mem.2 fun v hv => bytesV_one v (by simpa using hv)) ?_))
      (try simp only [Exit.inBlock, Exit.then])
      refine bodyPost_ret (results_cell_row rfl _ _ w.heap.size _ _ (0, 0) _ rfl (setRow_heap _ _ _ _ _ _ G1.out) Try.underlying35 rfl H16.out) rfl ?_
      exact ⟨rfl, hBw.grown (grown_setRow _ _ _) hBw.size (by rintro k ⟨⟩; omega)⟩
end Go.Proofs.Ytpbcmghfhflkbaa.Seal
