/- Contracts of the package slots: latest, Latest. Conditions: none. -/
import Derived.Test.YtpbcmghfhflkbaaSlots2
set_option linter.unusedVariables false
set_option linter.unusedSimpArgs false
namespace Go.Proofs.Ytpbcmghfhflkbaa.Slots
open Go.RowKit Tw Disk
set_option maxHeartbeats 4000000
set_option maxRecDepth 100000
theorem three (w : World) (o1 o2 o3 : Obj) : ∃ w3, w3 = ((w.alloc o1).alloc o2).alloc o3 ∧ w3.heap[w.heap.size]? = some o1 ∧ w3.heap[w.heap.size + 1]? = some o2 ∧ w3.heap[w.heap.size + 1 + 1]? = some o3 ∧ Below w.heap.size w w3 ∧ w3.heap.size = w.heap.size + 3 := by
  have h1 := heap_alloc_new w o1
  have h2 := heap_alloc_new (w.alloc o1) o2
  have h3 := heap_alloc_new ((w.alloc o1).alloc o2) o3
  have b2 := Below.heap_alloc (w.alloc o1) o2 _ (heap_lt h1)
  have b3 := Below.heap_alloc ((w.alloc o1).alloc o2) o3 w.heap.size (by simp; omega)
  have b4 := Below.heap_alloc ((w.alloc o1).alloc o2) o3 (w.heap.size + 1) (by simp)
  rw [World.size_alloc] at h2
  rw [World.size_alloc, World.size_alloc] at h3
  exact ⟨_, rfl, b3.trans (b2.trans h1), b4.trans h2, h3, (((Below.refl _ _).alloc (Nat.le_refl _) _).alloc (by simp) _).alloc (by simp; omega) _, by simp⟩
theorem cells2 {w : World} {g : Nat} {t : TypeId} {a b : Value} (h : w.heap[g]? = some (.cells #[a, b] t (0, 0))) : w.cell? ⟨g, 0, none⟩ = some a ∧ w.cell? ⟨g, 1, none⟩ = some b := by
  simp [World.cell?, h]
theorem c_latest_off (b s : Int) (u : Value) (N : Nat) (w : World) (h : DV w u N) (hn : ¬ On b s N) :
    Calls Try.prog 93 #[.agg #[.int .i64 b, .int .i64 s], u] w fun e w' => e = .returned (.agg #[.int .u32 0, .int .u64 0]) ∧ Below w.heap.size w w' := by
  obtain ⟨W3, hW3, x1, x2, x3, hb, hsz⟩ := three w (.cells #[.int .i64 b, .int .i64 s] 182) (.cells #[.int .u32 0, .int .u64 0] 185) (.cells #[.int .u32 0, .int .u64 0] 185)
  have HB := Lib.hid hb
  have X1 := Lib.hid x1
  have X2 := Lib.hid x2
  have X3 := Lib.hid x3
  have HV := Lib.hid (h.bel hb)
  have hd := Lib.hid (decide_eq_false hn)
  obtain ⟨d1, d2⟩ := cells2 x1
  clear h hb x1 x2 x3 hsz
  go_enter Try.func93, Try.ntmps93
  go_upto_region 2 with (fail)
  rw [← hW3]
  clear hW3
  go_wp2_with (first
    | (go_at_call 91
       (with_reducible refine (c_on _ _ _ _ _ HV.out).mono ?_)
       rintro e w4 ⟨rfl, hb4⟩
       rw [hd.out]
       have HB4 := Lib.hid (HB.out.trans (hb4.mono HB.out.size))
       have Y2 := Lib.hid ((hb4.block _ (heap_lt X2.out)).trans X2.out)
       have Y3 := Lib.hid ((hb4.block _ (heap_lt X3.out)).trans X3.out)
       obtain ⟨e1, e2⟩ := cells2 Y3.out
       clear hb4)
    | (refine wpL_store_all rfl rfl 185 (.tmp 4) (.tmp 12) rfl _ rfl _ rfl _ _ Y2.out (by kernel_rfl) rfl (by simp [Value.oneCell']) ?_
       intro w9 x9 g9
       have HR := Lib.hid x9
       have HBR := Lib.hid (HB4.out.grown g9 HB4.out.size (by rintro k ⟨⟩; exact Nat.le_succ _))
       clear x9 g9))
  refine bodyPost_ret (results_cell_row rfl _ _ (w.heap.size + 1) _ _ (0, 0) _ rfl HR.out Try.underlying185 rfl (by kernel_rfl)) rfl ?_
  exact ⟨rfl, HBR.out⟩
section
variable {w : World} {p g mb c : Nat} {d : Dsk}
theorem c_latest (h : Dk w p g mb c d) (b s : Int) :
    Calls Try.prog 93 #[.agg #[.int .i64 b, .int .i64 s], .pointer (some ⟨p, 0, none⟩)] w fun e w' => e = .returned (.agg #[.int .u32 ((latest d b s).1 : Nat), .int .u64 ((latest d b s).2 : Nat)]) ∧ Below w.heap.size w w' := by
  have hlt0 := h.lts
  have hDV : DV w (.pointer (some ⟨p, 0, none⟩)) d.cells.length := .inl ⟨p, g, mb, c, d, rfl, h, rfl⟩
  by_cases hn : On b s d.cells.length
  · unfold latest
    rw [if_pos hn]
    obtain ⟨W3, hW3, x1, x2, x3, hb, hsz⟩ := three w (.cells #[.int .i64 b, .int .i64 s] 182) (.cells #[.int .u32 0, .int .u64 0] 185) (.cells #[.int .u32 0, .int .u64 0] 185)
    have HB := Lib.hid hb
    have X1 := Lib.hid x1
    have X2 := Lib.hid x2
    have X3 := Lib.hid x3
    have HV := Lib.hid (hDV.bel hb)
    have HK := Lib.hid (h.bel hb)
    have hd := Lib.hid (decide_eq_true hn)
    obtain ⟨k, rfl⟩ : ∃ k : Nat, s = (k : Int) := ⟨s.toNat, by unfold On RingOk at hn; omega⟩
    have Hr := Lib.hid hn.1
    obtain ⟨⟨r1, r2, r3, r4⟩, r5⟩ := hn
    rw [Int.toNat_natCast]
    have hN := hDV.lt
    obtain ⟨d1, d2⟩ := cells2 x1
    clear h hb x1 x2 x3 hsz hDV
    go_enter Try.func93, Try.ntmps93
    go_upto_region 2 with (fail)
    rw [← hW3]
    clear hW3
    go_wp2_with (first
      | (go_at_call 91
         (with_reducible refine (c_on _ _ _ _ _ HV.out).mono ?_)
         rintro e w4 ⟨rfl, hb4⟩
         rw [hd.out]
         have HB4 := Lib.hid (HB.out.trans (hb4.mono HB.out.size))
         have Y1 := Lib.hid ((hb4.block _ (heap_lt X1.out)).trans X1.out)
         have Y2 := Lib.hid ((hb4.block _ (heap_lt X2.out)).trans X2.out)
         have Y3 := Lib.hid ((hb4.block _ (heap_lt X3.out)).trans X3.out)
         have HK4 := Lib.hid (HK.out.bel hb4)
         clear d1 d2
         obtain ⟨d1, d2⟩ := cells2 Y1.out
         clear hb4 HB X1 X2 X3 HK HV))
    clear d1 d2
    go_loopw [15] (fun i wr => ∃ j : Nat, j ≤ k ∧ i = .int .i64 (j : Int) ∧ Hid (wr.heap[w.heap.size]? = some (.cells #[.int .i64 b, .int .i64 (k : Int)] 182 (0, 0))) ∧ Hid (wr.heap[w.heap.size + 1]? = some (.cells #[.int .u32 0, .int .u64 0] 185 (0, 0))) ∧ Hid (wr.heap[w.heap.size + 1 + 1]? = some (.cells #[.int .u32 ((best d b k j).1 : Int), .int .u64 ((best d b k j).2 : Int)] 185 (0, 0))) ∧ Hid (Dk wr p g mb c d) ∧ Hid (Below w.heap.size w wr)) (fun i _ => k - (intOf i).toNat)
    case atStart => exact ⟨0, Nat.zero_le _, rfl, Y1, Y2, Y3, HK4, HB4⟩
    case round =>
      clear Y1 Y2 Y3 HK4 HB4
      obtain ⟨j, hj, rfl, Y1, Y2, Y3, HK, HB⟩ := hrel
      obtain ⟨d1, d2⟩ := cells2 Y1.out
      by_cases hjk : j < k
      · obtain ⟨⟨p1, p2⟩, hp⟩ : ∃ r, best d b k j = r := ⟨_, rfl⟩
        obtain ⟨⟨x1, x2⟩, hx⟩ : ∃ r, readAt d b k (b + (j : Int)) = r := ⟨_, rfl⟩
        have hbn : Hid (best d b k (j + 1) = better (p1, p2) (x1, x2)) := Lib.hid (by rw [← hp, ← hx]; rfl)
        have hxl := readAt_lt d b k (b + (j : Int))
        rw [hx] at hxl
        rw [hp] at Y3
        have Hx := Lib.hid hx
        simp only at hxl Y3
        clear hp hx
        have hR := fun w (h : Dk w p g mb c d) => c_read h b k (b + (j : Int)) Hr.out (by omega)
        have hwj : wrap64 (b + (j : Int)) = b + (j : Int) := by unfold wrap64; omega
        by_cases hlt : p1 < x1
        · have hbx : better (p1, p2) (x1, x2) = (x1, x2) := if_pos hlt
          go_wp2_with (first
        | (go_at_call 163
           (with_reducible refine (hR _ HK.out).mono ?_)
           rintro e w2 ⟨rfl, hb2⟩
           rw [Hx.out]
           have HB2 := Lib.hid (HB.out.trans (hb2.mono HB.out.size))
           have HK2 := Lib.hid (HK.out.bel hb2)
           have Y12 := Lib.hid ((hb2.block _ (heap_lt Y1.out)).trans Y1.out)
           have Y22 := Lib.hid ((hb2.block _ (heap_lt Y2.out)).trans Y2.out)
           have Y32 := Lib.hid ((hb2.block _ (heap_lt Y3.out)).trans Y3.out)
           have HX7 := Lib.hid (heap_alloc_new w2 (.cells #[.int .u32 0, .int .u64 0] 185))
           clear d1 d2 hb2 HB HK Y1 Y2 Y3 hR)
        | (refine wpL_store_all rfl rfl 185 (.tmp 7) (.tmp 24) rfl _ rfl _ rfl _ _ HX7.out (by kernel_rfl) rfl (by simp [Value.oneCell']) ?_
           intro w5 x5 g5
           have F5 := ((Fr.alloc (S := fun k => k = w2.heap.size) (w := w2) (.cells #[.int .u32 0, .int .u64 0] 185)).trans (Fr.grown (S := fun k => k = w2.heap.size) g5 (by simp)) (fun b hb e => e))
           obtain ⟨q1, q2⟩ := cells2 x5
           have HB5 := Lib.hid (HB2.out.trans (F5.bel (fun k e => by have := HB2.out.size; omega) HB2.out.size))
           have Y13 := Lib.hid (heap_fr Y12.out F5 (by have := heap_lt Y12.out; omega))
           have Y23 := Lib.hid (heap_fr Y22.out F5 (by have := heap_lt Y22.out; omega))
           have Y33 := Lib.hid (heap_fr Y32.out F5 (by have := heap_lt Y32.out; omega))
           obtain ⟨e1, e2⟩ := cells2 Y33.out
           have HK5 := Lib.hid (HK2.out.fr F5 (by have := HK2.out.lts; omega) (by have := HK2.out.lts; omega) (by have := HK2.out.lts; omega))
           clear x5 g5 F5)
          | (refine wpL_store_all rfl rfl 185 (.tmp 5) (.tmp 35) rfl _ rfl _ rfl _ _ Y33.out (by kernel_rfl) rfl (by simp [Value.oneCell']) ?_
             intro w9 x9 g9
             have HR := Lib.hid x9
             have h9 := HB5.out.size
             have h8 := HK5.out.lts
             have F9 := Lib.hid (Fr.grown (S := fun k => k = w.heap.size + 1 + 1) g9 (by simp))
             have HB9 := Lib.hid (HB5.out.grown g9 h9 (by rintro k ⟨⟩; omega))
             clear x9 g9 h9 h8))
          go_roundw
          case rel =>
            exact ⟨j + 1, by omega, by go_num, Lib.hid (heap_fr Y13.out F9.out (by omega)), Lib.hid (heap_fr Y23.out F9.out (by omega)), Lib.hid (by rw [hbn.out, hbx]; exact HR.out), Lib.hid (HK5.out.fr F9.out (by omega) (by omega) (by omega)), HB9⟩
          case measure => simp [intOf] <;> omega
        · have hbx : better (p1, p2) (x1, x2) = (p1, p2) := if_neg hlt
          go_wp2_with (first
        | (go_at_call 163
           (with_reducible refine (hR _ HK.out).mono ?_)
           rintro e w2 ⟨rfl, hb2⟩
           rw [Hx.out]
           have HB2 := Lib.hid (HB.out.trans (hb2.mono HB.out.size))
           have HK2 := Lib.hid (HK.out.bel hb2)
           have Y12 := Lib.hid ((hb2.block _ (heap_lt Y1.out)).trans Y1.out)
           have Y22 := Lib.hid ((hb2.block _ (heap_lt Y2.out)).trans Y2.out)
           have Y32 := Lib.hid ((hb2.block _ (heap_lt Y3.out)).trans Y3.out)
           have HX7 := Lib.hid (heap_alloc_new w2 (.cells #[.int .u32 0, .int .u64 0] 185))
           clear d1 d2 hb2 HB HK Y1 Y2 Y3 hR)
        | (refine wpL_store_all rfl rfl 185 (.tmp 7) (.tmp 24) rfl _ rfl _ rfl _ _ HX7.out (by kernel_rfl) rfl (by simp [Value.oneCell']) ?_
           intro w5 x5 g5
           have F5 := ((Fr.alloc (S := fun k => k = w2.heap.size) (w := w2) (.cells #[.int .u32 0, .int .u64 0] 185)).trans (Fr.grown (S := fun k => k = w2.heap.size) g5 (by simp)) (fun b hb e => e))
           obtain ⟨q1, q2⟩ := cells2 x5
           have HB5 := Lib.hid (HB2.out.trans (F5.bel (fun k e => by have := HB2.out.size; omega) HB2.out.size))
           have Y13 := Lib.hid (heap_fr Y12.out F5 (by have := heap_lt Y12.out; omega))
           have Y23 := Lib.hid (heap_fr Y22.out F5 (by have := heap_lt Y22.out; omega))
           have Y33 := Lib.hid (heap_fr Y32.out F5 (by have := heap_lt Y32.out; omega))
           obtain ⟨e1, e2⟩ := cells2 Y33.out
           have HK5 := Lib.hid (HK2.out.fr F5 (by have := HK2.out.lts; omega) (by have := HK2.out.lts; omega) (by have := HK2.out.lts; omega))
           clear x5 g5 F5)
        | fail)
          all_goals
            go_roundw
            case rel => exact ⟨j + 1, by omega, by go_num, Y13, Y23, Lib.hid (by rw [hbn.out, hbx]; exact Y33.out), HK5, HB5⟩
            case measure => simp [intOf] <;> omega
      · obtain rfl : j = k := by omega
        obtain ⟨e1, e2⟩ := cells2 Y3.out
        go_wp2_with (first
          | (refine wpL_store_all rfl rfl 185 (.tmp 4) (.tmp 37) rfl _ rfl _ rfl _ _ Y2.out (by kernel_rfl) rfl (by simp [Value.oneCell']) ?_
             intro w9 x9 g9
             have HR := Lib.hid x9
             have HBR := Lib.hid (HB.out.grown g9 HB.out.size (by rintro k ⟨⟩; exact Nat.le_succ _))
             clear x9 g9))
        refine bodyPost_ret (results_cell_row rfl _ _ (w.heap.size + 1) _ _ (0, 0) _ rfl HR.out Try.underlying185 rfl (by kernel_rfl)) rfl ?_
        exact ⟨rfl, HBR.out⟩
  · have hl : latest d b s = (0, 0) := by unfold latest; rw [if_neg hn]
    rw [hl]
    exact c_latest_off b s _ _ w hDV hn
/-- what a disk, or none, tells of a ring -/
theorem c_Latest_of (b s : Int) (u : Value) (x1 x2 : Nat) (w : World) (hl : ∀ w', Below w.heap.size w w' → Calls Try.prog 93 #[.agg #[.int .i64 b, .int .i64 s], u] w' fun e w'' => e = .returned (.agg #[.int .u32 (x1 : Int), .int .u64 (x2 : Int)]) ∧ Below w'.heap.size w' w'') :
    Calls Try.prog 26 #[u, .int .i64 b, .int .i64 s] w fun e w' => e = .returned (.tuple #[.int .u32 (x1 : Int), .int .u64 (x2 : Int)]) ∧ Below w.heap.size w w' := by
  go_enter Try.func26, Try.ntmps26
  go_wp2_with (first
    | (go_at_call 93
       (with_reducible refine (hl _ (Below.refl _ _)).mono ?_)
       rintro e w2 ⟨rfl, hb2⟩
       have HB2 := Lib.hid hb2
       have hX7 := heap_alloc_new w2 (.cells #[.int .u32 0, .int .u64 0] 185)
       have HX7 := Lib.hid hX7
       clear hb2 hl hX7)
    | (refine wpL_store_all rfl rfl 185 (.tmp 8) (.tmp 13) rfl _ rfl _ rfl _ _ HX7.out (by kernel_rfl) rfl (by simp [Value.oneCell']) ?_
       intro w5 x5 g5
       have F5 := ((Fr.alloc (S := fun k => k = w2.heap.size) (w := w2) (.cells #[.int .u32 0, .int .u64 0] 185)).trans (Fr.grown (S := fun k => k = w2.heap.size) g5 (by simp)) (fun b hb e => e))
       have HB5 := Lib.hid (HB2.out.trans (F5.bel (fun k e => by have := HB2.out.size; omega) HB2.out.size))
       have X5 := Lib.hid x5
       obtain ⟨e1, e2⟩ := cells2 x5
       clear x5 g5 F5))
  go_quiet (fail)
  go_wp2
  go_ret2
  exact ⟨rfl, HB5.out.trans ((Fr.drewN (S := fun _ => False) nq).bel (fun _ e => e.elim) HB5.out.size)⟩
theorem c_Latest (h : Dk w p g mb c d) (b s : Int) : Calls Try.prog 26 #[.pointer (some ⟨p, 0, none⟩), .int .i64 b, .int .i64 s] w fun e w' => e = .returned (.tuple #[.int .u32 ((latest d b s).1 : Nat), .int .u64 ((latest d b s).2 : Nat)]) ∧ Below w.heap.size w w' :=
  c_Latest_of b s _ _ _ w (fun w' hb => c_latest (h.bel hb) b s)
theorem c_Latest_nil (b s : Int) (w : World) : Calls Try.prog 26 #[.pointer none, .int .i64 b, .int .i64 s] w fun e w' => e = .returned (.tuple #[.int .u32 0, .int .u64 0]) ∧ Below w.heap.size w w' :=
  c_Latest_of b s _ 0 0 w (fun w' _ => c_latest_off b s _ 0 w' (.inr ⟨rfl, rfl⟩) (by unfold On RingOk; omega))
end
end Go.Proofs.Ytpbcmghfhflkbaa.Slots
