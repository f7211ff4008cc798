/- Texts joined: what the disks, the rings and their reference do. Conditions: none. -/
import Derived.Test.YtaldlapnhhhclaaGreatB8
import Derived.Test.YtaldlapnhhhclaaGreatB6
/- Contracts of the package slots: latest, Latest. Conditions: none. -/
set_option linter.unusedVariables false
set_option linter.unusedSimpArgs false
namespace Go.Proofs.YtaldlapnhhhclaaGreat.Slots
open Go.RowKit Tw Disk
set_option maxHeartbeats 4000000
set_option maxRecDepth 100000
theorem three (w : World) (o1 o2 o3 : Obj) : ∃ w3, w3 = ((w.alloc o1).alloc o2).alloc o3 ∧ w3.heap[w.heap.size]? = some o1 ∧ w3.heap[w.heap.size + 1]? = some o2 ∧ w3.heap[w.heap.size + 1 + 1]? = some o3 ∧ Below w.heap.size w w3 ∧ w3.heap.size = w.heap.size + 3 := by
  have h1 := heap_alloc_new w o1
  have h2 := heap_alloc_new (w.alloc o1) o2
  have h3 := heap_alloc_new ((w.alloc o1).alloc o2) o3
  have b2 := Below.heap_alloc (w.alloc o1) o2 _ (heap_lt h1)
  have b3 := Below.heap_alloc ((w.alloc o1).alloc o2) o3 w.heap.size (by simp; omega)
  have b4 := Below.heap_alloc ((w.alloc o1).alloc o2) o3 (w.heap.size + 1) (by simp)
  rw [World.size_alloc] at h2
  rw [World.size_alloc, World.size_alloc] at h3
  exact ⟨_, rfl, b3.trans (b2.trans h1), b4.trans h2, h3, (((Below.refl _ _).alloc (Nat.le_refl _) _).alloc (by simp) _).alloc (by simp; omega) _, by simp⟩
theorem cells2 {w : World} {g : Nat} {t : TypeId} {a b : Value} (h : w.heap[g]? = some (.cells #[a, b] t (0, 0))) : w.cell? ⟨g, 0, none⟩ = some a ∧ w.cell? ⟨g, 1, none⟩ = some b := by
  simp [World.cell?, h]
theorem c_latest_off (b s : Int) (u : Value) (N : Nat) (w : World) (h : DV w u N) (hn : ¬ On b s N) :
    Calls Tryz.prog 158 #[.agg #[.int .i64 b, .int .i64 s], u] w fun e w' => e = .returned (.agg #[.int .u32 0, .int .u64 0]) ∧ Below w.heap.size w w' := by
  obtain ⟨W3, hW3, x1, x2, x3, hb, hsz⟩ := three w (.cells #[.int .i64 b, .int .i64 s] 214) (.cells #[.int .u32 0, .int .u64 0] 217) (.cells #[.int .u32 0, .int .u64 0] 217)
  have HB := Lib.hid hb
  have X1 := Lib.hid x1
  have X2 := Lib.hid x2
  have X3 := Lib.hid x3
  have HV := Lib.hid (h.bel hb)
  have hd := Lib.hid (decide_eq_false hn)
  obtain ⟨d1, d2⟩ := cells2 x1
  clear h hb x1 x2 x3 hsz
  go_enter Tryz.func158, Tryz.ntmps158
  go_upto_region 2 with (fail)
  rw [← hW3]
  clear hW3
  go_wp2_with (first
    | (go_at_call 157
       (with_reducible refine (c_on _ _ _ _ _ HV.out).mono ?_)
       rintro e w4 ⟨rfl, hb4⟩
       rw [hd.out]
       have HB4 := Lib.hid (HB.out.trans (hb4.mono HB.out.size))
       have Y2 := Lib.hid ((hb4.block _ (heap_lt X2.out)).trans X2.out)
       have Y3 := Lib.hid ((hb4.block _ (heap_lt X3.out)).trans X3.out)
       obtain ⟨e1, e2⟩ := cells2 Y3.out
       clear hb4)
    | (refine wpL_store_all rfl rfl 217 (.tmp 4) (.tmp 12) rfl _ rfl _ rfl _ _ Y2.out (by kernel_rfl) rfl (by simp [Value.oneCell']) ?_
       intro w9 x9 g9
       have HR := Lib.hid x9
       have HBR := Lib.hid (HB4.out.grown g9 HB4.out.size (by rintro k ⟨⟩; exact Nat.le_succ _))
       clear x9 g9))
  refine bodyPost_ret (results_cell_row rfl _ _ (w.heap.size + 1) _ _ (0, 0) _ rfl HR.out Tryz.underlying217 rfl (by kernel_rfl)) rfl ?_
  exact ⟨rfl, HBR.out⟩
section
variable {w : World} {p g mb c : Nat} {d : Dsk}
theorem c_latest (h : Dk w p g mb c d) (b s : Int) :
    Calls Tryz.prog 158 #[.agg #[.int .i64 b, .int .i64 s], .pointer (some ⟨p, 0, none⟩)] w fun e w' => e = .returned (.agg #[.int .u32 ((latest d b s).1 : Nat), .int .u64 ((latest d b s).2 : Nat)]) ∧ Below w.heap.size w w' := by
  have hlt0 := h.lts
  have hDV : DV w (.pointer (some ⟨p, 0, none⟩)) d.cells.length := .inl ⟨p, g, mb, c, d, rfl, h, rfl⟩
  by_cases hn : On b s d.cells.length
  · unfold latest
    rw [if_pos hn]
    obtain ⟨W3, hW3, x1, x2, x3, hb, hsz⟩ := three w (.cells #[.int .i64 b, .int .i64 s] 214) (.cells #[.int .u32 0, .int .u64 0] 217) (.cells #[.int .u32 0, .int .u64 0] 217)
    have HB := Lib.hid hb
    have X1 := Lib.hid x1
    have X2 := Lib.hid x2
    have X3 := Lib.hid x3
    have HV := Lib.hid (hDV.bel hb)
    have HK := Lib.hid (h.bel hb)
    have hd := Lib.hid (decide_eq_true hn)
    obtain ⟨k, rfl⟩ : ∃ k : Nat, s = (k : Int) := ⟨s.toNat, by unfold On RingOk at hn; omega⟩
    have Hr := Lib.hid hn.1
    obtain ⟨⟨r1, r2, r3, r4⟩, r5⟩ := hn
    rw [Int.toNat_natCast]
    have hN := hDV.lt
    obtain ⟨d1, d2⟩ := cells2 x1
    clear h hb x1 x2 x3 hsz hDV
    go_enter Tryz.func158, Tryz.ntmps158
    go_upto_region 2 with (fail)
    rw [← hW3]
    clear hW3
    go_wp2_with (first
      | (go_at_call 157
         (with_reducible refine (c_on _ _ _ _ _ HV.out).mono ?_)
         rintro e w4 ⟨rfl, hb4⟩
         rw [hd.out]
         have HB4 := Lib.hid (HB.out.trans (hb4.mono HB.out.size))
         have Y1 := Lib.hid ((hb4.block _ (heap_lt X1.out)).trans X1.out)
         have Y2 := Lib.hid ((hb4.block _ (heap_lt X2.out)).trans X2.out)
         have Y3 := Lib.hid ((hb4.block _ (heap_lt X3.out)).trans X3.out)
         have HK4 := Lib.hid (HK.out.bel hb4)
         clear d1 d2
         obtain ⟨d1, d2⟩ := cells2 Y1.out
         clear hb4 HB X1 X2 X3 HK HV))
    clear d1 d2
    go_loopw [15] (fun i wr => ∃ j : Nat, j ≤ k ∧ i = .int .i64 (j : Int) ∧ Hid (wr.heap[w.heap.size]? = some (.cells #[.int .i64 b, .int .i64 (k : Int)] 214 (0, 0))) ∧ Hid (wr.heap[w.heap.size + 1]? = some (.cells #[.int .u32 0, .int .u64 0] 217 (0, 0))) ∧ Hid (wr.heap[w.heap.size + 1 + 1]? = some (.cells #[.int .u32 ((best d b k j).1 : Int), .int .u64 ((best d b k j).2 : Int)] 217 (0, 0))) ∧ Hid (Dk wr p g mb c d) ∧ Hid (Below w.heap.size w wr)) (fun i _ => k - (intOf i).toNat)
    case atStart => exact ⟨0, Nat.zero_le _, rfl, Y1, Y2, Y3, HK4, HB4⟩
    case round =>
      clear Y1 Y2 Y3 HK4 HB4
      obtain ⟨j, hj, rfl, Y1, Y2, Y3, HK, HB⟩ := hrel
      obtain ⟨d1, d2⟩ := cells2 Y1.out
      by_cases hjk : j < k
      · obtain ⟨⟨p1, p2⟩, hp⟩ : ∃ r, best d b k j = r := ⟨_, rfl⟩
        obtain ⟨⟨x1, x2⟩, hx⟩ : ∃ r, readAt d b k (b + (j : Int)) = r := ⟨_, rfl⟩
        have hbn : Hid (best d b k (j + 1) = better (p1, p2) (x1, x2)) := Lib.hid (by rw [← hp, ← hx]; rfl)
        have hxl := readAt_lt d b k (b + (j : Int))
        rw [hx] at hxl
        rw [hp] at Y3
        have Hx := Lib.hid hx
        simp only at hxl Y3
        clear hp hx
        have hR := fun w (h : Dk w p g mb c d) => c_read h b k (b + (j : Int)) Hr.out (by omega)
        have hwj : wrap64 (b + (j : Int)) = b + (j : Int) := by unfold wrap64; omega
        by_cases hlt : p1 < x1
        · have hbx : better (p1, p2) (x1, x2) = (x1, x2) := if_pos hlt
          go_wp2_with (first
        | (go_at_call 178
           (with_reducible refine (hR _ HK.out).mono ?_)
           rintro e w2 ⟨rfl, hb2⟩
           rw [Hx.out]
           have HB2 := Lib.hid (HB.out.trans (hb2.mono HB.out.size))
           have HK2 := Lib.hid (HK.out.bel hb2)
           have Y12 := Lib.hid ((hb2.block _ (heap_lt Y1.out)).trans Y1.out)
           have Y22 := Lib.hid ((hb2.block _ (heap_lt Y2.out)).trans Y2.out)
           have Y32 := Lib.hid ((hb2.block _ (heap_lt Y3.out)).trans Y3.out)
           have HX7 := Lib.hid (heap_alloc_new w2 (.cells #[.int .u32 0, .int .u64 0] 217))
           clear d1 d2 hb2 HB HK Y1 Y2 Y3 hR)
        | (refine wpL_store_all rfl rfl 217 (.tmp 7) (.tmp 24) rfl _ rfl _ rfl _ _ HX7.out (by kernel_rfl) rfl (by simp [Value.oneCell']) ?_
           intro w5 x5 g5
           have F5 := ((Fr.alloc (S := fun k => k = w2.heap.size) (w := w2) (.cells #[.int .u32 0, .int .u64 0] 217)).trans (Fr.grown (S := fun k => k = w2.heap.size) g5 (by simp)) (fun b hb e => e))
           obtain ⟨q1, q2⟩ := cells2 x5
           have HB5 := Lib.hid (HB2.out.trans (F5.bel (fun k e => by have := HB2.out.size; omega) HB2.out.size))
           have Y13 := Lib.hid (heap_fr Y12.out F5 (by have := heap_lt Y12.out; omega))
           have Y23 := Lib.hid (heap_fr Y22.out F5 (by have := heap_lt Y22.out; omega))
           have Y33 := Lib.hid (heap_fr Y32.out F5 (by have := heap_lt Y32.out; omega))
           obtain ⟨e1, e2⟩ := cells2 Y33.out
           have HK5 := Lib.hid (HK2.out.fr F5 (by have := HK2.out.lts; omega) (by have := HK2.out.lts; omega) (by have := HK2.out.lts; omega))
           clear x5 g5 F5)
          | (refine wpL_store_all rfl rfl 217 (.tmp 5) (.tmp 35) rfl _ rfl _ rfl _ _ Y33.out (by kernel_rfl) rfl (by simp [Value.oneCell']) ?_
             intro w9 x9 g9
             have HR := Lib.hid x9
             have h9 := HB5.out.size
             have h8 := HK5.out.lts
             have F9 := Lib.hid (Fr.grown (S := fun k => k = w.heap.size + 1 + 1) g9 (by simp))
             have HB9 := Lib.hid (HB5.out.grown g9 h9 (by rintro k ⟨⟩; omega))
             clear x9 g9 h9 h8))
          go_roundw
          case rel =>
            exact ⟨j + 1, by omega, by go_num, Lib.hid (heap_fr Y13.out F9.out (by omega)), Lib.hid (heap_fr Y23.out F9.out (by omega)), Lib.hid (by rw [hbn.out, hbx]; exact HR.out), Lib.hid (HK5.out.fr F9.out (by omega) (by omega) (by omega)), HB9⟩
          case measure => simp [intOf] <;> omega
        · have hbx : better (p1, p2) (x1, x2) = (p1, p2) := if_neg hlt
          go_wp2_with (first
        | (go_at_call 178
           (with_reducible refine (hR _ HK.out).mono ?_)
           rintro e w2 ⟨rfl, hb2⟩
           rw [Hx.out]
           have HB2 := Lib.hid (HB.out.trans (hb2.mono HB.out.size))
           have HK2 := Lib.hid (HK.out.bel hb2)
           have Y12 := Lib.hid ((hb2.block _ (heap_lt Y1.out)).trans Y1.out)
           have Y22 := Lib.hid ((hb2.block _ (heap_lt Y2.out)).trans Y2.out)
           have Y32 := Lib.hid ((hb2.block _ (heap_lt Y3.out)).trans Y3.out)
           have HX7 := Lib.hid (heap_alloc_new w2 (.cells #[.int .u32 0, .int .u64 0] 217))
           clear d1 d2 hb2 HB HK Y1 Y2 Y3 hR)
        | (refine wpL_store_all rfl rfl 217 (.tmp 7) (.tmp 24) rfl _ rfl _ rfl _ _ HX7.out (by kernel_rfl) rfl (by simp [Value.oneCell']) ?_
           intro w5 x5 g5
           have F5 := ((Fr.alloc (S := fun k => k = w2.heap.size) (w := w2) (.cells #[.int .u32 0, .int .u64 0] 217)).trans (Fr.grown (S := fun k => k = w2.heap.size) g5 (by simp)) (fun b hb e => e))
           obtain ⟨q1, q2⟩ := cells2 x5
           have HB5 := Lib.hid (HB2.out.trans (F5.bel (fun k e => by have := HB2.out.size; omega) HB2.out.size))
           have Y13 := Lib.hid (heap_fr Y12.out F5 (by have := heap_lt Y12.out; omega))
           have Y23 := Lib.hid (heap_fr Y22.out F5 (by have := heap_lt Y22.out; omega))
           have Y33 := Lib.hid (heap_fr Y32.out F5 (by have := heap_lt Y32.out; omega))
           obtain ⟨e1, e2⟩ := cells2 Y33.out
           have HK5 := Lib.hid (HK2.out.fr F5 (by have := HK2.out.lts; omega) (by have := HK2.out.lts; omega) (by have := HK2.out.lts; omega))
           clear x5 g5 F5)
        | fail)
          all_goals
            go_roundw
            case rel => exact ⟨j + 1, by omega, by go_num, Y13, Y23, Lib.hid (by rw [hbn.out, hbx]; exact Y33.out), HK5, HB5⟩
            case measure => simp [intOf] <;> omega
      · obtain rfl : j = k := by omega
        obtain ⟨e1, e2⟩ := cells2 Y3.out
        go_wp2_with (first
          | (refine wpL_store_all rfl rfl 217 (.tmp 4) (.tmp 37) rfl _ rfl _ rfl _ _ Y2.out (by kernel_rfl) rfl (by simp [Value.oneCell']) ?_
             intro w9 x9 g9
             have HR := Lib.hid x9
             have HBR := Lib.hid (HB.out.grown g9 HB.out.size (by rintro k ⟨⟩; exact Nat.le_succ _))
             clear x9 g9))
        refine bodyPost_ret (results_cell_row rfl _ _ (w.heap.size + 1) _ _ (0, 0) _ rfl HR.out Tryz.underlying217 rfl (by kernel_rfl)) rfl ?_
        exact ⟨rfl, HBR.out⟩
  · have hl : latest d b s = (0, 0) := by unfold latest; rw [if_neg hn]
    rw [hl]
    exact c_latest_off b s _ _ w hDV hn
/-- what a disk, or none, tells of a ring -/
theorem c_Latest_of (b s : Int) (u : Value) (x1 x2 : Nat) (w : World) (hl : ∀ w', Below w.heap.size w w' → Calls Tryz.prog 158 #[.agg #[.int .i64 b, .int .i64 s], u] w' fun e w'' => e = .returned (.agg #[.int .u32 (x1 : Int), .int .u64 (x2 : Int)]) ∧ Below w'.heap.size w' w'') :
    Calls Tryz.prog 121 #[u, .int .i64 b, .int .i64 s] w fun e w' => e = .returned (.tuple #[.int .u32 (x1 : Int), .int .u64 (x2 : Int)]) ∧ Below w.heap.size w w' := by
  go_enter Tryz.func121, Tryz.ntmps121
  go_wp2_with (first
    | (go_at_call 158
       (with_reducible refine (hl _ (Below.refl _ _)).mono ?_)
       rintro e w2 ⟨rfl, hb2⟩
       have HB2 := Lib.hid hb2
       have hX7 := heap_alloc_new w2 (.cells #[.int .u32 0, .int .u64 0] 217)
       have HX7 := Lib.hid hX7
       clear hb2 hl hX7)
    | (refine wpL_store_all rfl rfl 217 (.tmp 8) (.tmp 13) rfl _ rfl _ rfl _ _ HX7.out (by kernel_rfl) rfl (by simp [Value.oneCell']) ?_
       intro w5 x5 g5
       have F5 := ((Fr.alloc (S := fun k => k = w2.heap.size) (w := w2) (.cells #[.int .u32 0, .int .u64 0] 217)).trans (Fr.grown (S := fun k => k = w2.heap.size) g5 (by simp)) (fun b hb e => e))
       have HB5 := Lib.hid (HB2.out.trans (F5.bel (fun k e => by have := HB2.out.size; omega) HB2.out.size))
       have X5 := Lib.hid x5
       obtain ⟨e1, e2⟩ := cells2 x5
       clear x5 g5 F5))
  go_quiet (fail)
  go_wp2
  go_ret2
  exact ⟨rfl, HB5.out.trans ((Fr.drewN (S := fun _ => False) nq).bel (fun _ e => e.elim) HB5.out.size)⟩
theorem c_Latest (h : Dk w p g mb c d) (b s : Int) : Calls Tryz.prog 121 #[.pointer (some ⟨p, 0, none⟩), .int .i64 b, .int .i64 s] w fun e w' => e = .returned (.tuple #[.int .u32 ((latest d b s).1 : Nat), .int .u64 ((latest d b s).2 : Nat)]) ∧ Below w.heap.size w w' :=
  c_Latest_of b s _ _ _ w (fun w' hb => c_latest (h.bel hb) b s)
theorem c_Latest_nil (b s : Int) (w : World) : Calls Tryz.prog 121 #[.pointer none, .int .i64 b, .int .i64 s] w fun e w' => e = .returned (.tuple #[.int .u32 0, .int .u64 0]) ∧ Below w.heap.size w w' :=
  c_Latest_of b s _ 0 0 w (fun w' _ => c_latest_off b s _ 0 w' (.inr ⟨rfl, rfl⟩) (by unfold On RingOk; omega))
end
end Go.Proofs.YtaldlapnhhhclaaGreat.Slots
/- Contracts of the package slots: Put; the law SlotsPlaces. Conditions: at most 10^9 operations. -/
namespace Go.Proofs.YtaldlapnhhhclaaGreat.Slots
open Go.RowKit Tw Disk
set_option maxHeartbeats 4000000
set_option maxRecDepth 100000
theorem c_Put_nil (b s : Int) (x : Nat) (w : World) : Calls Tryz.prog 113 #[.pointer none, .int .i64 b, .int .i64 s, .int .u64 (x : Int)] w fun e w' => e = .returned (.int .i64 1) ∧ Below w.heap.size w w' := by
  have HB := Lib.hid ((Below.refl _ _).alloc (Nat.le_refl w.heap.size) (.cells #[.int .i64 b, .int .i64 s] 214))
  go_enter Tryz.func113, Tryz.ntmps113
  go_wp2_with (first
    | (go_at_call 62
       (with_reducible refine (c_Made_nil _).mono ?_)
       rintro e w' ⟨rfl, rfl⟩))
  go_ret
  exact ⟨rfl, by have h := HB.out; simpa using h⟩
section
variable {w : World} {p g mb c : Nat} {d : Dsk}
theorem write_ops (d : Dsk) (x : Int) (s : Sec) : (d.write x s).1.ops ≤ d.ops + 1 := by
  unfold Dsk.write Dsk.put Dsk.spend Dsk.burn
  (repeat' split) <;> simp_all
theorem write_n (d : Dsk) (x : Int) (s : Sec) : (d.write x s).1.cells.length = d.cells.length := by
  unfold Dsk.write Dsk.put Dsk.spend Dsk.burn
  (repeat' split) <;> simp_all
theorem write_err (d : Dsk) (x : Int) (s : Sec) : (d.write x s).2 ≤ 13 := by
  unfold Dsk.write
  (repeat' split)
  · simp
  · rcases spend_err d with h | h <;> omega
  · simp
theorem c_Put (h : Dk w p g mb c d) (ho : d.ops + 1 < 1000000000) (b s : Int) (x : Nat) (hx : x < 18446744073709551616) :
    Calls Tryz.prog 113 #[.pointer (some ⟨p, 0, none⟩), .int .i64 b, .int .i64 s, .int .u64 (x : Int)] w fun e w' => e = .returned (.int .i64 ((sput d b s x).2 : Int)) ∧ Dk w' p g mb c (sput d b s x).1 ∧ Fr (fun k => k = p ∨ k = g ∨ k = mb) w w' := by
  have hlt := h.lts
  have HB := Lib.hid ((Below.refl _ _).alloc (Nat.le_refl w.heap.size) (.cells #[.int .i64 b, .int .i64 s] 214))
  have HX := Lib.hid (heap_alloc_new w (.cells #[.int .i64 b, .int .i64 s] 214))
  have HK := Lib.hid (h.bel HB.out)
  have hN := h.ok.n
  obtain ⟨⟨d2, e2⟩, hsp⟩ : ∃ r, sput d b s x = r := ⟨_, rfl⟩
  rw [hsp]
  unfold sput at hsp
  obtain ⟨d1, d2'⟩ := cells2 HX.out
  clear h
  go_enter Tryz.func113, Tryz.ntmps113
  go_upto_block 0 with (fail)
  generalize (w.alloc (.cells #[.int .i64 b, .int .i64 s] 214)) = W1 at *
  have hDV : DV W1 (.pointer (some ⟨p, 0, none⟩)) d.cells.length := .inl ⟨p, g, mb, c, d, rfl, HK.out, rfl⟩
  have HV := Lib.hid hDV
  have HF := Lib.hid (Fr.of_bel (S := fun k => k = p ∨ k = g ∨ k = mb) HB.out)
  clear hDV
  by_cases hon : On b s d.cells.length
  · rw [if_pos hon] at hsp
    have hd := Lib.hid (decide_eq_true hon)
    by_cases hbk : d.broken = true
    · rw [if_pos hbk] at hsp
      obtain ⟨rfl, rfl⟩ := Prod.mk.inj hsp
      have hbr := Lib.hid hbk
      clear hsp hbk hon
      go_wp2_with (first
    | (go_at_call 62
       (with_reducible refine (c_Made HK.out).mono ?_)
       rintro e w' ⟨rfl, rfl⟩)
    | (go_at_call 157
       (with_reducible refine (c_on _ _ _ _ _ HV.out).mono ?_)
       rintro e w2 ⟨rfl, hb2⟩
       rw [hd.out]
       have HF := Lib.hid (HF.out.trans (Fr.of_bel (S := fun _ => False) hb2) (fun _ _ e => e.elim))
       have HK := Lib.hid (HK.out.bel hb2)
       have HX := Lib.hid ((hb2.block _ (heap_lt HX.out)).trans HX.out)
       clear d1 d2'
       obtain ⟨d1, d2'⟩ := cells2 HX.out
       clear hb2)
    | (go_at_call 112
       (with_reducible refine (c_Broken HK.out).mono ?_)
       rintro e w' ⟨rfl, rfl⟩
       rw [hbr.out])
      | fail)
      go_ret
      exact ⟨rfl, HK.out, HF.out⟩
    · rw [if_neg hbk] at hsp
      have hbr : Hid (d.broken = false) := Lib.hid (by simpa using hbk)
      have hll := latest_lt d b s
      obtain ⟨⟨l1, l2⟩, hl⟩ : ∃ r, latest d b s = r := ⟨_, rfl⟩
      have hL := fun w (h : Dk w p g mb c d) => c_latest h b s
      rw [hl] at hsp hll
      simp only at hsp hll
      have Hl := Lib.hid hl
      have Hon := Lib.hid hon
      clear hl hon hbk
      by_cases hmx : l1 = 4294967295
      · rw [if_pos hmx] at hsp
        obtain ⟨rfl, rfl⟩ := Prod.mk.inj hsp
        subst hmx
        clear hsp
        go_wp2_with (first
      | (go_at_call 62
         (with_reducible refine (c_Made HK.out).mono ?_)
         rintro e w' ⟨rfl, rfl⟩)
      | (go_at_call 157
         (with_reducible refine (c_on _ _ _ _ _ HV.out).mono ?_)
         rintro e w2 ⟨rfl, hb2⟩
         rw [hd.out]
         have HF := Lib.hid (HF.out.trans (Fr.of_bel (S := fun _ => False) hb2) (fun _ _ e => e.elim))
         have HK := Lib.hid (HK.out.bel hb2)
         have HX := Lib.hid ((hb2.block _ (heap_lt HX.out)).trans HX.out)
         clear d1 d2'
         obtain ⟨d1, d2'⟩ := cells2 HX.out
         clear hb2)
      | (go_at_call 112
         (with_reducible refine (c_Broken HK.out).mono ?_)
         rintro e w' ⟨rfl, rfl⟩
         rw [hbr.out])
      | (go_at_call 158
         (with_reducible refine (hL _ HK.out).mono ?_)
         rintro e w3 ⟨rfl, hb3⟩
         rw [Hl.out]
         have HF := Lib.hid (HF.out.trans (Fr.of_bel (S := fun _ => False) hb3) (fun _ _ e => e.elim))
         have HK := Lib.hid (HK.out.bel hb3)
         have HX := Lib.hid ((hb3.block _ (heap_lt HX.out)).trans HX.out)
         have HX7 := Lib.hid (heap_alloc_new w3 (.cells #[.int .u32 0, .int .u64 0] 217))
         clear d1 d2' hb3 hL)
      | (refine wpL_store_all rfl rfl 217 (.tmp 10) (.tmp 30) rfl _ rfl _ rfl _ _ HX7.out (by kernel_rfl) rfl (by simp [Value.oneCell']) ?_
         intro w5 x5 g5
         have F5 := ((Fr.alloc (S := fun k => k = w3.heap.size) (w := w3) (.cells #[.int .u32 0, .int .u64 0] 217)).trans (Fr.grown (S := fun k => k = w3.heap.size) g5 (by simp)) (fun b hb e => e))
         have hp3 := HK.out.lts
         have hx3 := heap_lt HX.out
         have HK5 := Lib.hid (HK.out.fr F5 (by omega) (by omega) (by omega))
         have HX5 := Lib.hid (heap_fr HX.out F5 (by omega))
         have HF5 := Lib.hid (HF.out.trans F5 (fun b hb e => by have := HF.out.size; omega))
         obtain ⟨d1, d2'⟩ := cells2 HX5.out
         have X5 := Lib.hid x5
         obtain ⟨e1, e2⟩ := cells2 x5
         clear x5 g5 F5 hp3 hx3)
        | fail)
        go_ret
        exact ⟨rfl, HK5.out, HF5.out⟩
      · rw [if_neg hmx] at hsp
        have hpl : ∀ w, Calls Tryz.prog 159 #[.agg #[.int .i64 b, .int .i64 s], .int .u32 ((l1 : Int) + 1)] w fun e w' => e = .returned (.int .i64 (place b s (l1 + 1))) ∧ Below w.heap.size w w' := fun w => c_place b s (l1 + 1) w Hon.out.1 (by omega)
        have hpr := place_on Hon.out (l1 + 1)
        have hrec : ∀ w, Calls Tryz.prog 160 #[.int .u32 ((l1 : Int) + 1), .int .u64 (x : Int)] w fun e w' => e = .returned (.agg (bytesV (Seal.rec (l1 + 1) x)).toArray) ∧ Below w.heap.size w w' := fun w => Seal.c_Record (l1 + 1) x w (by omega) hx
        have hrl := rec_len (l1 + 1) x
        have hwr := fun w (h : Dk w p g mb c d) => c_dWrite h (by omega) (place b s (l1 + 1)) (by omega) (Seal.rec (l1 + 1) x) hrl
        have hwo := write_ops d (place b s (l1 + 1)) (Seal.rec (l1 + 1) x)
        have hwe := write_err d (place b s (l1 + 1)) (Seal.rec (l1 + 1) x)
        generalize place b s (l1 + 1) = at1 at *
        generalize Seal.rec (l1 + 1) x = sc at *
        obtain ⟨⟨dw, ew⟩, hw⟩ : ∃ r, d.write at1 sc = r := ⟨_, rfl⟩
        rw [hw] at hsp hwo hwe
        simp only [hw, secV] at hsp hwo hwe hwr
        have Hw := Lib.hid hw
        clear hw hrl
        have hflush := fun w (h : Dk w p g mb c dw) => c_Flush h (by omega)
        by_cases hew : ew = 0
        · rw [if_pos hew] at hsp
          subst hew
          have Hsp := Lib.hid hsp
          clear hsp
          go_wp2_with (first
        | (go_at_call 62
           (with_reducible refine (c_Made HK.out).mono ?_)
           rintro e w' ⟨rfl, rfl⟩)
        | (go_at_call 157
           (with_reducible refine (c_on _ _ _ _ _ HV.out).mono ?_)
           rintro e w2 ⟨rfl, hb2⟩
           rw [hd.out]
           have HF := Lib.hid (HF.out.trans (Fr.of_bel (S := fun _ => False) hb2) (fun _ _ e => e.elim))
           have HK := Lib.hid (HK.out.bel hb2)
           have HX := Lib.hid ((hb2.block _ (heap_lt HX.out)).trans HX.out)
           clear d1 d2'
           obtain ⟨d1, d2'⟩ := cells2 HX.out
           clear hb2)
        | (go_at_call 112
           (with_reducible refine (c_Broken HK.out).mono ?_)
           rintro e w' ⟨rfl, rfl⟩
           rw [hbr.out])
        | (go_at_call 158
           (with_reducible refine (hL _ HK.out).mono ?_)
           rintro e w3 ⟨rfl, hb3⟩
           rw [Hl.out]
           have HF := Lib.hid (HF.out.trans (Fr.of_bel (S := fun _ => False) hb3) (fun _ _ e => e.elim))
           have HK := Lib.hid (HK.out.bel hb3)
           have HX := Lib.hid ((hb3.block _ (heap_lt HX.out)).trans HX.out)
           have HX7 := Lib.hid (heap_alloc_new w3 (.cells #[.int .u32 0, .int .u64 0] 217))
           clear d1 d2' hb3 hL)
        | (refine wpL_store_all rfl rfl 217 (.tmp 10) (.tmp 30) rfl _ rfl _ rfl _ _ HX7.out (by kernel_rfl) rfl (by simp [Value.oneCell']) ?_
           intro w5 x5 g5
           have F5 := ((Fr.alloc (S := fun k => k = w3.heap.size) (w := w3) (.cells #[.int .u32 0, .int .u64 0] 217)).trans (Fr.grown (S := fun k => k = w3.heap.size) g5 (by simp)) (fun b hb e => e))
           have hp3 := HK.out.lts
           have hx3 := heap_lt HX.out
           have HK5 := Lib.hid (HK.out.fr F5 (by omega) (by omega) (by omega))
           have HX5 := Lib.hid (heap_fr HX.out F5 (by omega))
           have HF5 := Lib.hid (HF.out.trans F5 (fun b hb e => by have := HF.out.size; omega))
           obtain ⟨d1, d2'⟩ := cells2 HX5.out
           have X5 := Lib.hid x5
           obtain ⟨e1, e2⟩ := cells2 x5
           clear x5 g5 F5 hp3 hx3)
        | (go_at_call 159
           (with_reducible refine (hpl _).mono ?_)
           rintro e w6 ⟨rfl, hb6⟩
           have HF6 := Lib.hid (HF5.out.trans (Fr.of_bel (S := fun _ => False) hb6) (fun _ _ e => e.elim))
           have HK6 := Lib.hid (HK5.out.bel hb6)
           clear hb6 d1 d2' e1 e2 hpl)
        | (go_at_call 160
           (with_reducible refine (hrec _).mono ?_)
           rintro e w7 ⟨rfl, hb7⟩
           have HF7 := Lib.hid (HF6.out.trans (Fr.of_bel (S := fun _ => False) hb7) (fun _ _ e => e.elim))
           have HK7 := Lib.hid (HK6.out.bel hb7)
           clear hb7 hrec)
        | (go_at_call 128
           (with_reducible refine (hwr _ HK7.out).mono ?_)
           rintro e w8 ⟨rfl, hk8, f8⟩
           have HF8 := Lib.hid (HF7.out.trans f8 (fun _ _ e => by rcases e with e | e; exact .inl e; exact .inr (.inr e)))
           have HK8 := Lib.hid hk8
           clear hk8 f8 hwr)
          | (go_at_call 71
             (with_reducible refine (hflush _ HK8.out).mono ?_)
             rintro e w9 ⟨rfl, hk9, f9⟩
             rw [Hsp.out] at hk9 ⊢
             have HF9 := Lib.hid (HF8.out.trans f9 (fun _ _ e => e))
             have HK9 := Lib.hid hk9
             clear hk9 f9 hflush))
          go_ret
          exact ⟨rfl, HK9.out, HF9.out⟩
        · rw [if_neg hew] at hsp
          obtain ⟨rfl, rfl⟩ := Prod.mk.inj hsp
          have hne : ((ew : Int) != 0) = true := by simp; omega
          clear hsp hew
          go_wp2_with (first
        | (go_at_call 62
           (with_reducible refine (c_Made HK.out).mono ?_)
           rintro e w' ⟨rfl, rfl⟩)
        | (go_at_call 157
           (with_reducible refine (c_on _ _ _ _ _ HV.out).mono ?_)
           rintro e w2 ⟨rfl, hb2⟩
           rw [hd.out]
           have HF := Lib.hid (HF.out.trans (Fr.of_bel (S := fun _ => False) hb2) (fun _ _ e => e.elim))
           have HK := Lib.hid (HK.out.bel hb2)
           have HX := Lib.hid ((hb2.block _ (heap_lt HX.out)).trans HX.out)
           clear d1 d2'
           obtain ⟨d1, d2'⟩ := cells2 HX.out
           clear hb2)
        | (go_at_call 112
           (with_reducible refine (c_Broken HK.out).mono ?_)
           rintro e w' ⟨rfl, rfl⟩
           rw [hbr.out])
        | (go_at_call 158
           (with_reducible refine (hL _ HK.out).mono ?_)
           rintro e w3 ⟨rfl, hb3⟩
           rw [Hl.out]
           have HF := Lib.hid (HF.out.trans (Fr.of_bel (S := fun _ => False) hb3) (fun _ _ e => e.elim))
           have HK := Lib.hid (HK.out.bel hb3)
           have HX := Lib.hid ((hb3.block _ (heap_lt HX.out)).trans HX.out)
           have HX7 := Lib.hid (heap_alloc_new w3 (.cells #[.int .u32 0, .int .u64 0] 217))
           clear d1 d2' hb3 hL)
        | (refine wpL_store_all rfl rfl 217 (.tmp 10) (.tmp 30) rfl _ rfl _ rfl _ _ HX7.out (by kernel_rfl) rfl (by simp [Value.oneCell']) ?_
           intro w5 x5 g5
           have F5 := ((Fr.alloc (S := fun k => k = w3.heap.size) (w := w3) (.cells #[.int .u32 0, .int .u64 0] 217)).trans (Fr.grown (S := fun k => k = w3.heap.size) g5 (by simp)) (fun b hb e => e))
           have hp3 := HK.out.lts
           have hx3 := heap_lt HX.out
           have HK5 := Lib.hid (HK.out.fr F5 (by omega) (by omega) (by omega))
           have HX5 := Lib.hid (heap_fr HX.out F5 (by omega))
           have HF5 := Lib.hid (HF.out.trans F5 (fun b hb e => by have := HF.out.size; omega))
           obtain ⟨d1, d2'⟩ := cells2 HX5.out
           have X5 := Lib.hid x5
           obtain ⟨e1, e2⟩ := cells2 x5
           clear x5 g5 F5 hp3 hx3)
        | (go_at_call 159
           (with_reducible refine (hpl _).mono ?_)
           rintro e w6 ⟨rfl, hb6⟩
           have HF6 := Lib.hid (HF5.out.trans (Fr.of_bel (S := fun _ => False) hb6) (fun _ _ e => e.elim))
           have HK6 := Lib.hid (HK5.out.bel hb6)
           clear hb6 d1 d2' e1 e2 hpl)
        | (go_at_call 160
           (with_reducible refine (hrec _).mono ?_)
           rintro e w7 ⟨rfl, hb7⟩
           have HF7 := Lib.hid (HF6.out.trans (Fr.of_bel (S := fun _ => False) hb7) (fun _ _ e => e.elim))
           have HK7 := Lib.hid (HK6.out.bel hb7)
           clear hb7 hrec)
        | (go_at_call 128
           (with_reducible refine (hwr _ HK7.out).mono ?_)
           rintro e w8 ⟨rfl, hk8, f8⟩
           have HF8 := Lib.hid (HF7.out.trans f8 (fun _ _ e => by rcases e with e | e; exact .inl e; exact .inr (.inr e)))
           have HK8 := Lib.hid hk8
           clear hk8 f8 hwr)
          | fail)
          go_ret
          exact ⟨rfl, HK8.out, HF8.out⟩
  · rw [if_neg hon] at hsp
    obtain ⟨rfl, rfl⟩ := Prod.mk.inj hsp
    have hd := Lib.hid (decide_eq_false hon)
    clear hsp hon
    go_wp2_with (first
  | (go_at_call 62
     (with_reducible refine (c_Made HK.out).mono ?_)
     rintro e w' ⟨rfl, rfl⟩)
  | (go_at_call 157
     (with_reducible refine (c_on _ _ _ _ _ HV.out).mono ?_)
     rintro e w2 ⟨rfl, hb2⟩
     rw [hd.out]
     have HF := Lib.hid (HF.out.trans (Fr.of_bel (S := fun _ => False) hb2) (fun _ _ e => e.elim))
     have HK := Lib.hid (HK.out.bel hb2)
     have HX := Lib.hid ((hb2.block _ (heap_lt HX.out)).trans HX.out)
     clear d1 d2'
     obtain ⟨d1, d2'⟩ := cells2 HX.out
     clear hb2)
    | fail)
    go_ret
    exact ⟨rfl, HK.out, HF.out⟩
end
end Go.Proofs.YtaldlapnhhhclaaGreat.Slots
/- The laws SlotsPlaces and SlotsNone, walked. Conditions: none. -/
namespace Go.Proofs.YtaldlapnhhhclaaGreat.Slots
open Go.RowKit Tw Disk
set_option maxHeartbeats 4000000
set_option maxRecDepth 100000
theorem c_dNewI' (X : Int) (n : Nat) (hX : X = (n : Int)) (w : World) (h1 : 1 ≤ n) (h2 : n ≤ 1024) :
    Calls Tryz.prog 17 #[.int .i64 X] w fun e w' => ∃ p g mb, e = .returned (.tuple #[.pointer (some ⟨p, 0, none⟩), .int .i64 0]) ∧ Dk w' p g mb n (Dsk.new n) ∧ (w.heap.size ≤ p ∧ w.heap.size ≤ g ∧ w.heap.size ≤ mb) ∧ Below w.heap.size w w' := by
  subst hX
  exact c_dNew n w h1 h2
theorem c_PutI {w : World} {p g mb c : Nat} {d d' : Dsk} (h : Dk w p g mb c d) (ho : d.ops + 1 < 1000000000) (b s : Int) (X : Int) (x : Nat) (hX : X = (x : Int)) (hx : x < 18446744073709551616) (e : Nat) (hs : sput d b s x = (d', e)) :
    Calls Tryz.prog 113 #[.pointer (some ⟨p, 0, none⟩), .int .i64 b, .int .i64 s, .int .u64 X] w fun e' w' => e' = .returned (.int .i64 (e : Int)) ∧ Dk w' p g mb c d' ∧ Fr (fun k => k = p ∨ k = g ∨ k = mb) w w' := by
  subst hX
  have h1 := c_Put h ho b s x hx
  rw [hs] at h1
  exact h1
theorem Dk.fresh {w0 w w' : World} {p g mb : Nat} (h : w0.heap.size ≤ p ∧ w0.heap.size ≤ g ∧ w0.heap.size ≤ mb) (hB : Below w0.heap.size w0 w) (f : Fr (fun k => k = p ∨ k = g ∨ k = mb) w w') : Below w0.heap.size w0 w' :=
  hB.trans (f.bel (fun k e => by omega) hB.size)
end Go.Proofs.YtaldlapnhhhclaaGreat.Slots
/- The reference's ring of slots (twainref07): Latest, Put. Conditions: at most 10^9 operations. -/
namespace Go.Proofs.YtaldlapnhhhclaaGreat.Slots
open Go.RowKit Tw Disk
set_option maxHeartbeats 4000000
set_option maxRecDepth 100000
section
variable {w : World} {q r c : Nat} {d : Dsk}
theorem r_Latest_off (h : Rk w q r c d) (b s : Int) (hn : ¬ On b s d.cells.length) : Calls Tryz.prog 68 #[.pointer (some ⟨q, 0, none⟩), .int .i64 b, .int .i64 s] w fun e w' => e = .returned (.tuple #[.int .u32 0, .int .u64 0]) ∧ Below w.heap.size w w' := by
  have hN := h.ok.n
  obtain ⟨k0, k1, k2, k3⟩ := h.cells
  clear h
  have hg := fun w => c_rring b s w
  by_cases hr : RingOk b s
  · have hd := Lib.hid (decide_eq_true hr)
    unfold On at hn
    have hn2 : ¬ b ≤ (d.cells.length : Int) - s := fun e => hn ⟨hr, e⟩
    unfold RingOk at hr
    clear hn
    go_enter Tryz.func68, Tryz.ntmps68
    go_wp2_with (first
      | (go_at_call 114
         (with_reducible refine (hg _).mono ?_)
         rintro e w1 ⟨rfl, rfl⟩
         rw [hd.out]))
    go_ret2
    exact ⟨rfl, Below.refl _ _⟩
  · have hd := Lib.hid (decide_eq_false hr)
    clear hr hn
    go_enter Tryz.func68, Tryz.ntmps68
    go_wp2_with (first
      | (go_at_call 114
         (with_reducible refine (hg _).mono ?_)
         rintro e w1 ⟨rfl, rfl⟩
         rw [hd.out]))
    go_ret2
    exact ⟨rfl, Below.refl _ _⟩
theorem r_Latest (h : Rk w q r c d) (b s : Int) : Calls Tryz.prog 68 #[.pointer (some ⟨q, 0, none⟩), .int .i64 b, .int .i64 s] w fun e w' => e = .returned (.tuple #[.int .u32 ((latest d b s).1 : Nat), .int .u64 ((latest d b s).2 : Nat)]) ∧ Below w.heap.size w w' := by
  by_cases hon : On b s d.cells.length
  · have hN := h.ok.n
    obtain ⟨k0, k1, k2, k3⟩ := h.cells
    have HK := Lib.hid h
    have hd := Lib.hid (decide_eq_true hon.1)
    have hg := fun w => c_rring b s w
    have hok := Lib.hid h.ok
    unfold latest
    rw [if_pos hon]
    obtain ⟨k, rfl⟩ : ∃ k : Nat, s = (k : Int) := ⟨s.toNat, by unfold On RingOk at hon; omega⟩
    have hr := Lib.hid hon.1
    obtain ⟨⟨r1, r2, r3, r4⟩, r5⟩ := hon
    rw [Int.toNat_natCast]
    clear h
    go_enter Tryz.func68, Tryz.ntmps68
    go_wp2_with (first
      | (go_at_call 114
         (with_reducible refine (hg _).mono ?_)
         rintro e w1 ⟨rfl, rfl⟩
         rw [hd.out]))
    clear k0 k1 k2 k3
    go_loopw [8, 9, 10] (fun v8 v9 v10 wr => ∃ (j p1 p2 : Nat), j ≤ k ∧ v8 = .int .u32 (p1 : Int) ∧ v9 = .int .u64 (p2 : Int) ∧ v10 = .int .i64 (b + (j : Int)) ∧ Hid (best d b k j = (p1, p2)) ∧ Hid (Rk wr q r c d) ∧ Hid (Below w.heap.size w wr)) (fun _ _ v10 _ => k - (intOf v10 - b).toNat)
    case atStart => exact ⟨0, 0, 0, Nat.zero_le _, rfl, rfl, by rw [show ((0 : Nat) : Int) = 0 from rfl, Int.add_zero], Lib.hid rfl, HK, Lib.hid (Below.refl _ _)⟩
    case round =>
      clear HK
      obtain ⟨j, p1, p2, hj, rfl, rfl, rfl, Hb, HK, HB⟩ := hrel
      by_cases hjk : j < k
      · obtain ⟨⟨sc, er⟩, hrd⟩ : ∃ r, d.read (b + (j : Int)) = r := ⟨_, rfl⟩
        obtain ⟨⟨n, x, ok⟩, hop⟩ : ∃ r, Seal.opened sc = r := ⟨_, rfl⟩
        have hsl := read_len hok.out (b + (j : Int))
        have hol := opened_lt sc
        rw [hrd] at hsl
        rw [hop] at hol
        simp only at hsl hol
        have Hsl := Lib.hid hsl
        have hsz : Hid ((bytesV sc).toArray.size = 16) := Lib.hid (by rw [List.size_toArray, bytesV_length]; exact hsl)
        have Hrd := Lib.hid hrd
        have Hop := Lib.hid hop
        have hnext : best d b k (j + 1) = better (p1, p2) (if er = 0 then (if ok = true ∧ place b k n = b + (j : Int) then (n, x) else (0, 0)) else (0, 0)) := by
          rw [best, Hb.out]
          unfold readAt told
          rw [hrd]
          simp only
          rw [hop]
        have hpl := fun w => c_rPlace b k n w hol.1
        rw [if_pos hr.out] at hpl
        clear hrd hop hsl
        by_cases he : er = 0
        · subst he
          cases ok with
          | false =>
            have hq : better (p1, p2) (if (0 : Nat) = 0 then (if false = true ∧ place b k n = b + (j : Int) then (n, x) else (0, 0)) else (0, 0)) = (p1, p2) := by simp [better]
            have HN : Hid (best d b k (j + 1) = (p1, p2)) := Lib.hid (by rw [hnext]; exact hq)
            clear hnext
            go_wp2_with (first
            | (go_at_call 123
               (with_reducible refine (r_Read HK.out _).mono ?_)
               rintro e w5 ⟨rfl, hb5⟩
               rw [Hrd.out]
               simp only [secV]
               have HZ := Lib.hid (heap_alloc_new w5 (.cells #[.int .u8 0, .int .u8 0, .int .u8 0, .int .u8 0, .int .u8 0, .int .u8 0, .int .u8 0, .int .u8 0, .int .u8 0, .int .u8 0, .int .u8 0, .int .u8 0, .int .u8 0, .int .u8 0, .int .u8 0, .int .u8 0] 127))
               have HZB := Lib.hid ((Below.refl w5.heap.size w5).alloc (Nat.le_refl _) (.cells #[.int .u8 0, .int .u8 0, .int .u8 0, .int .u8 0, .int .u8 0, .int .u8 0, .int .u8 0, .int .u8 0, .int .u8 0, .int .u8 0, .int .u8 0, .int .u8 0, .int .u8 0, .int .u8 0, .int .u8 0, .int .u8 0] 127))
               have HK5 := Lib.hid (HK.out.bel hb5)
               have HB5 := Lib.hid (HB.out.trans (hb5.mono HB.out.size))
               clear hb5)
            | (refine wpL_store_all rfl rfl 127 (.tmp 11) (.tmp 43) rfl _ rfl _ rfl _ _ HZ.out (by rw [hsz.out]; kernel_rfl) hsz.out (fun v hv => bytesV_one v (by simpa using hv)) ?_
               intro w6 x6 g6
               have hb6 := HZB.out.grown g6 HZB.out.size (by rintro k ⟨⟩; exact Nat.le_refl _)
               have HX6 := Lib.hid x6
               have HK6 := Lib.hid (HK5.out.bel hb6)
               have HB6 := Lib.hid (HB5.out.trans (hb6.mono HB5.out.size))
               clear x6 g6 hb6 HZ HZB)
            | (refine wpList_load_row rfl 127 (.tmp 11) rfl _ rfl _ _ _ _ HX6.out Tryz.underlying127 rfl (by rw [hsz.out]; kernel_rfl) ?_)
            | (go_at_call 124
               (with_reducible refine (Seal.c_rOpen sc _ Hsl.out).mono ?_)
               rintro e w7 ⟨rfl, hb7⟩
               rw [Hop.out]
               have HK7 := Lib.hid (HK6.out.bel hb7)
               have HB7 := Lib.hid (HB6.out.trans (hb7.mono HB6.out.size))
               clear hb7)
            | (go_at_call 116
               (with_reducible refine (hpl _).mono ?_)
               rintro e w8 ⟨rfl, rfl⟩)
            )
            go_roundw
            case rel => exact ⟨j + 1, p1, p2, by omega, rfl, rfl, by go_num, HN, HK7, HB7⟩
            case measure => simp [intOf] <;> omega
          | true =>
            by_cases hlt : p1 < n
            · by_cases hpe : place b k n = b + (j : Int)
              · have HN : Hid (best d b k (j + 1) = (n, x)) := Lib.hid (by rw [hnext]; simp [better, hlt, hpe])
                have hpe2 : (place b k n == b + (j : Int)) = true := by simp [hpe]
                clear hnext
                go_wp2_with (first
                | (go_at_call 123
                   (with_reducible refine (r_Read HK.out _).mono ?_)
                   rintro e w5 ⟨rfl, hb5⟩
                   rw [Hrd.out]
                   simp only [secV]
                   have HZ := Lib.hid (heap_alloc_new w5 (.cells #[.int .u8 0, .int .u8 0, .int .u8 0, .int .u8 0, .int .u8 0, .int .u8 0, .int .u8 0, .int .u8 0, .int .u8 0, .int .u8 0, .int .u8 0, .int .u8 0, .int .u8 0, .int .u8 0, .int .u8 0, .int .u8 0] 127))
                   have HZB := Lib.hid ((Below.refl w5.heap.size w5).alloc (Nat.le_refl _) (.cells #[.int .u8 0, .int .u8 0, .int .u8 0, .int .u8 0, .int .u8 0, .int .u8 0, .int .u8 0, .int .u8 0, .int .u8 0, .int .u8 0, .int .u8 0, .int .u8 0, .int .u8 0, .int .u8 0, .int .u8 0, .int .u8 0] 127))
                   have HK5 := Lib.hid (HK.out.bel hb5)
                   have HB5 := Lib.hid (HB.out.trans (hb5.mono HB.out.size))
                   clear hb5)
                | (refine wpL_store_all rfl rfl 127 (.tmp 11) (.tmp 43) rfl _ rfl _ rfl _ _ HZ.out (by rw [hsz.out]; kernel_rfl) hsz.out (fun v hv => bytesV_one v (by simpa using hv)) ?_
                   intro w6 x6 g6
                   have hb6 := HZB.out.grown g6 HZB.out.size (by rintro k ⟨⟩; exact Nat.le_refl _)
                   have HX6 := Lib.hid x6
                   have HK6 := Lib.hid (HK5.out.bel hb6)
                   have HB6 := Lib.hid (HB5.out.trans (hb6.mono HB5.out.size))
                   clear x6 g6 hb6 HZ HZB)
                | (refine wpList_load_row rfl 127 (.tmp 11) rfl _ rfl _ _ _ _ HX6.out Tryz.underlying127 rfl (by rw [hsz.out]; kernel_rfl) ?_)
                | (go_at_call 124
                   (with_reducible refine (Seal.c_rOpen sc _ Hsl.out).mono ?_)
                   rintro e w7 ⟨rfl, hb7⟩
                   rw [Hop.out]
                   have HK7 := Lib.hid (HK6.out.bel hb7)
                   have HB7 := Lib.hid (HB6.out.trans (hb7.mono HB6.out.size))
                   clear hb7)
                | (go_at_call 116
                   (with_reducible refine (hpl _).mono ?_)
                   rintro e w8 ⟨rfl, rfl⟩)
                )
                go_roundw
                case rel => exact ⟨j + 1, n, x, by omega, rfl, rfl, by go_num, HN, HK7, HB7⟩
                case measure => simp [intOf] <;> omega
              · have hpe2 : (place b k n == b + (j : Int)) = false := by simp [hpe]
                have hq : better (p1, p2) (if (0 : Nat) = 0 then (if true = true ∧ place b k n = b + (j : Int) then (n, x) else (0, 0)) else (0, 0)) = (p1, p2) := by simp [better, hpe]
                have HN : Hid (best d b k (j + 1) = (p1, p2)) := Lib.hid (by rw [hnext]; exact hq)
                clear hnext
                go_wp2_with (first
                | (go_at_call 123
                   (with_reducible refine (r_Read HK.out _).mono ?_)
                   rintro e w5 ⟨rfl, hb5⟩
                   rw [Hrd.out]
                   simp only [secV]
                   have HZ := Lib.hid (heap_alloc_new w5 (.cells #[.int .u8 0, .int .u8 0, .int .u8 0, .int .u8 0, .int .u8 0, .int .u8 0, .int .u8 0, .int .u8 0, .int .u8 0, .int .u8 0, .int .u8 0, .int .u8 0, .int .u8 0, .int .u8 0, .int .u8 0, .int .u8 0] 127))
                   have HZB := Lib.hid ((Below.refl w5.heap.size w5).alloc (Nat.le_refl _) (.cells #[.int .u8 0, .int .u8 0, .int .u8 0, .int .u8 0, .int .u8 0, .int .u8 0, .int .u8 0, .int .u8 0, .int .u8 0, .int .u8 0, .int .u8 0, .int .u8 0, .int .u8 0, .int .u8 0, .int .u8 0, .int .u8 0] 127))
                   have HK5 := Lib.hid (HK.out.bel hb5)
                   have HB5 := Lib.hid (HB.out.trans (hb5.mono HB.out.size))
                   clear hb5)
                | (refine wpL_store_all rfl rfl 127 (.tmp 11) (.tmp 43) rfl _ rfl _ rfl _ _ HZ.out (by rw [hsz.out]; kernel_rfl) hsz.out (fun v hv => bytesV_one v (by simpa using hv)) ?_
                   intro w6 x6 g6
                   have hb6 := HZB.out.grown g6 HZB.out.size (by rintro k ⟨⟩; exact Nat.le_refl _)
                   have HX6 := Lib.hid x6
                   have HK6 := Lib.hid (HK5.out.bel hb6)
                   have HB6 := Lib.hid (HB5.out.trans (hb6.mono HB5.out.size))
                   clear x6 g6 hb6 HZ HZB)
                | (refine wpList_load_row rfl 127 (.tmp 11) rfl _ rfl _ _ _ _ HX6.out Tryz.underlying127 rfl (by rw [hsz.out]; kernel_rfl) ?_)
                | (go_at_call 124
                   (with_reducible refine (Seal.c_rOpen sc _ Hsl.out).mono ?_)
                   rintro e w7 ⟨rfl, hb7⟩
                   rw [Hop.out]
                   have HK7 := Lib.hid (HK6.out.bel hb7)
                   have HB7 := Lib.hid (HB6.out.trans (hb7.mono HB6.out.size))
                   clear hb7)
                | (go_at_call 116
                   (with_reducible refine (hpl _).mono ?_)
                   rintro e w8 ⟨rfl, rfl⟩)
                )
                go_roundw
                case rel => exact ⟨j + 1, p1, p2, by omega, rfl, rfl, by go_num, HN, HK7, HB7⟩
                case measure => simp [intOf] <;> omega
            · have hq : better (p1, p2) (if (0 : Nat) = 0 then (if true = true ∧ place b k n = b + (j : Int) then (n, x) else (0, 0)) else (0, 0)) = (p1, p2) := by
                by_cases hpe : place b k n = b + (j : Int)
                · simp [better, hpe, hlt]
                · simp [better, hpe]
              have HN : Hid (best d b k (j + 1) = (p1, p2)) := Lib.hid (by rw [hnext]; exact hq)
              clear hnext
              go_wp2_with (first
              | (go_at_call 123
                 (with_reducible refine (r_Read HK.out _).mono ?_)
                 rintro e w5 ⟨rfl, hb5⟩
                 rw [Hrd.out]
                 simp only [secV]
                 have HZ := Lib.hid (heap_alloc_new w5 (.cells #[.int .u8 0, .int .u8 0, .int .u8 0, .int .u8 0, .int .u8 0, .int .u8 0, .int .u8 0, .int .u8 0, .int .u8 0, .int .u8 0, .int .u8 0, .int .u8 0, .int .u8 0, .int .u8 0, .int .u8 0, .int .u8 0] 127))
                 have HZB := Lib.hid ((Below.refl w5.heap.size w5).alloc (Nat.le_refl _) (.cells #[.int .u8 0, .int .u8 0, .int .u8 0, .int .u8 0, .int .u8 0, .int .u8 0, .int .u8 0, .int .u8 0, .int .u8 0, .int .u8 0, .int .u8 0, .int .u8 0, .int .u8 0, .int .u8 0, .int .u8 0, .int .u8 0] 127))
                 have HK5 := Lib.hid (HK.out.bel hb5)
                 have HB5 := Lib.hid (HB.out.trans (hb5.mono HB.out.size))
                 clear hb5)
              | (refine wpL_store_all rfl rfl 127 (.tmp 11) (.tmp 43) rfl _ rfl _ rfl _ _ HZ.out (by rw [hsz.out]; kernel_rfl) hsz.out (fun v hv => bytesV_one v (by simpa using hv)) ?_
                 intro w6 x6 g6
                 have hb6 := HZB.out.grown g6 HZB.out.size (by rintro k ⟨⟩; exact Nat.le_refl _)
                 have HX6 := Lib.hid x6
                 have HK6 := Lib.hid (HK5.out.bel hb6)
                 have HB6 := Lib.hid (HB5.out.trans (hb6.mono HB5.out.size))
                 clear x6 g6 hb6 HZ HZB)
              | (refine wpList_load_row rfl 127 (.tmp 11) rfl _ rfl _ _ _ _ HX6.out Tryz.underlying127 rfl (by rw [hsz.out]; kernel_rfl) ?_)
              | (go_at_call 124
                 (with_reducible refine (Seal.c_rOpen sc _ Hsl.out).mono ?_)
                 rintro e w7 ⟨rfl, hb7⟩
                 rw [Hop.out]
                 have HK7 := Lib.hid (HK6.out.bel hb7)
                 have HB7 := Lib.hid (HB6.out.trans (hb7.mono HB6.out.size))
                 clear hb7)
              | (go_at_call 116
                 (with_reducible refine (hpl _).mono ?_)
                 rintro e w8 ⟨rfl, rfl⟩)
              )
              go_roundw
              case rel => exact ⟨j + 1, p1, p2, by omega, rfl, rfl, by go_num, HN, HK7, HB7⟩
              case measure => simp [intOf] <;> omega
        · have hne : ((er : Int) == 0) = false := by simp; omega
          have hq : better (p1, p2) (if er = 0 then (if ok = true ∧ place b k n = b + (j : Int) then (n, x) else (0, 0)) else (0, 0)) = (p1, p2) := by simp [better, he]
          have HN : Hid (best d b k (j + 1) = (p1, p2)) := Lib.hid (by rw [hnext]; exact hq)
          clear hnext
          go_wp2_with (first
          | (go_at_call 123
             (with_reducible refine (r_Read HK.out _).mono ?_)
             rintro e w5 ⟨rfl, hb5⟩
             rw [Hrd.out]
             simp only [secV]
             have HZ := Lib.hid (heap_alloc_new w5 (.cells #[.int .u8 0, .int .u8 0, .int .u8 0, .int .u8 0, .int .u8 0, .int .u8 0, .int .u8 0, .int .u8 0, .int .u8 0, .int .u8 0, .int .u8 0, .int .u8 0, .int .u8 0, .int .u8 0, .int .u8 0, .int .u8 0] 127))
             have HZB := Lib.hid ((Below.refl w5.heap.size w5).alloc (Nat.le_refl _) (.cells #[.int .u8 0, .int .u8 0, .int .u8 0, .int .u8 0, .int .u8 0, .int .u8 0, .int .u8 0, .int .u8 0, .int .u8 0, .int .u8 0, .int .u8 0, .int .u8 0, .int .u8 0, .int .u8 0, .int .u8 0, .int .u8 0] 127))
             have HK5 := Lib.hid (HK.out.bel hb5)
             have HB5 := Lib.hid (HB.out.trans (hb5.mono HB.out.size))
             clear hb5)
          | (refine wpL_store_all rfl rfl 127 (.tmp 11) (.tmp 43) rfl _ rfl _ rfl _ _ HZ.out (by rw [hsz.out]; kernel_rfl) hsz.out (fun v hv => bytesV_one v (by simpa using hv)) ?_
             intro w6 x6 g6
             have hb6 := HZB.out.grown g6 HZB.out.size (by rintro k ⟨⟩; exact Nat.le_refl _)
             have HX6 := Lib.hid x6
             have HK6 := Lib.hid (HK5.out.bel hb6)
             have HB6 := Lib.hid (HB5.out.trans (hb6.mono HB5.out.size))
             clear x6 g6 hb6 HZ HZB)
          | (refine wpList_load_row rfl 127 (.tmp 11) rfl _ rfl _ _ _ _ HX6.out Tryz.underlying127 rfl (by rw [hsz.out]; kernel_rfl) ?_)
          | (go_at_call 124
             (with_reducible refine (Seal.c_rOpen sc _ Hsl.out).mono ?_)
             rintro e w7 ⟨rfl, hb7⟩
             rw [Hop.out]
             have HK7 := Lib.hid (HK6.out.bel hb7)
             have HB7 := Lib.hid (HB6.out.trans (hb7.mono HB6.out.size))
             clear hb7)
          | (go_at_call 116
             (with_reducible refine (hpl _).mono ?_)
             rintro e w8 ⟨rfl, rfl⟩)
          )
          go_roundw
          case rel => exact ⟨j + 1, p1, p2, by omega, rfl, rfl, by go_num, HN, HK7, HB7⟩
          case measure => simp [intOf] <;> omega
      · obtain rfl : j = k := by omega
        go_wp2_with fail
        go_ret2
        rw [Hb.out]
        exact ⟨rfl, HB.out⟩
  · have hl : latest d b s = (0, 0) := by unfold latest; rw [if_neg hon]
    rw [hl]
    exact r_Latest_off h b s hon
theorem r_Put (h : Rk w q r c d) (ho : d.ops + 1 < 1000000000) (b s : Int) (x : Nat) (hx : x < 18446744073709551616) :
    Calls Tryz.prog 61 #[.pointer (some ⟨q, 0, none⟩), .int .i64 b, .int .i64 s, .int .u64 (x : Int)] w fun e w' => e = .returned (.int .i64 ((sput d b s x).2 : Int)) ∧ Rk w' q r c (sput d b s x).1 ∧ Fr (fun k => k = q ∨ k = r) w w' := by
  have hN := h.ok.n
  obtain ⟨⟨d2, e2⟩, hsp⟩ : ∃ r, sput d b s x = r := ⟨_, rfl⟩
  rw [hsp]
  unfold sput at hsp
  have hg := fun w => c_rring b s w
  have HK := Lib.hid h
  obtain ⟨k0, k1, k2, k3⟩ := h.cells
  clear h
  by_cases hr : RingOk b s
  · have hd := Lib.hid (decide_eq_true hr)
    by_cases hbl : b ≤ (d.cells.length : Int) - s
    · have hon : On b s d.cells.length := ⟨hr, hbl⟩
      rw [if_pos hon] at hsp
      have Hon := Lib.hid hon
      have hr2 := hr
      unfold RingOk at hr2
      obtain ⟨r1, r2, r3, r4⟩ := hr2
      by_cases hbk : d.broken = true
      · rw [if_pos hbk] at hsp
        obtain ⟨rfl, rfl⟩ := Prod.mk.inj hsp
        rw [hbk] at k2
        clear hsp hbk hon
        go_enter Tryz.func61, Tryz.ntmps61
        go_wp2_with (first
      | (go_at_call 114
         (with_reducible refine (hg _).mono ?_)
         rintro e w1 ⟨rfl, rfl⟩
         rw [hd.out])
        )
        go_ret
        exact ⟨rfl, HK.out, Fr.refl _ _⟩
      · rw [if_neg hbk] at hsp
        have hbr : d.broken = false := by simpa using hbk
        rw [hbr] at k2
        have hll := latest_lt d b s
        obtain ⟨⟨l1, l2⟩, hl⟩ : ∃ r, latest d b s = r := ⟨_, rfl⟩
        have hL := fun w (h : Rk w q r c d) => r_Latest h b s
        rw [hl] at hsp hll hL
        simp only at hsp hll hL
        clear hl hbk hon hbr
        by_cases hmx : l1 = 4294967295
        · rw [if_pos hmx] at hsp
          obtain ⟨rfl, rfl⟩ := Prod.mk.inj hsp
          subst hmx
          clear hsp
          go_enter Tryz.func61, Tryz.ntmps61
          go_wp2_with (first
        | (go_at_call 114
           (with_reducible refine (hg _).mono ?_)
           rintro e w1 ⟨rfl, rfl⟩
           rw [hd.out])
        | (go_at_call 68
           (with_reducible refine (hL _ HK.out).mono ?_)
           rintro e w3 ⟨rfl, hb3⟩
           have HF3 := Lib.hid (Fr.of_bel (S := fun k => k = q ∨ k = r) hb3)
           have HK3 := Lib.hid (HK.out.bel hb3)
           clear hb3 hL k0 k1 k2 k3)
          )
          go_ret
          exact ⟨rfl, HK3.out, HF3.out⟩
        · rw [if_neg hmx] at hsp
          have hpl : ∀ w, Calls Tryz.prog 116 #[.int .u32 ((l1 : Int) + 1), .int .i64 b, .int .i64 s] w fun e w' => e = .returned (.int .i64 (place b s (l1 + 1))) ∧ w = w' := fun w => by
            have := c_rPlace b s (l1 + 1) w (by omega)
            rw [if_pos hr] at this
            exact this
          have hpr := place_on Hon.out (l1 + 1)
          have hrec : ∀ w, Calls Tryz.prog 117 #[.int .u32 ((l1 : Int) + 1), .int .u64 (x : Int)] w fun e w' => e = .returned (.agg (bytesV (Seal.rec (l1 + 1) x)).toArray) ∧ Below w.heap.size w w' := fun w => Seal.c_rRecord (l1 + 1) x w (by omega) hx
          have hrl := rec_len (l1 + 1) x
          have hwr := fun w (h : Rk w q r c d) => r_Write h (by omega) (place b s (l1 + 1)) (Seal.rec (l1 + 1) x) hrl
          have hwo := write_ops d (place b s (l1 + 1)) (Seal.rec (l1 + 1) x)
          have hwe := write_err d (place b s (l1 + 1)) (Seal.rec (l1 + 1) x)
          generalize place b s (l1 + 1) = at1 at *
          generalize Seal.rec (l1 + 1) x = sc at *
          obtain ⟨⟨dw, ew⟩, hw⟩ : ∃ r, d.write at1 sc = r := ⟨_, rfl⟩
          rw [hw] at hsp hwo hwe
          simp only [hw] at hsp hwo hwe hwr
          clear hw hrl
          have hflush := fun w (h : Rk w q r c dw) => r_Flush h (by omega)
          by_cases hew : ew = 0
          · rw [if_pos hew] at hsp
            subst hew
            have Hsp := Lib.hid hsp
            clear hsp
            go_enter Tryz.func61, Tryz.ntmps61
            go_wp2_with (first
          | (go_at_call 114
             (with_reducible refine (hg _).mono ?_)
             rintro e w1 ⟨rfl, rfl⟩
             rw [hd.out])
          | (go_at_call 68
             (with_reducible refine (hL _ HK.out).mono ?_)
             rintro e w3 ⟨rfl, hb3⟩
             have HF3 := Lib.hid (Fr.of_bel (S := fun k => k = q ∨ k = r) hb3)
             have HK3 := Lib.hid (HK.out.bel hb3)
             clear hb3 hL k0 k1 k2 k3)
          | (go_at_call 116
             (with_reducible refine (hpl _).mono ?_)
             rintro e w6 ⟨rfl, rfl⟩
             clear hpl)
          | (go_at_call 117
             (with_reducible refine (hrec _).mono ?_)
             rintro e w7 ⟨rfl, hb7⟩
             have HF7 := Lib.hid (HF3.out.trans (Fr.of_bel (S := fun _ => False) hb7) (fun _ _ e => e.elim))
             have HK7 := Lib.hid (HK3.out.bel hb7)
             clear hb7 hrec)
          | (go_at_call 115
             (with_reducible refine (hwr _ HK7.out).mono ?_)
             rintro e w8 ⟨rfl, hk8, f8⟩
             have HF8 := Lib.hid (HF7.out.trans f8 (fun _ _ e => e))
             have HK8 := Lib.hid hk8
             clear hk8 f8 hwr)
            | (go_at_call 92
               (with_reducible refine (hflush _ HK8.out).mono ?_)
               rintro e w9 ⟨rfl, hk9, f9⟩
               rw [Hsp.out] at hk9 ⊢
               have HF9 := Lib.hid (HF8.out.trans f9 (fun _ _ e => e))
               have HK9 := Lib.hid hk9
               clear hk9 f9 hflush))
            go_ret
            exact ⟨rfl, HK9.out, HF9.out⟩
          · rw [if_neg hew] at hsp
            obtain ⟨rfl, rfl⟩ := Prod.mk.inj hsp
            have hne : ((ew : Int) != 0) = true := by simp; omega
            clear hsp hew
            go_enter Tryz.func61, Tryz.ntmps61
            go_wp2_with (first
          | (go_at_call 114
             (with_reducible refine (hg _).mono ?_)
             rintro e w1 ⟨rfl, rfl⟩
             rw [hd.out])
          | (go_at_call 68
             (with_reducible refine (hL _ HK.out).mono ?_)
             rintro e w3 ⟨rfl, hb3⟩
             have HF3 := Lib.hid (Fr.of_bel (S := fun k => k = q ∨ k = r) hb3)
             have HK3 := Lib.hid (HK.out.bel hb3)
             clear hb3 hL k0 k1 k2 k3)
          | (go_at_call 116
             (with_reducible refine (hpl _).mono ?_)
             rintro e w6 ⟨rfl, rfl⟩
             clear hpl)
          | (go_at_call 117
             (with_reducible refine (hrec _).mono ?_)
             rintro e w7 ⟨rfl, hb7⟩
             have HF7 := Lib.hid (HF3.out.trans (Fr.of_bel (S := fun _ => False) hb7) (fun _ _ e => e.elim))
             have HK7 := Lib.hid (HK3.out.bel hb7)
             clear hb7 hrec)
          | (go_at_call 115
             (with_reducible refine (hwr _ HK7.out).mono ?_)
             rintro e w8 ⟨rfl, hk8, f8⟩
             have HF8 := Lib.hid (HF7.out.trans f8 (fun _ _ e => e))
             have HK8 := Lib.hid hk8
             clear hk8 f8 hwr)
            )
            go_ret
            exact ⟨rfl, HK8.out, HF8.out⟩
    · have hon : ¬ On b s d.cells.length := fun e => hbl e.2
      rw [if_neg hon] at hsp
      obtain ⟨rfl, rfl⟩ := Prod.mk.inj hsp
      unfold RingOk at hr
      clear hsp hon
      go_enter Tryz.func61, Tryz.ntmps61
      go_wp2_with (first
    | (go_at_call 114
       (with_reducible refine (hg _).mono ?_)
       rintro e w1 ⟨rfl, rfl⟩
       rw [hd.out])
      )
      go_ret
      exact ⟨rfl, HK.out, Fr.refl _ _⟩
  · have hon : ¬ On b s d.cells.length := fun e => hr e.1
    rw [if_neg hon] at hsp
    obtain ⟨rfl, rfl⟩ := Prod.mk.inj hsp
    have hd := Lib.hid (decide_eq_false hr)
    clear hsp hon hr
    go_enter Tryz.func61, Tryz.ntmps61
    go_wp2_with (first
  | (go_at_call 114
     (with_reducible refine (hg _).mono ?_)
     rintro e w1 ⟨rfl, rfl⟩
     rw [hd.out])
    )
    go_ret
    exact ⟨rfl, HK.out, Fr.refl _ _⟩
end
end Go.Proofs.YtaldlapnhhhclaaGreat.Slots
