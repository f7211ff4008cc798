/- The law DiskKeeps, walked. Conditions: none. -/
import Derived.Test.YtplemdgihlabgaaDiskKeeps
import Derived.Test.YtplemdgihlabgaaRegion3
import Derived.Test.YtplemdgihlabgaaRegion2
set_option linter.unusedVariables false
set_option linter.unusedSimpArgs false
namespace Go.Proofs.Ytplemdgihlabgaa.Disk
open Go.RowKit Tw Go.Maps Go.ChangeMaps
set_option maxHeartbeats 4000000
set_option maxRecDepth 100000

section
variable {w : World} {p g mb c : Nat} {d : Dsk}
theorem c_dWriteE (h : Dk w p g mb c d) (ho : d.ops < 1000000000) (x : Int) (hx : -9223372036854775808 ≤ x ∧ x ≤ 9223372036854775807) (s : Sec) (hs : s.length = 16) (d' : Dsk) (e : Nat) (hd : d.write x s = (d', e)) :
    Calls Try.prog 17 #[.pointer (some ⟨p, 0, none⟩), .int .i64 x, .agg (bytesV s).toArray] w fun e' w' => e' = .returned (.int .i64 (e : Int)) ∧ Dk w' p g mb c d' ∧ Fr (fun k => k = p ∨ k = g ∨ k = mb) w w' := by
  have h1 := c_dWrite h ho x hx s hs
  rw [hd] at h1
  exact h1.mono fun e' w' ⟨q1, q2, q3⟩ => ⟨q1, q2, q3.mono (fun k _ e => by rcases e with e | e; exact .inl e; exact .inr (.inr e))⟩
end
theorem keptV_cells {W : World} {g : Nat} {a : Int} {s : Sec} {m : Nat} {t : TypeId} (h : W.heap[g]? = some (.cells (keptV a s m).toArray t (0, 0))) (hs : s.length = 16) : W.cell? ⟨g, 0, none⟩ = some (.int .i64 a) ∧ W.cell? ⟨g, 17, none⟩ = some (.int .u64 (m : Int)) ∧ ∀ j v, (bytesV s)[j]? = some v → W.cell? ((⟨g, 1, none⟩ : Addr).add j) = some v := by
  refine ⟨by simp [World.cell?, h, keptV], ?_, fun j v hv => ?_⟩
  · have h1 : (keptV a s m)[17]? = some (.int .u64 (m : Int)) := by
      have := bytesV_length s
      simp [keptV, List.getElem?_append, this, hs]
    simp only [World.cell?, h]
    simpa using h1
  · rw [Addr.add_mid]
    have hj := (List.getElem?_eq_some_iff.1 hv).1
    have h1 : (keptV a s m)[1 + j]? = some v := by
      unfold keptV
      rw [List.getElem?_append_right (by simp), show 1 + j - [Value.int .i64 a].length = j by simp, List.getElem?_append_left hj, hv]
    simp only [World.cell?, h]
    simpa using h1
theorem dact_cells {W : World} {g : Nat} {k a : Int} {s : Sec} {m : Nat} {t : TypeId} (h : W.heap[g]? = some (.cells (dactV k a s m).toArray t (0, 0))) (hs : s.length = 16) : W.cell? ⟨g, 0, none⟩ = some (.int .i64 k) ∧ W.cell? ⟨g, 1, none⟩ = some (.int .i64 a) ∧ W.cell? ⟨g, 18, none⟩ = some (.int .u64 (m : Int)) ∧ ∀ j v, (bytesV s)[j]? = some v → W.cell? ((⟨g, 2, none⟩ : Addr).add j) = some v := by
  refine ⟨by simp [World.cell?, h, dactV], by simp [World.cell?, h, dactV], ?_, fun j v hv => ?_⟩
  · have h1 : (dactV k a s m)[18]? = some (.int .u64 (m : Int)) := by
      have := bytesV_length s
      simp [dactV, List.getElem?_append, this, hs]
    simp only [World.cell?, h]
    simpa using h1
  · rw [Addr.add_mid]
    have hj := (List.getElem?_eq_some_iff.1 hv).1
    have h1 : (dactV k a s m)[2 + j]? = some v := by
      unfold dactV
      rw [List.getElem?_append_right (by simp), show 2 + j - [Value.int .i64 k, Value.int .i64 a].length = j by simp, List.getElem?_append_left hj, hv]
    simp only [World.cell?, h]
    simpa using h1
theorem one_dact {k a : Int} {s : Sec} {m : Nat} : ∀ v ∈ (dactV k a s m).toArray, v.oneCell' = true := by
  intro v hv
  simp only [dactV, List.mem_toArray, List.mem_append, List.mem_cons, List.not_mem_nil, or_false] at hv
  rcases hv with (rfl | rfl) | hv | rfl
  · rfl
  · rfl
  · exact bytesV_one v hv
  · rfl
def dact0 : Array Value := #[.int .i64 0, .int .i64 0, .int .u8 0, .int .u8 0, .int .u8 0, .int .u8 0, .int .u8 0, .int .u8 0, .int .u8 0, .int .u8 0, .int .u8 0, .int .u8 0, .int .u8 0, .int .u8 0, .int .u8 0, .int .u8 0, .int .u8 0, .int .u8 0, .int .u64 0]

/-- a box of 16 bytes: noughts, or what it will hold -/
def BoxOf (cs : Array Value) (t : TypeId) (o : Option Obj) : Prop := o = some (.cells #[.int .u8 0, .int .u8 0, .int .u8 0, .int .u8 0, .int .u8 0, .int .u8 0, .int .u8 0, .int .u8 0, .int .u8 0, .int .u8 0, .int .u8 0, .int .u8 0, .int .u8 0, .int .u8 0, .int .u8 0, .int .u8 0] t (0, 0)) ∨ o = some (.cells cs t (0, 0))
theorem boxRel_cell {B : Nat} {R : Option Obj → Prop} {w w' : World} (hB : w.heap.size = B ∨ w.heap.size ≤ B) (h : BoxRel B R w w') {p : Addr} {v : Value} (hc : w.cell? p = some v) : w'.cell? p = some v := by
  have hlt := block_lt_of_cell hc
  rw [World.cell?_of_block (w := w) (h.fr.block _ hlt (by omega))]
  exact hc
structure BoxT (w w' : World) : Prop where
  c : ∀ p v, w.cell? p = some v → w'.cell? p = some v
theorem BoxT.cell {w w' : World} (h : BoxT w w') {p : Addr} {v : Value} (hc : w.cell? p = some v) : w'.cell? p = some v := h.c p v hc
theorem boxT {B : Nat} {R : Option Obj → Prop} {w w' : World} {b : Bool} (hB : w.heap.size = B) (h : boxG B R b w.drew w') : BoxT w w' :=
  ⟨fun p v hc => boxRel_cell (w := w.drew) (.inl hB) ((boxG_ok B R).any h) hc⟩
theorem boxOf_new {cs : Array Value} {t : TypeId} {w : World} {B : Nat} (h : w.heap.size = B) : BoxOf cs t ((w.alloc (.cells #[.int .u8 0, .int .u8 0, .int .u8 0, .int .u8 0, .int .u8 0, .int .u8 0, .int .u8 0, .int .u8 0, .int .u8 0, .int .u8 0, .int .u8 0, .int .u8 0, .int .u8 0, .int .u8 0, .int .u8 0, .int .u8 0] t)).heap[B]?) := by
  subst h
  exact .inl (heap_alloc_new w _)
theorem box_alloc {B : Nat} {R : Option Obj → Prop} {w : World} {o : Obj} (h : w.heap.size = B) (hn : ¬ R none) : boxG B R true w (w.alloc o) :=
  ⟨Fr.alloc o, fun hr => by rw [Array.getElem?_eq_none (by omega)] at hr; exact absurd hr hn⟩
theorem not_boxOf {cs : Array Value} {t : TypeId} : ¬ BoxOf cs t none := by
  rintro (h | h) <;> cases h
theorem box_below {w W1 W' : World} {B : Nat} {R : Option Obj → Prop} {b : Bool} (h1 : Below w.heap.size w W1) (h2 : w.heap.size ≤ B) (h : boxG B R b W1.drew W') : Below w.heap.size w W' :=
  have k : Below w.heap.size W1.drew W' := ((boxG_ok B R).any h).fr.bel (fun k e => Nat.le_trans h2 e) (show w.heap.size ≤ W1.drew.heap.size from h1.size)
  h1.trans (⟨k.os, k.tape, k.output, k.size, k.block⟩ : Below w.heap.size W1 W')
theorem wp_store_box {P : Program} {o : Oper} {a : Act} {K : Act → World → Prop} {Q : Exit → Act → World → Prop} {w : World} (ty : TypeId) (x y : Operand) (ho : o.op = .store ty x y) (B : Nat) (hx : a.eval x = .pointer (some ⟨B, 0, none⟩)) {cs : Array Value} (hy : a.eval y = .agg cs)
    (hb : BoxOf cs ty (w.heap[B]?)) (hs : cs.size = 16) (hi : (P.info? ty).map (·.size) = some cs.size) (h1 : ∀ v ∈ cs, v.oneCell' = true) 
    (h : ∀ w', w'.heap[B]? = some (.cells cs ty (0, 0)) → boxG B (BoxOf cs ty) true w w' → K (a.put o.dst undef) w') : o.wp P a w K Q := by
  have key : ∀ old, w.heap[B]? = some (.cells old ty (0, 0)) → old.size = cs.size → o.wp P a w K Q := fun old hg hold =>
    wp_store_row ty x y ho B cs hx hy ty old hg hi hold (Array.all_eq_true_iff_forall_mem.2 h1) (h _ (setRow_heap _ _ _ _ _ _ hg) ⟨Fr.grown (grown_setRow _ _ _) (by rintro k ⟨⟩; exact Nat.le_refl _), fun _ => .inr (setRow_heap _ _ _ _ _ _ hg)⟩)
  rcases hb with hb | hb
  · exact key _ hb (by rw [hs]; rfl)
  · exact key _ hb rfl
def Keep : List Leaf := [.int .i64, .int .i64] ++ (List.replicate 16 (.int .u8) ++ [.int .u64])
theorem w_DiskKeeps (A : Option Addr) (n cb : Nat) (rows : List (List Value)) (x : Int) (s : Sec) (m : Nat) (w : World) (hr : SlRows w 19 A n cb rows) (hro : ∀ (i : Nat) (r : List Value), rows[i]? = some r → RowOk w Keep r) (hx : -9223372036854775808 ≤ x ∧ x ≤ 9223372036854775807) (hs : s.length = 16) (hm : m < 18446744073709551616) :
    Calls Try.prog 4 #[.slice A n cb, .agg (keptV x s m).toArray] w fun e w' => e = .returned (.bool true) ∧ Below w.heap.size w w' := by
  have HBa := Lib.hid ((Below.refl w.heap.size w).alloc (Nat.le_refl _) (.cells (keptV x s m).toArray 49))
  have HX := Lib.hid (heap_alloc_new w (.cells (keptV x s m).toArray 49))
  have Hr := Lib.hid hr
  have Hro := Lib.hid hro
  have Hs := Lib.hid hs
  clear hr hro hs
  obtain ⟨v0, v17, vs⟩ := keptV_cells HX.out Hs.out
  have Vs := Lib.hid vs
  clear vs
  go_enter Try.func4, Try.ntmps4
  go_upto_region 1 with (fail)
  generalize (w.alloc (.cells (keptV x s m).toArray 49)) = W1 at *
  have Hsz : Hid ((bytesV s).toArray.size = 16) := Lib.hid (by simp [bytesV, Hs.out])
  obtain ⟨B1, hB1⟩ : ∃ q, W1.heap.size = q := ⟨_, rfl⟩
  have HB1 := Lib.hid hB1
  have hw1 := HBa.out.size
  rw [hB1] at hw1
  have Hw1 := Lib.hid hw1
  clear hB1 hw1
  refine wp_region_rel (by kernel_rfl) 10 (boxG_ok B1 (BoxOf (bytesV s).toArray 23)) (fun i_ => match i_ with | 6 => true | 8 => true | _ => false) (fun i_ v wz => match i_ with
    | 0 => v = .pointer (some ⟨w.heap.size, 0, none⟩)
    | 1 => v = .int .i64 x
    | 2 => v = .pointer (some ⟨w.heap.size, 1, none⟩)
    | 3 => v = .agg (bytesV s).toArray
    | 4 => v = .pointer (some ⟨w.heap.size, 17, none⟩)
    | 5 => v = .int .u64 (m : Int)
    | 6 => v = .pointer (some ⟨B1, 0, none⟩) ∧ BoxOf (bytesV s).toArray 23 (wz.heap[B1]?)
    | 7 => v = .int .i64 x
    | 8 => wz.heap[B1]? = some (.cells (bytesV s).toArray 23 (0, 0))
    | 9 => v = .int .u64 (m : Int)
    | _ => True) (by kernel_rfl) ?_ ?_ ?_
  · (repeat' (first | exact allLt_zero | refine allLt_succ ?_ ?_))
    · exact fun _ _ _ h _ => h
    · exact fun _ _ _ h _ => h
    · exact fun _ _ _ h _ => h
    · exact fun _ _ _ h _ => h
    · exact fun _ _ _ h _ => h
    · exact fun _ _ _ h _ => h
    · intro v w1 w2 h hg
      rw [show (!clsB _ _ _ _) = true from by kernel_rfl] at hg
      exact ⟨h.1, (show BoxRel _ _ w1 w2 from hg).box h.2⟩
    · exact fun _ _ _ h _ => h
    · intro v w1 w2 h hg
      rw [show (!clsB _ _ _ _) = false from by kernel_rfl] at hg
      rw [(show Still w1 w2 from hg).heap]
      exact h
    · exact fun _ _ _ h _ => h
  · (repeat' (first | exact allLt_zero | refine allLt_succ ?_ ?_))
    · intro a w' hf he
      have k3 : a.tmps.getD 3 undef = .pointer (some ⟨w.heap.size, 0, none⟩) := hf.var (by kernel_rfl) rfl
      rw [show (!preB _ _ _ _) = true from by kernel_rfl] at hf
      refine wpOp_step rfl (fun K hK => ?_)
      go_simp
      exact hK _ _ ⟨_, rfl, rfl, (boxG_ok B1 (BoxOf (bytesV s).toArray 23)).refl _ _⟩
    · intro a w' hf he
      have f0 : a.tmps.getD 12 undef = .pointer (some ⟨w.heap.size, 0, none⟩) := he 0 (by kernel_rfl)
      rw [show (!preB _ _ _ _) = true from by kernel_rfl] at hf
      have dd := (boxT HB1.out hf.rel).cell v0
      refine wpOp_step rfl (fun K hK => ?_)
      go_simp
      exact hK _ _ ⟨_, rfl, rfl, (boxG_ok B1 (BoxOf (bytesV s).toArray 23)).refl _ _⟩
    · intro a w' hf he
      have k3 : a.tmps.getD 3 undef = .pointer (some ⟨w.heap.size, 0, none⟩) := hf.var (by kernel_rfl) rfl
      rw [show (!preB _ _ _ _) = true from by kernel_rfl] at hf
      refine wpOp_step rfl (fun K hK => ?_)
      go_simp
      exact hK _ _ ⟨_, rfl, rfl, (boxG_ok B1 (BoxOf (bytesV s).toArray 23)).refl _ _⟩
    · intro a w' hf he
      have f2 : a.tmps.getD 14 undef = .pointer (some ⟨w.heap.size, 1, none⟩) := he 2 (by kernel_rfl)
      rw [show (!preB _ _ _ _) = true from by kernel_rfl] at hf
      refine wpOp_step rfl (fun K hK => ?_)
      refine wp_load_rd 23 (.tmp 14) rfl ⟨w.heap.size, 1, none⟩ f2 (bytesV s) _ (fun j v hv => (boxT HB1.out hf.rel).cell (Vs.out j v hv)) Try.underlying23 rfl (by rw [bytesV_length, Hs.out]; kernel_rfl) ?_
      exact hK _ _ ⟨_, rfl, rfl, (boxG_ok B1 (BoxOf (bytesV s).toArray 23)).refl _ _⟩
    · intro a w' hf he
      have k3 : a.tmps.getD 3 undef = .pointer (some ⟨w.heap.size, 0, none⟩) := hf.var (by kernel_rfl) rfl
      rw [show (!preB _ _ _ _) = true from by kernel_rfl] at hf
      refine wpOp_step rfl (fun K hK => ?_)
      go_simp
      exact hK _ _ ⟨_, rfl, rfl, (boxG_ok B1 (BoxOf (bytesV s).toArray 23)).refl _ _⟩
    · intro a w' hf he
      have f4 : a.tmps.getD 16 undef = .pointer (some ⟨w.heap.size, 17, none⟩) := he 4 (by kernel_rfl)
      rw [show (!preB _ _ _ _) = true from by kernel_rfl] at hf
      have dd := (boxT HB1.out hf.rel).cell v17
      refine wpOp_step rfl (fun K hK => ?_)
      go_simp
      exact hK _ _ ⟨_, rfl, rfl, (boxG_ok B1 (BoxOf (bytesV s).toArray 23)).refl _ _⟩
    · intro a w' hf he
      rw [show (!preB _ _ _ _) = false from by kernel_rfl] at hf
      have hst : Still _ w' := hf.rel
      have hsz : w'.heap.size = B1 := by rw [hst.heap]; exact HB1.out
      refine wpOp_step rfl (fun K hK => ?_)
      go_simp
      exact hK _ _ ⟨_, rfl, ⟨rfl, boxOf_new hsz⟩, box_alloc hsz not_boxOf⟩
    · intro a w' hf he
      have f1 : a.tmps.getD 13 undef = .int .i64 x := he 1 (by kernel_rfl)
      refine wpOp_step rfl (fun K hK => ?_)
      go_simp
      exact hK _ _ ⟨_, rfl, rfl, (boxG_ok B1 (BoxOf (bytesV s).toArray 23)).refl _ _⟩
    · intro a w' hf he
      obtain ⟨hv6, hr6⟩ := he 6 (by kernel_rfl)
      have f6 : a.tmps.getD 6 undef = _ := hv6
      have f3 : a.tmps.getD 15 undef = .agg (bytesV s).toArray := he 3 (by kernel_rfl)
      rw [show (!preB _ _ _ _) = true from by kernel_rfl] at hf
      refine wpOp_step rfl (fun K hK => ?_)
      refine wp_store_box _ _ _ rfl B1 f6 f3 hr6 Hsz.out (by rw [Hsz.out]; kernel_rfl) (fun v hv => bytesV_one v (by simpa using hv)) ?_
      intro w9 h9 hg9
      exact hK _ _ ⟨_, rfl, h9, hg9⟩
    · intro a w' hf he
      have f5 : a.tmps.getD 17 undef = .int .u64 (m : Int) := he 5 (by kernel_rfl)
      refine wpOp_step rfl (fun K hK => ?_)
      go_simp
      exact hK _ _ ⟨_, rfl, rfl, (boxG_ok B1 (BoxOf (bytesV s).toArray 23)).refl _ _⟩
  · intro a w' hf he
    obtain ⟨u12, f0⟩ : ∃ u, a.tmps.getD 12 undef = u := ⟨_, rfl⟩
    obtain ⟨u13, f1⟩ : ∃ u, a.tmps.getD 13 undef = u := ⟨_, rfl⟩
    obtain ⟨u14, f2⟩ : ∃ u, a.tmps.getD 14 undef = u := ⟨_, rfl⟩
    obtain ⟨u15, f3⟩ : ∃ u, a.tmps.getD 15 undef = u := ⟨_, rfl⟩
    obtain ⟨u16, f4⟩ : ∃ u, a.tmps.getD 16 undef = u := ⟨_, rfl⟩
    obtain ⟨u17, f5⟩ : ∃ u, a.tmps.getD 17 undef = u := ⟨_, rfl⟩
    obtain ⟨hv6, hr6⟩ := he 6 (by decide)
    have f6 : a.tmps.getD 6 undef = _ := hv6
    have f7 : a.tmps.getD 5 undef = .int .i64 x := he 7 (by decide)
    obtain hr8 := he 8 (by decide)
    have f9 : a.tmps.getD 7 undef = .int .u64 (m : Int) := he 9 (by decide)
    have hlit := hf.lit ((12, u12) :: (13, u13) :: (14, u14) :: (15, u15) :: (16, u16) :: (17, u17) :: (6, _) :: (5, .int .i64 x) :: (7, .int .u64 (m : Int)) :: []) (by kernel_rfl) ⟨f0, f1, f2, f3, f4, f5, f6, f7, f9, trivial⟩
    have hB := hf.rel
    clear he hf f0 f1 f2 f3 f4 f5 f6 f7 f9 hv6
    subst hlit
    simp only [putAll_nil, putAll_cons, Act.put, List.setIfInBounds_toArray, List.set_cons_zero, List.set_cons_succ]
    simp only [List.drop_succ_cons, List.drop_zero]
    have HB := Lib.hid (box_below HBa.out Hw1.out hB)
    have HX6 := Lib.hid hr8
    clear hB hr8 hr6 HBa HX v0 v17 Vs
    by_cases hg : 0 ≤ x ∧ x ≤ 11 ∧ n ≤ 60
    · obtain ⟨x, rfl⟩ : ∃ q : Nat, x = (q : Int) := ⟨x.toNat, by omega⟩
      obtain ⟨d1, d2, hd1, hd2, hop1, hki⟩ := ki_start x (by omega) s
      have H1 := Lib.hid hd1
      have H2 := Lib.hid hd2
      have O1 : Hid (d1.ops < 1000000000) := Lib.hid (by omega)
      have KI0 := Lib.hid hki
      clear hd1 hd2 hop1 hki
      go_wp2_with (first
        | (go_at_call 27
           (with_reducible refine (c_dNewI 12 12 rfl _ (by omega) (by omega)).mono ?_)
           rintro e w4 ⟨p, g, mb, rfl, hk, hge, hb4⟩
           have HL3 := Lib.hid (heap_lt HX6.out)
           have HX4 := Lib.hid ((hb4.block _ (heap_lt HX6.out)).trans HX6.out)
           have HG : Hid (w.heap.size ≤ p ∧ w.heap.size ≤ g ∧ w.heap.size ≤ mb) := Lib.hid (by have := HB.out.size; omega)
           have HN : Hid (B1 ≠ p ∧ B1 ≠ g ∧ B1 ≠ mb) := Lib.hid (by have := HL3.out; omega)
           have HB := Lib.hid (HB.out.trans (hb4.mono HB.out.size))
           have HK := Lib.hid hk
           clear hk hge hb4 HX6 HL3)
        | (go_at_call 19
           (with_reducible refine (c_Made HK.out).mono ?_)
           rintro e w' ⟨rfl, rfl⟩
           have Hsec := Lib.hid ((rd_of_heap (n := 16) HX4.out (by rw [bytesV_length, Hs.out]) (by simp [maxLen])).cell _ rfl))
        | (refine wpL_load_rd rfl 23 (.tmp 6) rfl ⟨B1, 0, none⟩ rfl (bytesV s) _ Hsec.out Try.underlying23 rfl (by rw [bytesV_length, Hs.out]; kernel_rfl) ?_)
        | (go_at_call 17
           (with_reducible refine (c_dWriteE HK.out (by decide) (x : Int) (by omega) s Hs.out _ 0 H1.out).mono ?_)
           rintro e w5 ⟨rfl, hk5, f5⟩
           have HB := Lib.hid (Dk.fresh HG.out HB.out f5)
           have HK := Lib.hid hk5
           have HX5 := Lib.hid (heap_fr HX4.out f5 (by have := HN.out; omega))
           clear hk5 f5 HX4 Hsec)
        | (go_at_call 18
           (with_reducible refine (c_FlushE HK.out O1.out _ 0 H2.out).mono ?_)
           rintro e w6 ⟨rfl, hk6, f6⟩
           have HB := Lib.hid (Dk.fresh HG.out HB.out f6)
           have HK := Lib.hid hk6
           have HX7 := Lib.hid (heap_fr HX5.out f6 (by have := HN.out; omega))
           clear hk6 f6 HX5))
      go_loopw [55] (fun v wr => ∃ (i : Nat) (d : Dsk), i ≤ n ∧ v = .int .i64 (i : Int) ∧ Hid (Dk wr p g mb 12 d) ∧ Hid (KI d x s (2 + i)) ∧ Hid (wr.heap[B1]? = some (.cells (bytesV s).toArray 23 (0, 0))) ∧ Hid (Below w.heap.size w wr)) (fun v _ => n - (intOf v).toNat)
      case atStart => exact ⟨0, d2, Nat.zero_le _, rfl, HK, KI0, HX7, HB⟩
      case round =>
        clear HK KI0 HX7 HB H1 H2 O1
        obtain ⟨i, d, hi, rfl, HK, HI, HX, HB⟩ := hrel
        by_cases hin : i < n
        · obtain ⟨ad, r, rfl, hri, hrl, hcell⟩ := Hr.out.at hin
          obtain ⟨k, a, s2, m2, rfl, hk, ha, hs2, hm2⟩ := dact_of (Hro.out i r hri)
          have Hs2 := Lib.hid hs2
          have ho : Hid (d.ops < 1000000000) := Lib.hid (by have := HI.out.ops; omega)
          have hhb : ∀ j v, (dactV k a s2 m2)[j]? = some v → wr.cell? ((ad.add (i * 19)).add j) = some v := fun j v hv => by
            have hc := hcell j v hv
            rw [HB.out.cell (block_lt_of_cell hc)]
            exact hc
          have Hcs := Lib.hid hhb
          have Hdl : Hid ((dactV k a s2 m2).toArray.size = 19) := Lib.hid (by simpa using hrl)
          have HY := Lib.hid (heap_alloc_new wr (.cells dact0 26))
          have HYB := Lib.hid ((Below.refl wr.heap.size wr).alloc (Nat.le_refl _) (.cells dact0 26))
          unfold dact0 at HY HYB
          have Hlt := Lib.hid HK.out.lts
          clear hri hrl hcell hhb hs2
          by_cases h0 : k = 0
          · subst h0
            by_cases hax : a = (x : Int)
            · subst hax
              go_wp2_with (first
                | (refine wpL_load_rd rfl 26 (.tmp 57) rfl (ad.add (i * 19)) rfl (dactV 0 (x : Int) s2 m2) _ Hcs.out Try.underlying26 rfl (by rw [← List.size_toArray, Hdl.out]; kernel_rfl) ?_)
                | (refine wpL_store_all rfl rfl 26 (.tmp 11) (.tmp 58) rfl _ rfl _ rfl _ _ HY.out (by rw [Hdl.out]; kernel_rfl) (by rw [Hdl.out]; rfl) one_dact ?_
                   intro w8 x8 g8
                   have hb8 := HYB.out.grown g8 HYB.out.size (by rintro k ⟨⟩; exact Nat.le_refl _)
                   have HK := Lib.hid (HK.out.bel hb8)
                   have HX := Lib.hid ((hb8.block _ (heap_lt HX.out)).trans HX.out)
                   have HB := Lib.hid (HB.out.trans (hb8.mono HB.out.size))
                   obtain ⟨e0, e1, e18, es⟩ := dact_cells x8 Hs2.out
                   have Es := Lib.hid es
                   have X8 := Lib.hid x8
                   clear es x8 g8 HY HYB hb8)
                | (refine wpL_load_rd rfl 23 (.tmp 71) rfl ⟨wr.heap.size, 2, none⟩ rfl (bytesV s2) _ Es.out Try.underlying23 rfl (by rw [bytesV_length, Hs2.out]; kernel_rfl) ?_)
                | (go_at_call 17
                   (with_reducible refine (c_dWriteE HK.out ho.out (x : Int) ha s2 Hs2.out _ _ rfl).mono ?_)
                   rintro e w9 ⟨rfl, hk9, f9⟩
                   have HK := Lib.hid hk9
                   have X9 := heap_fr X8.out f9 (by have := Hlt.out; omega)
                   have HX := Lib.hid (heap_fr HX.out f9 (by have := HN.out; omega))
                   have HB := Lib.hid (Dk.fresh HG.out HB.out f9)
                   clear hk9 f9 e0 e1 e18 Es
                   obtain ⟨e0, e1, e18, _⟩ := dact_cells X9 Hs2.out
                   )
                | (go_at_call 18
                   (with_reducible refine (c_FlushE HK.out ho.out _ _ rfl).mono ?_)
                   rintro e w9 ⟨rfl, hk9, f9⟩
                   have HK := Lib.hid hk9
                   have X9 := heap_fr X8.out f9 (by have := Hlt.out; omega)
                   have HX := Lib.hid (heap_fr HX.out f9 (by have := HN.out; omega))
                   have HB := Lib.hid (Dk.fresh HG.out HB.out f9)
                   clear hk9 f9 e0 e1 e18 Es
                   obtain ⟨e0, e1, e18, _⟩ := dact_cells X9 Hs2.out
                   )
                | (go_at_call 15
                   (with_reducible refine (c_FuseD HK.out (x : Int) ha).mono ?_)
                   rintro e w9 ⟨rfl, hk9, f9a⟩
                   have f9 := f9a.mono (S1 := fun k => k = p ∨ k = g ∨ k = mb) (fun k _ e => .inl e)
                   clear f9a
                   have HK := Lib.hid hk9
                   have X9 := heap_fr X8.out f9 (by have := Hlt.out; omega)
                   have HX := Lib.hid (heap_fr HX.out f9 (by have := HN.out; omega))
                   have HB := Lib.hid (Dk.fresh HG.out HB.out f9)
                   clear hk9 f9 e0 e1 e18 Es
                   obtain ⟨e0, e1, e18, _⟩ := dact_cells X9 Hs2.out
                   ))
              go_roundw
              case rel => exact ⟨i + 1, d, by omega, by go_num, HK, Lib.hid (⟨HI.out.len, HI.out.cell, by have := HI.out.ops; omega⟩), HX, HB⟩
              case measure => simp [intOf] <;> omega
            · have hq : (a == (x : Int)) = false := by simpa using hax
              have HA := Lib.hid hax
              go_wp2_with (first
                | (refine wpL_load_rd rfl 26 (.tmp 57) rfl (ad.add (i * 19)) rfl (dactV 0 a s2 m2) _ Hcs.out Try.underlying26 rfl (by rw [← List.size_toArray, Hdl.out]; kernel_rfl) ?_)
                | (refine wpL_store_all rfl rfl 26 (.tmp 11) (.tmp 58) rfl _ rfl _ rfl _ _ HY.out (by rw [Hdl.out]; kernel_rfl) (by rw [Hdl.out]; rfl) one_dact ?_
                   intro w8 x8 g8
                   have hb8 := HYB.out.grown g8 HYB.out.size (by rintro k ⟨⟩; exact Nat.le_refl _)
                   have HK := Lib.hid (HK.out.bel hb8)
                   have HX := Lib.hid ((hb8.block _ (heap_lt HX.out)).trans HX.out)
                   have HB := Lib.hid (HB.out.trans (hb8.mono HB.out.size))
                   obtain ⟨e0, e1, e18, es⟩ := dact_cells x8 Hs2.out
                   have Es := Lib.hid es
                   have X8 := Lib.hid x8
                   clear es x8 g8 HY HYB hb8)
                | (refine wpL_load_rd rfl 23 (.tmp 71) rfl ⟨wr.heap.size, 2, none⟩ rfl (bytesV s2) _ Es.out Try.underlying23 rfl (by rw [bytesV_length, Hs2.out]; kernel_rfl) ?_)
                | (go_at_call 17
                   (with_reducible refine (c_dWriteE HK.out ho.out a ha s2 Hs2.out _ _ rfl).mono ?_)
                   rintro e w9 ⟨rfl, hk9, f9⟩
                   have HK := Lib.hid hk9
                   have X9 := heap_fr X8.out f9 (by have := Hlt.out; omega)
                   have HX := Lib.hid (heap_fr HX.out f9 (by have := HN.out; omega))
                   have HB := Lib.hid (Dk.fresh HG.out HB.out f9)
                   clear hk9 f9 e0 e1 e18 Es
                   obtain ⟨e0, e1, e18, _⟩ := dact_cells X9 Hs2.out
                   )
                | (go_at_call 18
                   (with_reducible refine (c_FlushE HK.out ho.out _ _ rfl).mono ?_)
                   rintro e w9 ⟨rfl, hk9, f9⟩
                   have HK := Lib.hid hk9
                   have X9 := heap_fr X8.out f9 (by have := Hlt.out; omega)
                   have HX := Lib.hid (heap_fr HX.out f9 (by have := HN.out; omega))
                   have HB := Lib.hid (Dk.fresh HG.out HB.out f9)
                   clear hk9 f9 e0 e1 e18 Es
                   obtain ⟨e0, e1, e18, _⟩ := dact_cells X9 Hs2.out
                   )
                | (go_at_call 15
                   (with_reducible refine (c_FuseD HK.out a ha).mono ?_)
                   rintro e w9 ⟨rfl, hk9, f9a⟩
                   have f9 := f9a.mono (S1 := fun k => k = p ∨ k = g ∨ k = mb) (fun k _ e => .inl e)
                   clear f9a
                   have HK := Lib.hid hk9
                   have X9 := heap_fr X8.out f9 (by have := Hlt.out; omega)
                   have HX := Lib.hid (heap_fr HX.out f9 (by have := HN.out; omega))
                   have HB := Lib.hid (Dk.fresh HG.out HB.out f9)
                   clear hk9 f9 e0 e1 e18 Es
                   obtain ⟨e0, e1, e18, _⟩ := dact_cells X9 Hs2.out
                   ))
              go_roundw
              case rel => exact ⟨i + 1, _, by omega, by go_num, HK, Lib.hid ((by have := ki_write HI.out a HA.out s2; rwa [Nat.add_assoc] at this)), HX, HB⟩
              case measure => simp [intOf] <;> omega
          · by_cases h1 : k = 1
            · subst h1
              go_wp2_with (first
                | (refine wpL_load_rd rfl 26 (.tmp 57) rfl (ad.add (i * 19)) rfl (dactV 1 a s2 m2) _ Hcs.out Try.underlying26 rfl (by rw [← List.size_toArray, Hdl.out]; kernel_rfl) ?_)
                | (refine wpL_store_all rfl rfl 26 (.tmp 11) (.tmp 58) rfl _ rfl _ rfl _ _ HY.out (by rw [Hdl.out]; kernel_rfl) (by rw [Hdl.out]; rfl) one_dact ?_
                   intro w8 x8 g8
                   have hb8 := HYB.out.grown g8 HYB.out.size (by rintro k ⟨⟩; exact Nat.le_refl _)
                   have HK := Lib.hid (HK.out.bel hb8)
                   have HX := Lib.hid ((hb8.block _ (heap_lt HX.out)).trans HX.out)
                   have HB := Lib.hid (HB.out.trans (hb8.mono HB.out.size))
                   obtain ⟨e0, e1, e18, es⟩ := dact_cells x8 Hs2.out
                   have Es := Lib.hid es
                   have X8 := Lib.hid x8
                   clear es x8 g8 HY HYB hb8)
                | (refine wpL_load_rd rfl 23 (.tmp 71) rfl ⟨wr.heap.size, 2, none⟩ rfl (bytesV s2) _ Es.out Try.underlying23 rfl (by rw [bytesV_length, Hs2.out]; kernel_rfl) ?_)
                | (go_at_call 17
                   (with_reducible refine (c_dWriteE HK.out ho.out a ha s2 Hs2.out _ _ rfl).mono ?_)
                   rintro e w9 ⟨rfl, hk9, f9⟩
                   have HK := Lib.hid hk9
                   have X9 := heap_fr X8.out f9 (by have := Hlt.out; omega)
                   have HX := Lib.hid (heap_fr HX.out f9 (by have := HN.out; omega))
                   have HB := Lib.hid (Dk.fresh HG.out HB.out f9)
                   clear hk9 f9 e0 e1 e18 Es
                   obtain ⟨e0, e1, e18, _⟩ := dact_cells X9 Hs2.out
                   )
                | (go_at_call 18
                   (with_reducible refine (c_FlushE HK.out ho.out _ _ rfl).mono ?_)
                   rintro e w9 ⟨rfl, hk9, f9⟩
                   have HK := Lib.hid hk9
                   have X9 := heap_fr X8.out f9 (by have := Hlt.out; omega)
                   have HX := Lib.hid (heap_fr HX.out f9 (by have := HN.out; omega))
                   have HB := Lib.hid (Dk.fresh HG.out HB.out f9)
                   clear hk9 f9 e0 e1 e18 Es
                   obtain ⟨e0, e1, e18, _⟩ := dact_cells X9 Hs2.out
                   )
                | (go_at_call 15
                   (with_reducible refine (c_FuseD HK.out a ha).mono ?_)
                   rintro e w9 ⟨rfl, hk9, f9a⟩
                   have f9 := f9a.mono (S1 := fun k => k = p ∨ k = g ∨ k = mb) (fun k _ e => .inl e)
                   clear f9a
                   have HK := Lib.hid hk9
                   have X9 := heap_fr X8.out f9 (by have := Hlt.out; omega)
                   have HX := Lib.hid (heap_fr HX.out f9 (by have := HN.out; omega))
                   have HB := Lib.hid (Dk.fresh HG.out HB.out f9)
                   clear hk9 f9 e0 e1 e18 Es
                   obtain ⟨e0, e1, e18, _⟩ := dact_cells X9 Hs2.out
                   ))
              go_roundw
              case rel => exact ⟨i + 1, _, by omega, by go_num, HK, Lib.hid ((by have := ki_flush HI.out; rwa [Nat.add_assoc] at this)), HX, HB⟩
              case measure => simp [intOf] <;> omega
            · by_cases h3 : k = 3
              · subst h3
                go_wp2_with (first
                  | (refine wpL_load_rd rfl 26 (.tmp 57) rfl (ad.add (i * 19)) rfl (dactV 3 a s2 m2) _ Hcs.out Try.underlying26 rfl (by rw [← List.size_toArray, Hdl.out]; kernel_rfl) ?_)
                  | (refine wpL_store_all rfl rfl 26 (.tmp 11) (.tmp 58) rfl _ rfl _ rfl _ _ HY.out (by rw [Hdl.out]; kernel_rfl) (by rw [Hdl.out]; rfl) one_dact ?_
                     intro w8 x8 g8
                     have hb8 := HYB.out.grown g8 HYB.out.size (by rintro k ⟨⟩; exact Nat.le_refl _)
                     have HK := Lib.hid (HK.out.bel hb8)
                     have HX := Lib.hid ((hb8.block _ (heap_lt HX.out)).trans HX.out)
                     have HB := Lib.hid (HB.out.trans (hb8.mono HB.out.size))
                     obtain ⟨e0, e1, e18, es⟩ := dact_cells x8 Hs2.out
                     have Es := Lib.hid es
                     have X8 := Lib.hid x8
                     clear es x8 g8 HY HYB hb8)
                  | (refine wpL_load_rd rfl 23 (.tmp 71) rfl ⟨wr.heap.size, 2, none⟩ rfl (bytesV s2) _ Es.out Try.underlying23 rfl (by rw [bytesV_length, Hs2.out]; kernel_rfl) ?_)
                  | (go_at_call 17
                     (with_reducible refine (c_dWriteE HK.out ho.out a ha s2 Hs2.out _ _ rfl).mono ?_)
                     rintro e w9 ⟨rfl, hk9, f9⟩
                     have HK := Lib.hid hk9
                     have X9 := heap_fr X8.out f9 (by have := Hlt.out; omega)
                     have HX := Lib.hid (heap_fr HX.out f9 (by have := HN.out; omega))
                     have HB := Lib.hid (Dk.fresh HG.out HB.out f9)
                     clear hk9 f9 e0 e1 e18 Es
                     obtain ⟨e0, e1, e18, _⟩ := dact_cells X9 Hs2.out
                     )
                  | (go_at_call 18
                     (with_reducible refine (c_FlushE HK.out ho.out _ _ rfl).mono ?_)
                     rintro e w9 ⟨rfl, hk9, f9⟩
                     have HK := Lib.hid hk9
                     have X9 := heap_fr X8.out f9 (by have := Hlt.out; omega)
                     have HX := Lib.hid (heap_fr HX.out f9 (by have := HN.out; omega))
                     have HB := Lib.hid (Dk.fresh HG.out HB.out f9)
                     clear hk9 f9 e0 e1 e18 Es
                     obtain ⟨e0, e1, e18, _⟩ := dact_cells X9 Hs2.out
                     )
                  | (go_at_call 15
                     (with_reducible refine (c_FuseD HK.out a ha).mono ?_)
                     rintro e w9 ⟨rfl, hk9, f9a⟩
                     have f9 := f9a.mono (S1 := fun k => k = p ∨ k = g ∨ k = mb) (fun k _ e => .inl e)
                     clear f9a
                     have HK := Lib.hid hk9
                     have X9 := heap_fr X8.out f9 (by have := Hlt.out; omega)
                     have HX := Lib.hid (heap_fr HX.out f9 (by have := HN.out; omega))
                     have HB := Lib.hid (Dk.fresh HG.out HB.out f9)
                     clear hk9 f9 e0 e1 e18 Es
                     obtain ⟨e0, e1, e18, _⟩ := dact_cells X9 Hs2.out
                     ))
                go_roundw
                case rel => exact ⟨i + 1, _, by omega, by go_num, HK, Lib.hid ((by have := ki_fuse HI.out a; rwa [Nat.add_assoc] at this)), HX, HB⟩
                case measure => simp [intOf] <;> omega
              · have q0 : (k == 0) = false := by simpa using h0
                have q1 : (k == 1) = false := by simpa using h1
                have q3 : (k == 3) = false := by simpa using h3
                go_wp2_with (first
                  | (refine wpL_load_rd rfl 26 (.tmp 57) rfl (ad.add (i * 19)) rfl (dactV k a s2 m2) _ Hcs.out Try.underlying26 rfl (by rw [← List.size_toArray, Hdl.out]; kernel_rfl) ?_)
                  | (refine wpL_store_all rfl rfl 26 (.tmp 11) (.tmp 58) rfl _ rfl _ rfl _ _ HY.out (by rw [Hdl.out]; kernel_rfl) (by rw [Hdl.out]; rfl) one_dact ?_
                     intro w8 x8 g8
                     have hb8 := HYB.out.grown g8 HYB.out.size (by rintro k ⟨⟩; exact Nat.le_refl _)
                     have HK := Lib.hid (HK.out.bel hb8)
                     have HX := Lib.hid ((hb8.block _ (heap_lt HX.out)).trans HX.out)
                     have HB := Lib.hid (HB.out.trans (hb8.mono HB.out.size))
                     obtain ⟨e0, e1, e18, es⟩ := dact_cells x8 Hs2.out
                     have Es := Lib.hid es
                     have X8 := Lib.hid x8
                     clear es x8 g8 HY HYB hb8)
                  | (refine wpL_load_rd rfl 23 (.tmp 71) rfl ⟨wr.heap.size, 2, none⟩ rfl (bytesV s2) _ Es.out Try.underlying23 rfl (by rw [bytesV_length, Hs2.out]; kernel_rfl) ?_)
                  | (go_at_call 17
                     (with_reducible refine (c_dWriteE HK.out ho.out a ha s2 Hs2.out _ _ rfl).mono ?_)
                     rintro e w9 ⟨rfl, hk9, f9⟩
                     have HK := Lib.hid hk9
                     have X9 := heap_fr X8.out f9 (by have := Hlt.out; omega)
                     have HX := Lib.hid (heap_fr HX.out f9 (by have := HN.out; omega))
                     have HB := Lib.hid (Dk.fresh HG.out HB.out f9)
                     clear hk9 f9 e0 e1 e18 Es
                     obtain ⟨e0, e1, e18, _⟩ := dact_cells X9 Hs2.out
                     )
                  | (go_at_call 18
                     (with_reducible refine (c_FlushE HK.out ho.out _ _ rfl).mono ?_)
                     rintro e w9 ⟨rfl, hk9, f9⟩
                     have HK := Lib.hid hk9
                     have X9 := heap_fr X8.out f9 (by have := Hlt.out; omega)
                     have HX := Lib.hid (heap_fr HX.out f9 (by have := HN.out; omega))
                     have HB := Lib.hid (Dk.fresh HG.out HB.out f9)
                     clear hk9 f9 e0 e1 e18 Es
                     obtain ⟨e0, e1, e18, _⟩ := dact_cells X9 Hs2.out
                     )
                  | (go_at_call 15
                     (with_reducible refine (c_FuseD HK.out a ha).mono ?_)
                     rintro e w9 ⟨rfl, hk9, f9a⟩
                     have f9 := f9a.mono (S1 := fun k => k = p ∨ k = g ∨ k = mb) (fun k _ e => .inl e)
                     clear f9a
                     have HK := Lib.hid hk9
                     have X9 := heap_fr X8.out f9 (by have := Hlt.out; omega)
                     have HX := Lib.hid (heap_fr HX.out f9 (by have := HN.out; omega))
                     have HB := Lib.hid (Dk.fresh HG.out HB.out f9)
                     clear hk9 f9 e0 e1 e18 Es
                     obtain ⟨e0, e1, e18, _⟩ := dact_cells X9 Hs2.out
                     ))
                go_roundw
                case rel => exact ⟨i + 1, d, by omega, by go_num, HK, Lib.hid (⟨HI.out.len, HI.out.cell, by have := HI.out.ops; omega⟩), HX, HB⟩
                case measure => simp [intOf] <;> omega
        · obtain rfl : i = n := by omega
          obtain ⟨z1, z2, z3, z4⟩ := ki_crash HI.out m
          have Z1 := Lib.hid z1
          have Z2 := Lib.hid z2
          have Z3 := Lib.hid z3
          have Z4 := Lib.hid z4
          have ho : Hid ((d.crash m).ops < 1000000000) := Lib.hid (by have := HI.out.ops; show d.ops < _; omega)
          clear z1 z2 z3 z4 HI
          go_upto_region 18 with (first
            | (go_at_call 16
               (with_reducible refine (c_CrashI HK.out (m : Int) m rfl hm).mono ?_)
               rintro e w9 ⟨rfl, hk9, f9⟩
               have HB := Lib.hid (Dk.fresh HG.out HB.out f9)
               have HK := Lib.hid hk9
               have HX := Lib.hid (heap_fr HX.out f9 (by have := HN.out; omega))
               clear hk9 f9))
          generalize d.crash m = dc at *
          refine wp_region_fr (by kernel_rfl) 25 (fun i_ => match i_ with | 18 => 1 | _ => 0) (fun c_ => match c_ with | 1 => fun k => k = p ∨ k = g ∨ k = mb | _ => fun _ => False) (fun i_ => match i_ with | 0 => [1] | 1 => [1] | 2 => [1] | 3 => [1] | 4 => [1] | 5 => [1] | 6 => [1] | 7 => [1] | 8 => [1] | 9 => [1] | 10 => [1] | 11 => [1] | 12 => [1] | 13 => [1] | 14 => [1] | 15 => [1] | 16 => [1] | 17 => [1] | _ => []) (fun i_ => match i_ with | 19 => [1] | 20 => [1] | 21 => [1] | 22 => [1] | 23 => [1] | 24 => [1] | _ => []) [1] (fun i_ v wz => match i_ with
            | 0 => v = .pointer (some ⟨p, 0, none⟩)
            | 1 => v = .int .i64 (x : Int)
            | 2 => v = .agg (bytesV s).toArray
            | 3 => v = .agg (bytesV s).toArray
            | 4 => v = .bool true
            | 5 => v = .bool true
            | 6 => v = .pointer (some ⟨p, 0, none⟩)
            | 7 => ∃ A c2, v = .slice A 0 c2
            | 8 => v = .int .i64 0
            | 9 => v = .bool true
            | 10 => v = .bool true
            | 11 => v = .bool true
            | 12 => v = .pointer (some ⟨p, 0, none⟩)
            | 13 => v = .bool false
            | 14 => v = .bool true
            | 15 => v = .bool true
            | 16 => v = .bool true
            | 17 => v = .pointer (some ⟨p, 0, none⟩)
            | 18 => v = .int .i64 0
            | 19 => v = .bool true
            | 20 => v = .bool true
            | 21 => v = .bool true
            | 22 => v = .bool true
            | 23 => v = .bool true
            | 24 => v = .bool true
            | _ => True) (by kernel_rfl) (by kernel_rfl) ?_ ?_ ?_
          · (repeat' (first | exact allLt_zero | refine allLt_succ ?_ ?_))
            · exact fun _ _ _ h _ => h
            · exact fun _ _ _ h _ => h
            · exact fun _ _ _ h _ => h
            · exact fun _ _ _ h _ => h
            · exact fun _ _ _ h _ => h
            · exact fun _ _ _ h _ => h
            · exact fun _ _ _ h _ => h
            · exact fun _ _ _ h _ => h
            · exact fun _ _ _ h _ => h
            · exact fun _ _ _ h _ => h
            · exact fun _ _ _ h _ => h
            · exact fun _ _ _ h _ => h
            · exact fun _ _ _ h _ => h
            · exact fun _ _ _ h _ => h
            · exact fun _ _ _ h _ => h
            · exact fun _ _ _ h _ => h
            · exact fun _ _ _ h _ => h
            · exact fun _ _ _ h _ => h
            · exact fun _ _ _ h _ => h
            · exact fun _ _ _ h _ => h
            · exact fun _ _ _ h _ => h
            · exact fun _ _ _ h _ => h
            · exact fun _ _ _ h _ => h
            · exact fun _ _ _ h _ => h
            · exact fun _ _ _ h _ => h
          · (repeat' (first | exact allLt_zero | refine allLt_succ ?_ ?_))
            · intro a w' hf he
              have k8 : a.tmps.getD 8 undef = .pointer (some ⟨p, 0, none⟩) := hf.var (by kernel_rfl) rfl
              refine wpOp_step rfl (fun K hK => ?_)
              go_simp
              exact hK _ _ ⟨_, rfl, rfl, Fr.refl _ _⟩
            · intro a w' hf he
              have k5 : a.tmps.getD 5 undef = .int .i64 (x : Int) := hf.var (by kernel_rfl) rfl
              refine wpOp_step rfl (fun K hK => ?_)
              go_simp
              exact hK _ _ ⟨_, rfl, rfl, Fr.refl _ _⟩
            · intro a w' hf he
              have f0 : a.tmps.getD 90 undef = .pointer (some ⟨p, 0, none⟩) := he 0 (by kernel_rfl)
              have f1 : a.tmps.getD 91 undef = .int .i64 (x : Int) := he 1 (by kernel_rfl)
              have hfr : Fr (fun k => False) _ w' := hf.of_start
              refine wpOp_step rfl (fun K hK => ?_)
              go_simp
              refine (c_Durable (HK.out.fr hfr (fun e => e) (fun e => e) (fun e => e)) (x : Int)).mono ?_
              rintro e w2 ⟨rfl, hb2⟩
              rw [Z1.out]
              exact hK _ _ ⟨_, rfl, rfl, Fr.of_bel hb2⟩
            · intro a w' hf he
              have k6 : a.tmps.getD 6 undef = .pointer (some ⟨B1, 0, none⟩) := hf.var (by kernel_rfl) rfl
              have hfr : Fr (fun k => False) _ w' := hf.of_start
              refine wpOp_step rfl (fun K hK => ?_)
              refine wp_load_rd 23 (.tmp 6) rfl ⟨B1, 0, none⟩ k6 (bytesV s) _ ((rd_of_heap (n := 16) (heap_fr HX.out hfr (fun e => e)) (by rw [bytesV_length, Hs.out]) (by simp [maxLen])).cell _ rfl) Try.underlying23 rfl (by rw [bytesV_length, Hs.out]; kernel_rfl) ?_
              exact hK _ _ ⟨_, rfl, rfl, Fr.refl _ _⟩
            · intro a w' hf he
              have f2 : a.tmps.getD 92 undef = .agg (bytesV s).toArray := he 2 (by kernel_rfl)
              have f3 : a.tmps.getD 93 undef = .agg (bytesV s).toArray := he 3 (by kernel_rfl)
              have hfr : Fr (fun k => False) _ w' := hf.of_start
              have hne := run_eql_barr (P := Try.prog) w' s s Hs.out Hs.out Try.underlying23 Try.underlying5 (by kernel_rfl)
              rw [decide_eq_true rfl] at hne
              refine wpOp_step rfl (fun K hK => ?_)
              go_simp
              exact hK _ _ ⟨_, rfl, rfl, Fr.refl _ _⟩
            · intro a w' hf he
              have f4 : a.tmps.getD 94 undef = .bool true := he 4 (by kernel_rfl)
              refine wpOp_step rfl (fun K hK => ?_)
              go_simp
              exact hK _ _ ⟨_, rfl, rfl, Fr.refl _ _⟩
            · intro a w' hf he
              have k8 : a.tmps.getD 8 undef = .pointer (some ⟨p, 0, none⟩) := hf.var (by kernel_rfl) rfl
              have f5 : a.tmps.getD 95 undef = .bool true := he 5 (by kernel_rfl)
              refine wpOp_run rfl rfl rfl f5 (fun K hK => ?_)
              go_simp
              exact hK _ _ ⟨_, rfl, rfl, Fr.refl _ _⟩
            · intro a w' hf he
              have f6 : a.tmps.getD 96 undef = .pointer (some ⟨p, 0, none⟩) := he 6 (by kernel_rfl)
              have f5 : a.tmps.getD 95 undef = .bool true := he 5 (by kernel_rfl)
              have hfr : Fr (fun k => False) _ w' := hf.of_start
              refine wpOp_run rfl rfl rfl f5 (fun K hK => ?_)
              go_simp
              refine (c_Cached (HK.out.fr hfr (fun e => e) (fun e => e) (fun e => e))).mono ?_
              rintro e w2 ⟨A2, c2, rfl, _, hb2⟩
              rw [Z2.out]
              exact hK _ _ ⟨_, rfl, ⟨_, _, rfl⟩, Fr.of_bel hb2⟩
            · intro a w' hf he
              obtain ⟨A7, c7, hv7⟩ := he 7 (by kernel_rfl)
              have f7 : a.tmps.getD 97 undef = _ := hv7
              have f5 : a.tmps.getD 95 undef = .bool true := he 5 (by kernel_rfl)
              have hfr : Fr (fun k => False) _ w' := hf.of_start
              refine wpOp_run rfl rfl rfl f5 (fun K hK => ?_)
              go_simp
              exact hK _ _ ⟨_, rfl, rfl, Fr.refl _ _⟩
            · intro a w' hf he
              have f8 : a.tmps.getD 98 undef = .int .i64 0 := he 8 (by kernel_rfl)
              have f5 : a.tmps.getD 95 undef = .bool true := he 5 (by kernel_rfl)
              have hfr : Fr (fun k => False) _ w' := hf.of_start
              refine wpOp_run rfl rfl rfl f5 (fun K hK => ?_)
              go_simp
              exact hK _ _ ⟨_, rfl, rfl, Fr.refl _ _⟩
            · intro a w' hf he
              have f5 : a.tmps.getD 95 undef = .bool true := he 5 (by kernel_rfl)
              have f9 : a.tmps.getD 99 undef = .bool true := he 9 (by kernel_rfl)
              refine wpOp_step rfl (fun K hK => ?_)
              go_simp
              exact hK _ _ ⟨_, rfl, rfl, Fr.refl _ _⟩
            · intro a w' hf he
              have f10 : a.tmps.getD 100 undef = .bool true := he 10 (by kernel_rfl)
              refine wpOp_step rfl (fun K hK => ?_)
              go_simp
              exact hK _ _ ⟨_, rfl, rfl, Fr.refl _ _⟩
            · intro a w' hf he
              have k8 : a.tmps.getD 8 undef = .pointer (some ⟨p, 0, none⟩) := hf.var (by kernel_rfl) rfl
              have f11 : a.tmps.getD 101 undef = .bool true := he 11 (by kernel_rfl)
              refine wpOp_run rfl rfl rfl f11 (fun K hK => ?_)
              go_simp
              exact hK _ _ ⟨_, rfl, rfl, Fr.refl _ _⟩
            · intro a w' hf he
              have f12 : a.tmps.getD 102 undef = .pointer (some ⟨p, 0, none⟩) := he 12 (by kernel_rfl)
              have f11 : a.tmps.getD 101 undef = .bool true := he 11 (by kernel_rfl)
              have hfr : Fr (fun k => False) _ w' := hf.of_start
              refine wpOp_run rfl rfl rfl f11 (fun K hK => ?_)
              go_simp
              refine (c_Broken (HK.out.fr hfr (fun e => e) (fun e => e) (fun e => e))).mono ?_
              rintro e w2 ⟨rfl, rfl⟩
              rw [Z3.out]
              exact hK _ _ ⟨_, rfl, rfl, Fr.refl _ _⟩
            · intro a w' hf he
              have f13 : a.tmps.getD 103 undef = .bool false := he 13 (by kernel_rfl)
              have f11 : a.tmps.getD 101 undef = .bool true := he 11 (by kernel_rfl)
              have hfr : Fr (fun k => False) _ w' := hf.of_start
              refine wpOp_run rfl rfl rfl f11 (fun K hK => ?_)
              go_simp
              exact hK _ _ ⟨_, rfl, rfl, Fr.refl _ _⟩
            · intro a w' hf he
              have f11 : a.tmps.getD 101 undef = .bool true := he 11 (by kernel_rfl)
              have f14 : a.tmps.getD 104 undef = .bool true := he 14 (by kernel_rfl)
              refine wpOp_step rfl (fun K hK => ?_)
              go_simp
              exact hK _ _ ⟨_, rfl, rfl, Fr.refl _ _⟩
            · intro a w' hf he
              have f15 : a.tmps.getD 105 undef = .bool true := he 15 (by kernel_rfl)
              refine wpOp_step rfl (fun K hK => ?_)
              go_simp
              exact hK _ _ ⟨_, rfl, rfl, Fr.refl _ _⟩
            · intro a w' hf he
              have k8 : a.tmps.getD 8 undef = .pointer (some ⟨p, 0, none⟩) := hf.var (by kernel_rfl) rfl
              have f16 : a.tmps.getD 106 undef = .bool true := he 16 (by kernel_rfl)
              refine wpOp_run rfl rfl rfl f16 (fun K hK => ?_)
              go_simp
              exact hK _ _ ⟨_, rfl, rfl, Fr.refl _ _⟩
            · intro a w' hf he
              have f17 : a.tmps.getD 107 undef = .pointer (some ⟨p, 0, none⟩) := he 17 (by kernel_rfl)
              have f16 : a.tmps.getD 106 undef = .bool true := he 16 (by kernel_rfl)
              have hfr : Fr (fun k => False) _ w' := hf.of_start
              refine wpOp_run rfl rfl rfl f16 (fun K hK => ?_)
              go_simp
              refine (c_FlushE (HK.out.fr hfr (fun e => e) (fun e => e) (fun e => e)) ho.out dc.flush.1 0 (Prod.ext rfl Z4.out)).mono ?_
              rintro e w2 ⟨rfl, _, f2⟩
              exact hK _ _ ⟨_, rfl, rfl, f2.mono (fun k _ e => .inl e)⟩
            · intro a w' hf he
              have f18 : a.tmps.getD 108 undef = .int .i64 0 := he 18 (by kernel_rfl)
              have f16 : a.tmps.getD 106 undef = .bool true := he 16 (by kernel_rfl)
              have hfr : Fr (fun k => (fun k => k = p ∨ k = g ∨ k = mb) k ∨ False) _ w' := hf.of_start
              replace hfr := hfr.un1
              refine wpOp_run rfl rfl rfl f16 (fun K hK => ?_)
              go_simp
              exact hK _ _ ⟨_, rfl, rfl, Fr.refl _ _⟩
            · intro a w' hf he
              have f16 : a.tmps.getD 106 undef = .bool true := he 16 (by kernel_rfl)
              have f19 : a.tmps.getD 109 undef = .bool true := he 19 (by kernel_rfl)
              refine wpOp_step rfl (fun K hK => ?_)
              go_simp
              exact hK _ _ ⟨_, rfl, rfl, Fr.refl _ _⟩
            · intro a w' hf he
              have f20 : a.tmps.getD 110 undef = .bool true := he 20 (by kernel_rfl)
              refine wpOp_step rfl (fun K hK => ?_)
              go_simp
              exact hK _ _ ⟨_, rfl, rfl, Fr.refl _ _⟩
            · intro a w' hf he
              have f21 : a.tmps.getD 111 undef = .bool true := he 21 (by kernel_rfl)
              have hfr : Fr (fun k => (fun k => k = p ∨ k = g ∨ k = mb) k ∨ False) _ w' := hf.of_start
              replace hfr := hfr.un1
              refine wpOp_run rfl rfl rfl f21 (fun K hK => ?_)
              go_simp
              refine (c_lives _).mono ?_
              rintro e w2 ⟨rfl, hb2⟩
              exact hK _ _ ⟨_, rfl, rfl, Fr.of_bel hb2⟩
            · intro a w' hf he
              have f21 : a.tmps.getD 111 undef = .bool true := he 21 (by kernel_rfl)
              have f22 : a.tmps.getD 112 undef = .bool true := he 22 (by kernel_rfl)
              refine wpOp_step rfl (fun K hK => ?_)
              go_simp
              exact hK _ _ ⟨_, rfl, rfl, Fr.refl _ _⟩
            · intro a w' hf he
              have f23 : a.tmps.getD 113 undef = .bool true := he 23 (by kernel_rfl)
              refine wpOp_step rfl (fun K hK => ?_)
              go_simp
              exact hK _ _ ⟨_, rfl, rfl, Fr.refl _ _⟩
          · intro a w' hf he
            obtain ⟨u90, f0⟩ : ∃ u, a.tmps.getD 90 undef = u := ⟨_, rfl⟩
            obtain ⟨u91, f1⟩ : ∃ u, a.tmps.getD 91 undef = u := ⟨_, rfl⟩
            obtain ⟨u92, f2⟩ : ∃ u, a.tmps.getD 92 undef = u := ⟨_, rfl⟩
            obtain ⟨u93, f3⟩ : ∃ u, a.tmps.getD 93 undef = u := ⟨_, rfl⟩
            obtain ⟨u94, f4⟩ : ∃ u, a.tmps.getD 94 undef = u := ⟨_, rfl⟩
            obtain ⟨u95, f5⟩ : ∃ u, a.tmps.getD 95 undef = u := ⟨_, rfl⟩
            obtain ⟨u96, f6⟩ : ∃ u, a.tmps.getD 96 undef = u := ⟨_, rfl⟩
            obtain ⟨u97, f7⟩ : ∃ u, a.tmps.getD 97 undef = u := ⟨_, rfl⟩
            obtain ⟨u98, f8⟩ : ∃ u, a.tmps.getD 98 undef = u := ⟨_, rfl⟩
            obtain ⟨u99, f9⟩ : ∃ u, a.tmps.getD 99 undef = u := ⟨_, rfl⟩
            obtain ⟨u100, f10⟩ : ∃ u, a.tmps.getD 100 undef = u := ⟨_, rfl⟩
            obtain ⟨u101, f11⟩ : ∃ u, a.tmps.getD 101 undef = u := ⟨_, rfl⟩
            obtain ⟨u102, f12⟩ : ∃ u, a.tmps.getD 102 undef = u := ⟨_, rfl⟩
            obtain ⟨u103, f13⟩ : ∃ u, a.tmps.getD 103 undef = u := ⟨_, rfl⟩
            obtain ⟨u104, f14⟩ : ∃ u, a.tmps.getD 104 undef = u := ⟨_, rfl⟩
            obtain ⟨u105, f15⟩ : ∃ u, a.tmps.getD 105 undef = u := ⟨_, rfl⟩
            obtain ⟨u106, f16⟩ : ∃ u, a.tmps.getD 106 undef = u := ⟨_, rfl⟩
            obtain ⟨u107, f17⟩ : ∃ u, a.tmps.getD 107 undef = u := ⟨_, rfl⟩
            obtain ⟨u108, f18⟩ : ∃ u, a.tmps.getD 108 undef = u := ⟨_, rfl⟩
            obtain ⟨u109, f19⟩ : ∃ u, a.tmps.getD 109 undef = u := ⟨_, rfl⟩
            obtain ⟨u110, f20⟩ : ∃ u, a.tmps.getD 110 undef = u := ⟨_, rfl⟩
            obtain ⟨u111, f21⟩ : ∃ u, a.tmps.getD 111 undef = u := ⟨_, rfl⟩
            obtain ⟨u112, f22⟩ : ∃ u, a.tmps.getD 112 undef = u := ⟨_, rfl⟩
            obtain ⟨u113, f23⟩ : ∃ u, a.tmps.getD 113 undef = u := ⟨_, rfl⟩
            have f24 : a.tmps.getD 4 undef = .bool true := he 24 (by decide)
            have hlit := hf.lit ((90, u90) :: (91, u91) :: (92, u92) :: (93, u93) :: (94, u94) :: (95, u95) :: (96, u96) :: (97, u97) :: (98, u98) :: (99, u99) :: (100, u100) :: (101, u101) :: (102, u102) :: (103, u103) :: (104, u104) :: (105, u105) :: (106, u106) :: (107, u107) :: (108, u108) :: (109, u109) :: (110, u110) :: (111, u111) :: (112, u112) :: (113, u113) :: (4, .bool true) :: []) (by kernel_rfl) ⟨f0, f1, f2, f3, f4, f5, f6, f7, f8, f9, f10, f11, f12, f13, f14, f15, f16, f17, f18, f19, f20, f21, f22, f23, f24, trivial⟩
            have hB : Fr (fun k => (fun k => k = p ∨ k = g ∨ k = mb) k ∨ False) _ w' := hf.of_start
            clear he hf f0 f1 f2 f3 f4 f5 f6 f7 f8 f9 f10 f11 f12 f13 f14 f15 f16 f17 f18 f19 f20 f21 f22 f23 f24 
            subst hlit
            simp only [putAll_nil, putAll_cons, Act.put, List.setIfInBounds_toArray, List.set_cons_zero, List.set_cons_succ]
            simp only [List.drop_succ_cons, List.drop_zero]
            go_wp2_with fail
            go_ret
            exact ⟨rfl, Dk.fresh HG.out HB.out (hB.mono (fun k _ e => e.elim (fun e => e) False.elim))⟩
    · by_cases h1 : x < 0
      · skip
        go_wp2_with (first
          | (go_at_call 27
             (with_reducible refine (c_dNewI 12 12 rfl _ (by omega) (by omega)).mono ?_)
             rintro e w4 ⟨p, g, mb, rfl, hk, hge, hb4⟩
             have HB := Lib.hid (HB.out.trans (hb4.mono HB.out.size))
             have HK := Lib.hid hk
             clear hk hge hb4)
          | (go_at_call 19
             (with_reducible refine (c_Made HK.out).mono ?_)
             rintro e w' ⟨rfl, rfl⟩)
          | (go_at_call 26; (with_reducible refine (c_lives _).mono ?_); rintro e w5 ⟨rfl, b5⟩))
        go_ret
        exact ⟨rfl, HB.out.trans (b5.mono HB.out.size)⟩
      · by_cases h2 : 11 < x
        · skip
          go_wp2_with (first
            | (go_at_call 27
               (with_reducible refine (c_dNewI 12 12 rfl _ (by omega) (by omega)).mono ?_)
               rintro e w4 ⟨p, g, mb, rfl, hk, hge, hb4⟩
               have HB := Lib.hid (HB.out.trans (hb4.mono HB.out.size))
               have HK := Lib.hid hk
               clear hk hge hb4)
            | (go_at_call 19
               (with_reducible refine (c_Made HK.out).mono ?_)
               rintro e w' ⟨rfl, rfl⟩)
            | (go_at_call 26; (with_reducible refine (c_lives _).mono ?_); rintro e w5 ⟨rfl, b5⟩))
          go_ret
          exact ⟨rfl, HB.out.trans (b5.mono HB.out.size)⟩
        · have h3 : 60 < n := by omega
          go_wp2_with (first
            | (go_at_call 27
               (with_reducible refine (c_dNewI 12 12 rfl _ (by omega) (by omega)).mono ?_)
               rintro e w4 ⟨p, g, mb, rfl, hk, hge, hb4⟩
               have HB := Lib.hid (HB.out.trans (hb4.mono HB.out.size))
               have HK := Lib.hid hk
               clear hk hge hb4)
            | (go_at_call 19
               (with_reducible refine (c_Made HK.out).mono ?_)
               rintro e w' ⟨rfl, rfl⟩)
            | (go_at_call 26; (with_reducible refine (c_lives _).mono ?_); rintro e w5 ⟨rfl, b5⟩))
          go_ret
          exact ⟨rfl, HB.out.trans (b5.mono HB.out.size)⟩
end Go.Proofs.Ytplemdgihlabgaa.Disk
