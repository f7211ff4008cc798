/- The law DiskNone, walked. Conditions: none. -/
import Derived.Test.YtplemdgihlabgaaDiskNone
set_option linter.unusedVariables false
set_option linter.unusedSimpArgs false
namespace Go.Proofs.Ytplemdgihlabgaa.Disk
open Go.RowKit Tw Go.Maps Go.ChangeMaps
set_option maxHeartbeats 4000000
set_option maxRecDepth 100000

/-- a row loaded under a guard that lets it run -/
theorem wpL_load_rdG {P : Program} {ops : Array Oper} {rest : List Oper} {w : World} {o : Oper} {a : Act} {Q : Exit → Act → World → Prop} (hgd : Region.wanted o (yielded ops a.tmps) = true) (ty : TypeId) (x : Operand) (ho : o.op = .load ty x)
    (ad : Addr) (hx : a.eval x = .pointer (some ad)) (cs : List Value) (d : TypeDesc) (hc : ∀ j v, cs[j]? = some v → w.cell? (ad.add j) = some v)
    (hu : P.underlying ty = some d) (hd : d.isRow = true) (hi : (P.info? ty).map (·.size) = some cs.length) (h : wpList P ops Q rest (a.put o.dst (.agg cs.toArray)) w) : wpList P ops Q (o :: rest) a w :=
  wpList_step fun K hK => by
    rw [if_pos hgd]
    exact wp_load_rd ty x ho ad hx cs d hc hu hd hi (hK _ _ h)
def dz : Array Value := #[.slice none 0 0, .map none, .int .i64 0, .bool false, .int .i64 0]
/-- the boxes of DiskNone -/
def NB (w W : World) (k a : Int) (s : Sec) (m : Nat) : Prop :=
  W.heap[w.heap.size]? = some (.cells (dactV k a s m).toArray 26 (0, 0)) ∧ W.heap[w.heap.size + 1]? = some (.cells dz 31 (0, 0)) ∧
  W.heap[w.heap.size + 2]? = some (.cells #[.pointer none, .pointer (some ⟨w.heap.size + 1, 0, none⟩)] 27 (0, 0)) ∧ Below w.heap.size w W
section
variable {w W W' : World} {k a : Int} {s : Sec} {m : Nat} {v : Value}
theorem NB.fr (h : NB w W k a s m) (hb : Below W.heap.size W W') : NB w W' k a s m := by
  obtain ⟨h1, h2, h3, h4⟩ := h
  exact ⟨(hb.block _ (heap_lt h1)).trans h1, (hb.block _ (heap_lt h2)).trans h2, (hb.block _ (heap_lt h3)).trans h3, h4.trans (hb.mono h4.size)⟩
theorem NB.dk (h : NB w W k a s m) : NoDk W (.pointer (some ⟨w.heap.size + 1, 0, none⟩)) := .inr ⟨_, rfl, heap_lt h.2.1, by simp [World.cell?, h.2.1, dz]⟩
theorem NB.cells (h : NB w W k a s m) (hs : s.length = 16) : W.cell? ⟨w.heap.size, 1, none⟩ = some (.int .i64 a) ∧ W.cell? ⟨w.heap.size, 18, none⟩ = some (.int .u64 (m : Int)) := by
  have h1 : (dactV k a s m)[18]? = some (.int .u64 (m : Int)) := by
    have := bytesV_length s
    simp [dactV, List.getElem?_append, this, hs]
  refine ⟨by simp [World.cell?, h.1, dactV], ?_⟩
  simp only [World.cell?, h.1]
  simpa using h1
theorem NB.sec (h : NB w W k a s m) (j : Nat) (v : Value) (hv : (bytesV s)[j]? = some v) : W.cell? ((⟨w.heap.size, 2, none⟩ : Addr).add j) = some v := by
  rw [Addr.add_mid]
  have hj := (List.getElem?_eq_some_iff.1 hv).1
  have h1 : (dactV k a s m)[2 + j]? = some v := by
    unfold dactV
    rw [List.getElem?_append_right (by simp), show 2 + j - [Value.int .i64 k, Value.int .i64 a].length = j by simp, List.getElem?_append_left hj, hv]
  simp only [World.cell?, h.1]
  simpa using h1
theorem NoDk.step (hB : NB w W k a s m) (hv : NoDk W v) (hb : Below W.heap.size W W') : Hid (NB w W' k a s m) ∧ Hid (NoDk W' v) := ⟨Lib.hid (hB.fr hb), Lib.hid (hv.bel hb)⟩
end
theorem ne0 (w : World) : (binOp .neq 23 (secVal 0) (secVal 0)).run Try.prog w = .ok (.bool false) w := by kernel_rfl
theorem w_DiskNone (k a : Int) (s : Sec) (m : Nat) (w : World) (ha : -9223372036854775808 ≤ a ∧ a ≤ 9223372036854775807) (hs : s.length = 16) (hm : m < 18446744073709551616) : Calls Try.prog 3 #[.agg (dactV k a s m).toArray] w fun e w' => e = .returned (.bool true) ∧ Below w.heap.size w w' := by
  have hB0 : NB w (((w.alloc (.cells (dactV k a s m).toArray 26)).alloc (.cells dz 31)).alloc (.cells #[.pointer none, .pointer (some ⟨w.heap.size + 1, 0, none⟩)] 27)) k a s m := by
    have h1 := heap_alloc_new w (.cells (dactV k a s m).toArray 26)
    have h2 := heap_alloc_new (w.alloc (.cells (dactV k a s m).toArray 26)) (.cells dz 31)
    have h3 := heap_alloc_new ((w.alloc (.cells (dactV k a s m).toArray 26)).alloc (.cells dz 31)) (.cells #[.pointer none, .pointer (some ⟨w.heap.size + 1, 0, none⟩)] 27)
    have b2 := Below.heap_alloc (w.alloc (.cells (dactV k a s m).toArray 26)) (.cells dz 31) _ (heap_lt h1)
    have b3 := Below.heap_alloc ((w.alloc (.cells (dactV k a s m).toArray 26)).alloc (.cells dz 31)) (.cells #[.pointer none, .pointer (some ⟨w.heap.size + 1, 0, none⟩)] 27)
    rw [World.size_alloc] at h2
    rw [World.size_alloc, World.size_alloc] at h3
    exact ⟨(b3 _ (by simp; omega)).trans (b2.trans h1), (b3 _ (by simp)).trans h2, h3, (((Below.refl _ _).alloc (Nat.le_refl _) _).alloc (by simp) _).alloc (by simp; omega) _⟩
  have HB := Lib.hid hB0
  have Hs := Lib.hid hs
  have q0 := ne0
  unfold secVal at q0
  unfold dz at HB
  clear hB0 hs
  go_enter Try.func3, Try.ntmps3
  go_wp2_with fail
  generalize (((w.alloc (.cells (dactV k a s m).toArray 26)).alloc (.cells #[.slice none 0 0, .map none, .int .i64 0, .bool false, .int .i64 0] 31)).alloc (.cells #[.pointer none, .pointer (some ⟨w.heap.size + 1, 0, none⟩)] 27)) = W0 at *
  go_loopw [13] (fun i wr => ∃ q : Nat, q ≤ 2 ∧ i = .int .i64 (q : Int) ∧ Hid (NB w wr k a s m)) (fun i _ => 2 - (intOf i).toNat)
  case atStart => exact ⟨0, by omega, rfl, HB⟩
  case round =>
    clear HB
    obtain ⟨q, hq, rfl, HB⟩ := hrel
    obtain ⟨v, hv, HV⟩ : ∃ v, Hid (q < 2 → wr.cell? ⟨w.heap.size + 2, q, none⟩ = some v) ∧ Hid (q < 2 → NoDk wr v) := by
      obtain ⟨h1, h2, h3, h4⟩ := HB.out
      obtain rfl | rfl | rfl : q = 0 ∨ q = 1 ∨ q = 2 := by omega
      · exact ⟨.pointer none, Lib.hid (fun _ => by simp [World.cell?, h3]), Lib.hid (fun _ => .inl rfl)⟩
      · exact ⟨_, Lib.hid (fun _ => by simp [World.cell?, h3]), Lib.hid (fun _ => HB.out.dk)⟩
      · exact ⟨undef, Lib.hid (fun h => by omega), Lib.hid (fun h => by omega)⟩
    by_cases hq2 : q < 2
    · have c1 := hv.out hq2
      have V := Lib.hid (HV.out hq2)
      obtain ⟨d1, d2⟩ := HB.out.cells Hs.out
      go_wp2_with (first
        | (go_at_call 14
           (with_reducible refine (c_Read_none V.out a).mono ?_)
           rintro e w2 ⟨rfl, hb2⟩
           have HBa := Lib.hid ((Below.refl w2.heap.size w2).alloc (Nat.le_refl _) (.cells Z16 23))
           have HX := Lib.hid (heap_alloc_new w2 (.cells Z16 23))
           obtain ⟨HB, V⟩ := NoDk.step HB.out V.out hb2
           unfold secVal
           unfold Z16 at HBa HX
           clear d1 d2 c1 hb2)
        | (refine wpL_store_all rfl rfl 23 (.tmp 6) (.tmp 22) rfl _ rfl _ rfl _ _ HX.out (by kernel_rfl) rfl (by simp [Value.oneCell']) ?_
           intro w3 x3 g3
           have hb3 := HBa.out.grown g3 HBa.out.size (by rintro k ⟨⟩; exact Nat.le_refl _)
           obtain ⟨HB, V⟩ := NoDk.step HB.out V.out hb3
           obtain ⟨d1, d2⟩ := HB.out.cells Hs.out
           clear x3 g3 HX HBa hb3)
        | (go_at_call 15; (with_reducible refine (c_Fuse_none V.out a).mono ?_); rintro e w' ⟨rfl, rfl⟩)
        | (go_at_call 16; (with_reducible refine (c_Crash_none V.out (m : Int)).mono ?_); rintro e w' ⟨rfl, rfl⟩)
        | (refine wpL_load_rdG rfl 23 (.tmp 38) rfl ⟨w.heap.size, 2, none⟩ rfl (bytesV s) _ HB.out.sec Try.underlying23 rfl (by rw [bytesV_length, Hs.out]; kernel_rfl) ?_)
        | (go_at_call 17
           (with_reducible refine (c_Write_none V.out a s Hs.out).mono ?_)
           rintro e w4 ⟨rfl, hb4⟩
           obtain ⟨HB, V⟩ := NoDk.step HB.out V.out hb4
           clear d1 d2 hb4
           obtain ⟨d1, d2⟩ := HB.out.cells Hs.out)
        | (go_at_call 18; (with_reducible refine (c_Flush_none V.out).mono ?_); rintro e w' ⟨rfl, rfl⟩)
        | (go_at_call 19; (with_reducible refine (c_Made_none V.out).mono ?_); rintro e w' ⟨rfl, rfl⟩)
        | (go_at_call 20; (with_reducible refine (c_Broken_none V.out).mono ?_); rintro e w' ⟨rfl, rfl⟩)
        | (go_at_call 21; (with_reducible refine (c_Size_none V.out).mono ?_); rintro e w' ⟨rfl, rfl⟩)
        | (go_at_call 22; (with_reducible refine (c_Ops_none V.out).mono ?_); rintro e w' ⟨rfl, rfl⟩)
        | (go_at_call 23; (with_reducible refine (c_Cached_none V.out).mono ?_); rintro e w' ⟨rfl, rfl⟩)
        | (go_at_call 24
           (with_reducible refine (c_Durable_none V.out a).mono ?_)
           rintro e w5 ⟨rfl, hb5⟩
           obtain ⟨HB, V⟩ := NoDk.step HB.out V.out hb5
           unfold secVal
           clear d1 d2 hb5)
        | (go_at_call 25; (with_reducible refine (c_Copy_none V.out).mono ?_); rintro e w' ⟨rfl, rfl⟩))
      go_roundw
      case rel => exact ⟨q + 1, by omega, by go_num, HB⟩
      case measure => simp [intOf] <;> omega
    · obtain rfl : q = 2 := by omega
      go_wp2_with (first
        | (go_at_call 26; (with_reducible refine (c_lives _).mono ?_); rintro e w2 ⟨rfl, hb2⟩))
      go_ret
      exact ⟨rfl, HB.out.2.2.2.trans (hb2.mono HB.out.2.2.2.size)⟩
end Go.Proofs.Ytplemdgihlabgaa.Disk
