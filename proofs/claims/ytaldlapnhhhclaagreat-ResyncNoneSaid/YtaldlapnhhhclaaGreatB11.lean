/- Texts joined: what the disks, the rings and their reference do. Conditions: none. -/
import Derived.Test.YtaldlapnhhhclaaGreatB10
/- Contracts of the package super; the law SuperNone, walked. Conditions: none. -/
set_option linter.unusedVariables false
set_option linter.unusedSimpArgs false
namespace Go.Proofs.YtaldlapnhhhclaaGreat.Super
open Go.RowKit Tw Disk Slots
set_option maxHeartbeats 4000000
set_option maxRecDepth 100000
theorem c_word (n q : Nat) (w : World) (hq : q < 4294967296) : Calls Tryz.prog 133 #[.int .u32 (n : Int), .int .u64 (q : Int)] w fun e w' => e = .returned (.int .u32 (q : Int)) ∧ w = w' := by
  have hw : IntKind.u32.wrap (q : Int) = (q : Int) := by simp [IntKind.wrap, IntKind.bits, IntKind.signed]; omega
  go_enter Tryz.func133, Tryz.ntmps133
  go_wp2
  go_ret
  refine ⟨?_, rfl⟩
  first
    | rfl
    | (simp; omega)
theorem c_Boot_of (u : Value) (n q : Nat) (w : World) (hq : q < 4294967296) (hl : ∀ w', Below w.heap.size w w' → Calls Tryz.prog 121 #[u, .int .i64 0, .int .i64 2] w' fun e w'' => e = .returned (.tuple #[.int .u32 (n : Int), .int .u64 (q : Int)]) ∧ Below w'.heap.size w' w'') :
    Calls Tryz.prog 76 #[u] w fun e w' => e = .returned (.int .u32 (q : Int)) ∧ Below w.heap.size w w' := by
  have hc := fun w => c_word n q w hq
  go_enter Tryz.func76, Tryz.ntmps76
  go_wp2_with (first
    | (go_at_call 121
       (with_reducible refine (hl _ (Below.refl _ _)).mono ?_)
       rintro e w2 ⟨rfl, hb2⟩
       have HB2 := Lib.hid hb2
       clear hb2 hl)
    | (go_at_call 133
       (with_reducible refine (hc _).mono ?_)
       rintro e w3 ⟨rfl, rfl⟩
       clear hc))
  go_ret
  exact ⟨rfl, HB2.out⟩
theorem c_Boot_nil (w : World) : Calls Tryz.prog 76 #[.pointer none] w fun e w' => e = .returned (.int .u32 0) ∧ Below w.heap.size w w' :=
  c_Boot_of _ 0 0 w (by omega) (fun w' _ => c_Latest_nil 0 2 w')
theorem c_Put_nilI (b s X : Int) (w : World) : Calls Tryz.prog 113 #[.pointer none, .int .i64 b, .int .i64 s, .int .u64 X] w fun e w' => e = .returned (.int .i64 1) ∧ Below w.heap.size w w' := by
  have HB := Lib.hid ((Below.refl _ _).alloc (Nat.le_refl w.heap.size) (.cells #[.int .i64 b, .int .i64 s] 214))
  go_enter Tryz.func113, Tryz.ntmps113
  go_wp2_with (first
    | (go_at_call 62
       (with_reducible refine (c_Made_nil _).mono ?_)
       rintro e w' ⟨rfl, rfl⟩))
  go_ret
  exact ⟨rfl, by have h := HB.out; simpa using h⟩
theorem c_Next_nil (w : World) : Calls Tryz.prog 125 #[.pointer none] w fun e w' => e = .returned (.tuple #[.int .u32 0, .int .i64 1]) ∧ Below w.heap.size w w' := by
  go_enter Tryz.func125, Tryz.ntmps125
  go_wp2_with (first
    | (go_at_call 76
       (with_reducible refine (c_Boot_nil _).mono ?_)
       rintro e w2 ⟨rfl, hb2⟩
       have HB2 := Lib.hid hb2
       clear hb2)
    | (go_at_call 113
       (with_reducible refine (c_Put_nilI 0 2 1 _).mono ?_)
       rintro e w3 ⟨rfl, hb3⟩
       have HB3 := Lib.hid (HB2.out.trans (hb3.mono HB2.out.size))
       clear hb3))
  go_ret2
  exact ⟨rfl, HB3.out⟩
section
variable {w : World} {p g mb c : Nat} {d d' : Dsk}
theorem c_BootI (h : Dk w p g mb c d) (n q : Nat) (hl : latest d 0 2 = (n, q)) (hq : q < 4294967296) : Calls Tryz.prog 76 #[.pointer (some ⟨p, 0, none⟩)] w fun e w' => e = .returned (.int .u32 (q : Int)) ∧ Below w.heap.size w w' :=
  c_Boot_of _ n q w hq (fun w' hb => by
    have h1 := c_Latest (h.bel hb) 0 2
    rw [hl] at h1
    exact h1)
theorem c_NextI (h : Dk w p g mb c d) (ho : d.ops + 1 < 1000000000) (n q e r : Nat) (hl : latest d 0 2 = (n, q)) (hq : q < 4294967295) (hs : sput d 0 2 (q + 1) = (d', e)) (hr : r = if e = 0 then q + 1 else 0) :
    Calls Tryz.prog 125 #[.pointer (some ⟨p, 0, none⟩)] w fun e' w' => e' = .returned (.tuple #[.int .u32 (r : Int), .int .i64 (e : Int)]) ∧ Dk w' p g mb c d' ∧ Fr (fun k => k = p ∨ k = g ∨ k = mb) w w' := by
  have HK := Lib.hid h
  have Hl := Lib.hid hl
  have Hs := Lib.hid hs
  clear h hl hs
  by_cases he : e = 0
  · rw [if_pos he] at hr
    subst he hr
    go_enter Tryz.func125, Tryz.ntmps125
    go_wp2_with (first
      | (go_at_call 76
         (with_reducible refine (c_BootI HK.out n q Hl.out (by omega)).mono ?_)
         rintro e w2 ⟨rfl, hb2⟩
         have HF2 := Lib.hid (Fr.of_bel (S := fun k => k = p ∨ k = g ∨ k = mb) hb2)
         have HK2 := Lib.hid (HK.out.bel hb2)
         clear hb2)
      | (go_at_call 113
         (with_reducible refine (c_PutI HK2.out ho 0 2 _ (q + 1) (by omega) (by omega) _ Hs.out).mono ?_)
         rintro e w3 ⟨rfl, hk3, f3⟩
         have HF3 := Lib.hid (HF2.out.trans f3 (fun _ _ e => e))
         have HK3 := Lib.hid hk3
         clear hk3 f3))
    go_ret2
    exact ⟨rfl, HK3.out, HF3.out⟩
  · rw [if_neg he] at hr
    subst hr
    have hne : ((e : Int) != 0) = true := by simp; omega
    clear he
    go_enter Tryz.func125, Tryz.ntmps125
    go_wp2_with (first
      | (go_at_call 76
         (with_reducible refine (c_BootI HK.out n q Hl.out (by omega)).mono ?_)
         rintro e w2 ⟨rfl, hb2⟩
         have HF2 := Lib.hid (Fr.of_bel (S := fun k => k = p ∨ k = g ∨ k = mb) hb2)
         have HK2 := Lib.hid (HK.out.bel hb2)
         clear hb2)
      | (go_at_call 113
         (with_reducible refine (c_PutI HK2.out ho 0 2 _ (q + 1) (by omega) (by omega) _ Hs.out).mono ?_)
         rintro e w3 ⟨rfl, hk3, f3⟩
         have HF3 := Lib.hid (HF2.out.trans f3 (fun _ _ e => e))
         have HK3 := Lib.hid hk3
         clear hk3 f3))
    go_ret2
    exact ⟨rfl, HK3.out, HF3.out⟩
theorem c_Fuse (h : Dk w p g mb c d) (k : Int) (hk : -9223372036854775808 ≤ k ∧ k ≤ 9223372036854775807) : Calls Tryz.prog 23 #[.pointer (some ⟨p, 0, none⟩), .int .i64 k] w fun e' w' => e' = .returned (.tuple #[]) ∧ Dk w' p g mb c (d.setFuse k) ∧ Fr (fun k => k = p) w w' := by
  obtain ⟨k0, k1, k2, k3, k4⟩ := h.cells
  have q2 := h.frozen 2
  have H := Lib.hid h
  have hok : (d.setFuse k).Ok := ⟨h.ok.n, h.ok.safe, h.ok.fresh, by simp only [Dsk.setFuse]; omega, h.ok.ops⟩
  have Hok := Lib.hid hok
  clear h hok
  by_cases hk1 : -1 ≤ k
  · have hm : max k (-1) = k := by omega
    have hm2 : d.setFuse k = { d with fuse := k, broken := d.broken, ops := d.ops } := by unfold Dsk.setFuse; rw [hm]
    have Hm2 := Lib.hid hm2
    clear hm2
    go_enter Tryz.func23, Tryz.ntmps23
    go_wp2_with (first
      | (go_at_call 62
         (with_reducible refine (c_Made H.out).mono ?_)
         rintro e w' ⟨rfl, rfl⟩))
    refine bodyPost_end (results_none rfl _ _ _) rfl ?_
    have hok := Hok.out
    rw [Hm2.out] at hok ⊢
    refine ⟨rfl, H.out.reset (fr_set w p 2 _) (Nat.le_refl _) hok ?_, fr_set w p 2 _⟩
    rw [heap_setCell_same _ p 2 _ _ _ H.out.blk]
    simp
  · have hm : max k (-1) = -1 := by omega
    have hm2 : d.setFuse k = { d with fuse := -1, broken := d.broken, ops := d.ops } := by unfold Dsk.setFuse; rw [hm]
    have Hm2 := Lib.hid hm2
    clear hm2
    go_enter Tryz.func23, Tryz.ntmps23
    go_wp2_with (first
      | (go_at_call 62
         (with_reducible refine (c_Made H.out).mono ?_)
         rintro e w' ⟨rfl, rfl⟩))
    refine bodyPost_end (results_none rfl _ _ _) rfl ?_
    have hok := Hok.out
    rw [Hm2.out] at hok ⊢
    refine ⟨rfl, H.out.reset (fr_set w p 2 _) (Nat.le_refl _) hok ?_, fr_set w p 2 _⟩
    rw [heap_setCell_same _ p 2 _ _ _ H.out.blk]
    simp
end
theorem l1 : latest (Dsk.new 8) 0 2 = (0, 0) := latest_new 8 0 2
theorem l2 : (sput (Dsk.new 8) 0 2 1).2 = 0 ∧ (sput (Dsk.new 8) 0 2 1).1.ops + 1 < 1000000000 ∧ latest (sput (Dsk.new 8) 0 2 1).1 0 2 = (1, 1) ∧ (sput (sput (Dsk.new 8) 0 2 1).1 0 2 2).2 = 0 ∧ latest (sput (sput (Dsk.new 8) 0 2 1).1 0 2 2).1 0 2 = (2, 2) := by decide +kernel
theorem l3 : latest ((Dsk.new 8).setFuse 0) 0 2 = (0, 0) ∧ (sput ((Dsk.new 8).setFuse 0) 0 2 1).2 = 3 ∧ latest (sput ((Dsk.new 8).setFuse 0) 0 2 1).1 0 2 = (0, 0) := by decide +kernel
end Go.Proofs.YtaldlapnhhhclaaGreat.Super
/- Contracts of the package actlog; the law ActlogNone, walked. Conditions: none. -/
namespace Go.Proofs.YtaldlapnhhhclaaGreat.Actlog
open Go.RowKit Tw Disk Slots
set_option maxHeartbeats 4000000
set_option maxRecDepth 100000
theorem c_here (w : World) : Calls Tryz.prog 135 #[] w fun e w' => e = .returned (.agg #[.int .i64 2, .int .i64 4]) ∧ Below w.heap.size w w' := by
  have HB := Lib.hid ((Below.refl w.heap.size w).alloc (Nat.le_refl _) (.cells #[.int .i64 2, .int .i64 4] 199))
  go_enter Tryz.func135, Tryz.ntmps135
  go_wp2_with fail
  refine bodyPost_ret (results_cell_row rfl _ _ w.heap.size _ _ (0, 0) _ rfl (heap_alloc_new w _) Tryz.underlying199 rfl (by kernel_rfl)) rfl ?_
  exact ⟨rfl, HB.out⟩
theorem c_of (u : Value) (n q : Nat) (w : World) (hl : ∀ w', Below w.heap.size w w' → Calls Tryz.prog 121 #[u, .int .i64 2, .int .i64 4] w' fun e w'' => e = .returned (.tuple #[.int .u32 (n : Int), .int .u64 (q : Int)]) ∧ Below w'.heap.size w' w'') :
    Calls Tryz.prog 134 #[.agg #[.int .i64 2, .int .i64 4], u] w fun e w' => e = .returned (.tuple #[.int .u32 (n : Int), .int .u64 (q : Int)]) ∧ Below w.heap.size w w' := by
  have hb := ((Below.refl w.heap.size w).alloc (Nat.le_refl _) (.cells #[.int .i64 2, .int .i64 4] 199))
  have HB := Lib.hid hb
  have hl2 := hl _ hb
  clear hl hb
  go_enter Tryz.func134, Tryz.ntmps134
  go_wp2_with (first
    | (go_at_call 121
       (with_reducible refine hl2.mono ?_)
       rintro e w2 ⟨rfl, hb2⟩
       have HB2 := Lib.hid (HB.out.trans (hb2.mono HB.out.size))
       clear hb2 hl2))
  go_ret2
  exact ⟨rfl, HB2.out⟩
theorem c_Get_of (u : Value) (n q : Nat) (w : World) (hl : ∀ w', Below w.heap.size w w' → Calls Tryz.prog 121 #[u, .int .i64 2, .int .i64 4] w' fun e w'' => e = .returned (.tuple #[.int .u32 (n : Int), .int .u64 (q : Int)]) ∧ Below w'.heap.size w' w'') :
    Calls Tryz.prog 77 #[u] w fun e w' => e = .returned (.int .u64 (q : Int)) ∧ Below w.heap.size w w' := by
  go_enter Tryz.func77, Tryz.ntmps77
  go_wp2_with (first
    | (go_at_call 135
       (with_reducible refine (c_here _).mono ?_)
       rintro e w1 ⟨rfl, hb1⟩
       have HB1 := Lib.hid hb1
       clear hb1)
    | (go_at_call 134
       (with_reducible refine (c_of _ n q _ (fun w' hb' => hl w' (HB1.out.trans (hb'.mono HB1.out.size)))).mono ?_)
       rintro e w2 ⟨rfl, hb2⟩
       have HB2 := Lib.hid (HB1.out.trans (hb2.mono HB1.out.size))
       clear hb2 hl))
  go_ret
  exact ⟨rfl, HB2.out⟩
theorem c_Get_nil (w : World) : Calls Tryz.prog 77 #[.pointer none] w fun e w' => e = .returned (.int .u64 0) ∧ Below w.heap.size w w' :=
  c_Get_of _ 0 0 w (fun w' _ => c_Latest_nil 2 4 w')
theorem c_Put_nil (X : Int) (w : World) : Calls Tryz.prog 80 #[.pointer none, .int .u64 X] w fun e w' => e = .returned (.int .i64 1) ∧ Below w.heap.size w w' := by
  have HB := Lib.hid (((Below.refl w.heap.size w).alloc (Nat.le_refl _) (.cells #[.pointer none] 29)).alloc (by simp) (.cells #[.int .u64 X] 22))
  go_enter Tryz.func80, Tryz.ntmps80
  go_wp2_with (first
    | (go_at_call 62
       (with_reducible refine (c_Made_nil _).mono ?_)
       rintro e w' ⟨rfl, rfl⟩))
  go_ret
  exact ⟨rfl, HB.out⟩
section
variable {w : World} {p g mb c : Nat} {d d' : Dsk}
theorem c_GetI (h : Dk w p g mb c d) (n q : Nat) (hl : latest d 2 4 = (n, q)) : Calls Tryz.prog 77 #[.pointer (some ⟨p, 0, none⟩)] w fun e w' => e = .returned (.int .u64 (q : Int)) ∧ Below w.heap.size w w' :=
  c_Get_of _ n q w (fun w' hb => by
    have h1 := c_Latest (h.bel hb) 2 4
    rw [hl] at h1
    exact h1)
theorem c_put (h : Dk w p g mb c d) (ho : d.ops + 1 < 1000000000) (X : Int) (x : Nat) (hX : X = (x : Int)) (hx : x < 18446744073709551616) (e : Nat) (hs : sput d 2 4 x = (d', e)) :
    Calls Tryz.prog 138 #[.agg #[.int .i64 2, .int .i64 4], .pointer (some ⟨p, 0, none⟩), .int .u64 X] w fun e' w' => e' = .returned (.int .i64 (e : Int)) ∧ Dk w' p g mb c d' ∧ Fr (fun k => k = p ∨ k = g ∨ k = mb) w w' := by
  subst hX
  have hb := ((Below.refl w.heap.size w).alloc (Nat.le_refl _) (.cells #[.int .i64 2, .int .i64 4] 199))
  have HB := Lib.hid hb
  have HK := Lib.hid (h.bel hb)
  have Hs := Lib.hid hs
  clear h hb hs
  go_enter Tryz.func138, Tryz.ntmps138
  go_wp2_with (first
    | (go_at_call 113
       (with_reducible refine (c_PutI HK.out ho 2 4 _ x rfl hx _ Hs.out).mono ?_)
       rintro e w2 ⟨rfl, hk2, f2⟩
       have HK2 := Lib.hid hk2
       have HF2 := Lib.hid ((Fr.of_bel (S := fun k => k = p ∨ k = g ∨ k = mb) HB.out).trans f2 (fun _ _ e => e))
       clear hk2 f2))
  go_ret
  exact ⟨rfl, HK2.out, HF2.out⟩
theorem two_boxes (w : World) (o1 o2 : Obj) : ∃ w2, w2 = (w.alloc o1).alloc o2 ∧ w2.heap[w.heap.size]? = some o1 ∧ w2.heap[w.heap.size + 1]? = some o2 ∧ Below w.heap.size w w2 := by
  have h1 := heap_alloc_new w o1
  have h2 := heap_alloc_new (w.alloc o1) o2
  have b2 := Below.heap_alloc (w.alloc o1) o2 _ (heap_lt h1)
  rw [World.size_alloc] at h2
  exact ⟨_, rfl, b2.trans h1, h2, (((Below.refl _ _).alloc (Nat.le_refl _) _).alloc (by simp) _)⟩
theorem cell1 {w : World} {g : Nat} {t : TypeId} {a : Value} (h : w.heap[g]? = some (.cells #[a] t (0, 0))) : w.cell? ⟨g, 0, none⟩ = some a := by simp [World.cell?, h]
theorem c_same {g1 g2 : Nat} {t1 t2 : TypeId} (h : Dk w p g mb c d) (n q : Nat) (X : Int) (r : Bool) (hr : ((q : Int) == X) = r) (hl : latest d 2 4 = (n, q)) (h1 : w.heap[g1]? = some (.cells #[.pointer (some ⟨p, 0, none⟩)] t1 (0, 0))) (h2 : w.heap[g2]? = some (.cells #[.int .u64 X] t2 (0, 0))) :
    Calls Tryz.prog 137 #[.pointer (some ⟨g1, 0, none⟩), .pointer (some ⟨g2, 0, none⟩)] w fun e w' => e = .returned (.bool r) ∧ Below w.heap.size w w' := by
  have HK := Lib.hid h
  have Hl := Lib.hid hl
  have X1 := Lib.hid h1
  have X2 := Lib.hid h2
  clear h hl h1 h2
  go_enter Tryz.func137, Tryz.ntmps137
  go_wp2_with fail
  refine wp_region_phi (by kernel_rfl) 5 none (fun _ => false) (fun i_ v wz => match i_ with
    | 0 => v = .pointer (some ⟨p, 0, none⟩)
    | 1 => v = .int .u64 (q : Int)
    | 2 => v = .int .u64 X
    | 3 => v = .bool r
    | 4 => v = .bool r
    | _ => True) (by kernel_rfl) ?_ ?_ ?_
  · (repeat' (first | exact allLt_zero | refine allLt_succ ?_ ?_))
    · exact fun _ _ _ h _ => h
    · exact fun _ _ _ h _ => h
    · exact fun _ _ _ h _ => h
    · exact fun _ _ _ h _ => h
    · exact fun _ _ _ h _ => h
  · (repeat' (first | exact allLt_zero | refine allLt_succ ?_ ?_))
    · intro a w' hf he
      have k0 : a.tmps.getD 0 undef = .pointer (some ⟨g1, 0, none⟩) := hf.var (by kernel_rfl) rfl
      rw [show kindRow _ _ = none from by kernel_rfl] at hf
      have dd := cell1 ((hf.bel.block _ (heap_lt X1.out)).trans X1.out)
      refine wpOp_step rfl (fun K hK => ?_)
      go_simp
      exact hK _ _ ⟨_, rfl, rfl, World.grownBy.refl _ _⟩
    · intro a w' hf he
      have f0 : a.tmps.getD 3 undef = .pointer (some ⟨p, 0, none⟩) := he 0 (by kernel_rfl)
      rw [show kindRow _ _ = none from by kernel_rfl] at hf
      refine wpOp_step rfl (fun K hK => ?_)
      go_simp
      refine (c_GetI (HK.out.bel hf.bel) n q Hl.out).mono ?_
      rintro e w2 ⟨rfl, hb2⟩
      exact hK _ _ ⟨_, rfl, rfl, grown_bel hb2⟩
    · intro a w' hf he
      have k1 : a.tmps.getD 1 undef = .pointer (some ⟨g2, 0, none⟩) := hf.var (by kernel_rfl) rfl
      rw [show kindRow _ _ = none from by kernel_rfl] at hf
      have dd := cell1 ((hf.bel.block _ (heap_lt X2.out)).trans X2.out)
      refine wpOp_step rfl (fun K hK => ?_)
      go_simp
      exact hK _ _ ⟨_, rfl, rfl, World.grownBy.refl _ _⟩
    · intro a w' hf he
      have f1 : a.tmps.getD 4 undef = .int .u64 (q : Int) := he 1 (by kernel_rfl)
      have f2 : a.tmps.getD 5 undef = .int .u64 X := he 2 (by kernel_rfl)
      refine wpOp_step rfl (fun K hK => ?_)
      go_simp
      exact hK _ _ ⟨_, rfl, rfl, World.grownBy.refl _ _⟩
    · intro a w' hf he
      have f3 : a.tmps.getD 6 undef = .bool r := he 3 (by kernel_rfl)
      refine wpOp_step rfl (fun K hK => ?_)
      go_simp
      exact hK _ _ ⟨_, rfl, rfl, World.grownBy.refl _ _⟩
  · intro a w' hf he
    obtain ⟨u3, f0⟩ : ∃ u, a.tmps.getD 3 undef = u := ⟨_, rfl⟩
    obtain ⟨u4, f1⟩ : ∃ u, a.tmps.getD 4 undef = u := ⟨_, rfl⟩
    obtain ⟨u5, f2⟩ : ∃ u, a.tmps.getD 5 undef = u := ⟨_, rfl⟩
    obtain ⟨u6, f3⟩ : ∃ u, a.tmps.getD 6 undef = u := ⟨_, rfl⟩
    have f4 : a.tmps.getD 2 undef = .bool r := he 4 (by decide)
    have hlit := hf.lit ((3, u3) :: (4, u4) :: (5, u5) :: (6, u6) :: (2, .bool r) :: []) (by kernel_rfl) ⟨f0, f1, f2, f3, f4, trivial⟩
    have hB := hf.bel
    clear he hf f0 f1 f2 f3 f4 
    subst hlit
    simp only [putAll_nil, putAll_cons, Act.put, List.setIfInBounds_toArray, List.set_cons_zero, List.set_cons_succ]
    simp only [List.drop_succ_cons, List.drop_zero]
    go_wp2_with fail
    go_ret
    exact ⟨rfl, hB⟩
theorem c_Put_same (h : Dk w p g mb c d) (hb : d.broken = false) (n q : Nat) (X : Int) (hX : X = (q : Int)) (hl : latest d 2 4 = (n, q)) :
    Calls Tryz.prog 80 #[.pointer (some ⟨p, 0, none⟩), .int .u64 X] w fun e w' => e = .returned (.int .i64 0) ∧ Below w.heap.size w w' := by
  have hq : ((q : Int) == X) = true := by simp [hX]
  obtain ⟨W2, hW2, h1, h2, hB⟩ := two_boxes w (.cells #[.pointer (some ⟨p, 0, none⟩)] 29) (.cells #[.int .u64 X] 22)
  have HB := Lib.hid hB
  have HK := Lib.hid (h.bel hB)
  have Hbr := Lib.hid hb
  have X1 := Lib.hid h1
  have X2 := Lib.hid h2
  have d1 := cell1 h1
  have d2 := cell1 h2
  have Hl := Lib.hid hl
  clear h hb hB h1 h2 hl
  have Hq := Lib.hid hq
  clear hq hX
  go_enter Tryz.func80, Tryz.ntmps80
  go_upto_block 0 with (fail)
  rw [← hW2]
  clear hW2
  go_wp2_with (first
  | (go_at_call 62
     (with_reducible refine (c_Made HK.out).mono ?_)
     rintro e w' ⟨rfl, rfl⟩)
  | (go_at_call 112
     (with_reducible refine (c_Broken HK.out).mono ?_)
     rintro e w' ⟨rfl, rfl⟩
     rw [Hbr.out])
  | (go_at_call 137
     (with_reducible refine (c_same HK.out n q _ _ Hq.out Hl.out X1.out X2.out).mono ?_)
     rintro e w3 ⟨rfl, hb3⟩
     have HB3 := Lib.hid (HB.out.trans (hb3.mono HB.out.size))
     have HK3 := Lib.hid (HK.out.bel hb3)
     have X13 := Lib.hid ((hb3.block _ (heap_lt X1.out)).trans X1.out)
     have X23 := Lib.hid ((hb3.block _ (heap_lt X2.out)).trans X2.out)
     clear d1 d2 hb3)
    | fail)
  go_ret
  exact ⟨rfl, HB3.out⟩
theorem c_Put_new (h : Dk w p g mb c d) (ho : d.ops + 1 < 1000000000) (hb : d.broken = false) (n q : Nat) (X : Int) (x : Nat) (hX : X = (x : Int)) (hx : x < 18446744073709551616) (hne : q ≠ x) (hl : latest d 2 4 = (n, q)) (e : Nat) (hs : sput d 2 4 x = (d', e)) :
    Calls Tryz.prog 80 #[.pointer (some ⟨p, 0, none⟩), .int .u64 X] w fun e' w' => e' = .returned (.int .i64 (e : Int)) ∧ Dk w' p g mb c d' ∧ Fr (fun k => k = p ∨ k = g ∨ k = mb) w w' := by
  have hq : ((q : Int) == X) = false := by simp [hX]; omega
  obtain ⟨W2, hW2, h1, h2, hB⟩ := two_boxes w (.cells #[.pointer (some ⟨p, 0, none⟩)] 29) (.cells #[.int .u64 X] 22)
  have HB := Lib.hid hB
  have HK := Lib.hid (h.bel hB)
  have Hbr := Lib.hid hb
  have X1 := Lib.hid h1
  have X2 := Lib.hid h2
  have d1 := cell1 h1
  have d2 := cell1 h2
  have Hl := Lib.hid hl
  clear h hb hB h1 h2 hl
  have Hq := Lib.hid hq
  have HX := Lib.hid hX
  have Hs := Lib.hid hs
  clear hq hX hs
  go_enter Tryz.func80, Tryz.ntmps80
  go_upto_block 0 with (fail)
  rw [← hW2]
  clear hW2
  go_wp2_with (first
  | (go_at_call 62
     (with_reducible refine (c_Made HK.out).mono ?_)
     rintro e w' ⟨rfl, rfl⟩)
  | (go_at_call 112
     (with_reducible refine (c_Broken HK.out).mono ?_)
     rintro e w' ⟨rfl, rfl⟩
     rw [Hbr.out])
  | (go_at_call 137
     (with_reducible refine (c_same HK.out n q _ _ Hq.out Hl.out X1.out X2.out).mono ?_)
     rintro e w3 ⟨rfl, hb3⟩
     have HB3 := Lib.hid (HB.out.trans (hb3.mono HB.out.size))
     have HK3 := Lib.hid (HK.out.bel hb3)
     have X13 := Lib.hid ((hb3.block _ (heap_lt X1.out)).trans X1.out)
     have X23 := Lib.hid ((hb3.block _ (heap_lt X2.out)).trans X2.out)
     clear d1 d2 hb3)
    | fail)
  refine wp_region_phi (by kernel_rfl) 3 none (fun _ => false) (fun i_ v wz => match i_ with
    | 0 => v = .agg #[.int .i64 2, .int .i64 4]
    | 1 => v = .pointer (some ⟨p, 0, none⟩)
    | 2 => v = .int .u64 X
    | _ => True) (by kernel_rfl) ?_ ?_ ?_
  · (repeat' (first | exact allLt_zero | refine allLt_succ ?_ ?_))
    · exact fun _ _ _ h _ => h
    · exact fun _ _ _ h _ => h
    · exact fun _ _ _ h _ => h
  · (repeat' (first | exact allLt_zero | refine allLt_succ ?_ ?_))
    · intro a w' hf he
      rw [show kindRow _ _ = none from by kernel_rfl] at hf
      refine wpOp_step rfl (fun K hK => ?_)
      go_simp
      refine (c_here _).mono ?_
      rintro e w2 ⟨rfl, hb2⟩
      exact hK _ _ ⟨_, rfl, rfl, grown_bel hb2⟩
    · intro a w' hf he
      have k2 : a.tmps.getD 2 undef = .pointer (some ⟨w.heap.size, 0, none⟩) := hf.var (by kernel_rfl) rfl
      rw [show kindRow _ _ = none from by kernel_rfl] at hf
      have dd := cell1 ((hf.bel.block _ (heap_lt X13.out)).trans X13.out)
      refine wpOp_step rfl (fun K hK => ?_)
      go_simp
      exact hK _ _ ⟨_, rfl, rfl, World.grownBy.refl _ _⟩
    · intro a w' hf he
      have k3 : a.tmps.getD 3 undef = .pointer (some ⟨w.heap.size + 1, 0, none⟩) := hf.var (by kernel_rfl) rfl
      rw [show kindRow _ _ = none from by kernel_rfl] at hf
      have dd := cell1 ((hf.bel.block _ (heap_lt X23.out)).trans X23.out)
      refine wpOp_step rfl (fun K hK => ?_)
      go_simp
      exact hK _ _ ⟨_, rfl, rfl, World.grownBy.refl _ _⟩
  · intro a w' hf he
    have f0 : a.tmps.getD 17 undef = .agg #[.int .i64 2, .int .i64 4] := he 0 (by decide)
    have f1 : a.tmps.getD 18 undef = .pointer (some ⟨p, 0, none⟩) := he 1 (by decide)
    have f2 : a.tmps.getD 19 undef = .int .u64 X := he 2 (by decide)
    have hlit := hf.lit ((17, .agg #[.int .i64 2, .int .i64 4]) :: (18, .pointer (some ⟨p, 0, none⟩)) :: (19, .int .u64 X) :: []) (by kernel_rfl) ⟨f0, f1, f2, trivial⟩
    have hB := hf.bel
    clear he hf f0 f1 f2 
    subst hlit
    simp only [putAll_nil, putAll_cons, Act.put, List.setIfInBounds_toArray, List.set_cons_zero, List.set_cons_succ]
    simp only [List.drop_succ_cons, List.drop_zero]
    have HK4 := Lib.hid (HK3.out.bel hB)
    have HB4 := Lib.hid (HB3.out.trans (hB.mono HB3.out.size))
    clear hB
    go_wp2_with (first
      | (go_at_call 138
         (with_reducible refine (c_put HK4.out ho _ x HX.out hx _ Hs.out).mono ?_)
         rintro e w5 ⟨rfl, hk5, f5⟩
         have HK5 := Lib.hid hk5
         have HF5 := Lib.hid ((Fr.of_bel (S := fun k => k = p ∨ k = g ∨ k = mb) HB4.out).trans f5 (fun _ _ e => e))
         clear hk5 f5))
    go_ret
    exact ⟨rfl, HK5.out, HF5.out⟩
end
theorem l1 : latest (Dsk.new 12) 2 4 = (0, 0) := latest_new 12 2 4
theorem l2 : (sput (Dsk.new 12) 2 4 5).2 = 0 ∧ (sput (Dsk.new 12) 2 4 5).1.broken = false ∧ latest (sput (Dsk.new 12) 2 4 5).1 2 4 = (1, 5) := by decide +kernel
end Go.Proofs.YtaldlapnhhhclaaGreat.Actlog
/- Contracts of the packages bits and dirty; the law DirtyNone, walked. Conditions: none. -/
namespace Go.Proofs.YtaldlapnhhhclaaGreat.Dirty
open Go.RowKit Tw Disk Slots
set_option maxHeartbeats 4000000
set_option maxRecDepth 100000
theorem c_in (e : Int) (w : World) : Calls Tryz.prog 155 #[.int .i64 e] w fun e' w' => e' = .returned (.bool (decide (0 ≤ e ∧ e < 64))) ∧ w = w' := by
  go_enter Tryz.func155, Tryz.ntmps155
  go_wp2
  all_goals
    go_ret
    refine ⟨Span.ret_bool rfl ?_, rfl⟩
    rw [Bool.eq_iff_iff]
    simp only [decide_eq_true_eq, Bool.false_eq_true, Bool.true_eq_false, Bool.and_eq_true, true_iff, false_iff]
    omega
theorem c_One (e : Int) (w : World) : Calls Tryz.prog 120 #[.int .i64 e] w fun e' w' => e' = .returned (.int .u64 (if 0 ≤ e ∧ e < 64 then ((2 ^ e.toNat : Nat) : Int) else 0)) ∧ w = w' := by
  have hi := c_in e
  by_cases h : 0 ≤ e ∧ e < 64
  · have hd := Lib.hid (decide_eq_true h)
    rw [if_pos h]
    go_enter Tryz.func120, Tryz.ntmps120
    go_wp2_with (first
      | (go_at_call 155
         (with_reducible refine (hi _).mono ?_)
         rintro e w1 ⟨rfl, rfl⟩
         rw [hd.out]))
    go_ret
    refine ⟨?_, rfl⟩
    have hlt : 2 ^ e.toNat < 2 ^ 64 := Nat.pow_lt_pow_right (by omega) (by omega)
    have hw : IntKind.u64.wrap (2 ^ e.toNat) = ((2 ^ e.toNat : Nat) : Int) := by
      have h1 : ((2 : Int) ^ e.toNat) = ((2 ^ e.toNat : Nat) : Int) := by norm_cast
      rw [h1]
      generalize 2 ^ e.toNat = y at *
      simp [IntKind.wrap, IntKind.bits, IntKind.signed]
      omega
    show Ending.returned (Value.int IntKind.u64 (IntKind.u64.wrap (2 ^ e.toNat))) = _
    rw [hw]
  · have hd := Lib.hid (decide_eq_false h)
    rw [if_neg h]
    go_enter Tryz.func120, Tryz.ntmps120
    go_wp2_with (first
      | (go_at_call 155
         (with_reducible refine (hi _).mono ?_)
         rintro e w1 ⟨rfl, rfl⟩
         rw [hd.out]))
    go_ret
    exact ⟨rfl, rfl⟩
theorem c_Without (S : Nat) (e r : Int) (w : World) (hr : bits BinOp.andNot IntKind.u64 (S : Int) (if 0 ≤ e ∧ e < 64 then ((2 ^ e.toNat : Nat) : Int) else 0) = r) :
    Calls Tryz.prog 65 #[.int .u64 (S : Int), .int .i64 e] w fun e' w' => e' = .returned (.int .u64 r) ∧ w = w' := by
  have ho := c_One e
  obtain ⟨q, hq⟩ : ∃ q, (if 0 ≤ e ∧ e < 64 then ((2 ^ e.toNat : Nat) : Int) else 0) = q := ⟨_, rfl⟩
  rw [hq] at ho hr
  subst hr
  clear hq
  go_enter Tryz.func65, Tryz.ntmps65
  go_wp2_with (first
    | (go_at_call 120
       (with_reducible refine (ho _).mono ?_)
       rintro e w1 ⟨rfl, rfl⟩))
  go_ret
  exact ⟨rfl, rfl⟩
theorem andNot_zero (q : Int) : bits BinOp.andNot IntKind.u64 0 q = 0 := by
  simp [bits, Op.intBits]
  decide
theorem andNot_six : bits BinOp.andNot IntKind.u64 6 2 = 4 := by decide
theorem c_mask (u : Value) (n q : Nat) (w : World) (hl : ∀ w', Below w.heap.size w w' → Calls Tryz.prog 121 #[u, .int .i64 6, .int .i64 2] w' fun e w'' => e = .returned (.tuple #[.int .u32 (n : Int), .int .u64 (q : Int)]) ∧ Below w'.heap.size w' w'') :
    Calls Tryz.prog 66 #[.agg #[u]] w fun e w' => e = .returned (.int .u64 (q : Int)) ∧ Below w.heap.size w w' := by
  have hb := ((Below.refl w.heap.size w).alloc (Nat.le_refl _) (.cells #[u] 131))
  have HB := Lib.hid hb
  have hl2 := hl _ hb
  clear hl hb
  go_enter Tryz.func66, Tryz.ntmps66
  go_wp2_with (first
    | (go_at_call 121
       (with_reducible refine hl2.mono ?_)
       rintro e w2 ⟨rfl, hb2⟩
       have HB2 := Lib.hid (HB.out.trans (hb2.mono HB.out.size))
       clear hb2 hl2))
  go_ret
  exact ⟨rfl, HB2.out⟩
theorem c_mask_nil (w : World) : Calls Tryz.prog 66 #[.agg #[.pointer none]] w fun e w' => e = .returned (.int .u64 0) ∧ Below w.heap.size w w' :=
  c_mask _ 0 0 w (fun w' _ => c_Latest_nil 6 2 w')
theorem c_Get_nil (w : World) : Calls Tryz.prog 27 #[.pointer none] w fun e w' => e = .returned (.int .u64 0) ∧ Below w.heap.size w w' := by
  go_enter Tryz.func27, Tryz.ntmps27
  go_wp2_with (first
    | (go_at_call 66
       (with_reducible refine (c_mask_nil _).mono ?_)
       rintro e w1 ⟨rfl, hb1⟩
       have HB1 := Lib.hid hb1
       clear hb1))
  go_ret
  exact ⟨rfl, HB1.out⟩
theorem c_turn_nil (X : Int) (w : World) : Calls Tryz.prog 60 #[.agg #[.pointer none], .int .u64 X] w fun e w' => e = .returned (.int .i64 1) ∧ Below w.heap.size w w' := by
  have HB := Lib.hid ((Below.refl w.heap.size w).alloc (Nat.le_refl _) (.cells #[.pointer none] 131))
  go_enter Tryz.func60, Tryz.ntmps60
  go_wp2_with (first
    | (go_at_call 62
       (with_reducible refine (c_Made_nil _).mono ?_)
       rintro e w' ⟨rfl, rfl⟩))
  go_ret
  exact ⟨rfl, HB.out⟩
theorem c_Put_nil (X : Int) (w : World) : Calls Tryz.prog 19 #[.pointer none, .int .u64 X] w fun e w' => e = .returned (.int .i64 1) ∧ Below w.heap.size w w' := by
  go_enter Tryz.func19, Tryz.ntmps19
  go_wp2_with (first
    | (go_at_call 60
       (with_reducible refine (c_turn_nil _ _).mono ?_)
       rintro e w1 ⟨rfl, hb1⟩
       have HB1 := Lib.hid hb1
       clear hb1))
  go_ret
  exact ⟨rfl, HB1.out⟩
theorem c_Without0 (e : Int) (w : World) : Calls Tryz.prog 65 #[.int .u64 0, .int .i64 e] w fun e' w' => e' = .returned (.int .u64 0) ∧ w = w' := c_Without 0 e 0 w (andNot_zero _)
theorem c_Without6 (w : World) : Calls Tryz.prog 65 #[.int .u64 6, .int .i64 1] w fun e' w' => e' = .returned (.int .u64 4) ∧ w = w' := c_Without 6 1 4 w (by decide)
theorem c_Clear_nil (e : Int) (w : World) : Calls Tryz.prog 25 #[.pointer none, .int .i64 e] w fun e' w' => e' = .returned (.tuple #[.int .u64 0, .int .i64 1]) ∧ Below w.heap.size w w' := by
  have hX := heap_alloc_new w (.cells #[.pointer none] 131)
  have hb := ((Below.refl w.heap.size w).alloc (Nat.le_refl _) (.cells #[.pointer none] 131))
  have HB := Lib.hid hb
  clear hX hb
  go_enter Tryz.func25, Tryz.ntmps25
  go_wp2_with (first
    | (go_at_call 66
       (with_reducible refine (c_mask_nil _).mono ?_)
       rintro e w1 ⟨rfl, hb1⟩
       have HB1 := Lib.hid (HB.out.trans (hb1.mono HB.out.size))
       clear hb1)
    | (go_at_call 65
       (with_reducible refine (c_Without0 _ _).mono ?_)
       rintro e w2 ⟨rfl, rfl⟩)
    | (go_at_call 60
       (with_reducible refine (c_turn_nil _ _).mono ?_)
       rintro e w3 ⟨rfl, hb3⟩
       have HB3 := Lib.hid (HB1.out.trans (hb3.mono HB1.out.size))
       clear hb3))
  go_ret2
  exact ⟨rfl, HB3.out⟩
section
variable {w : World} {p g mb c : Nat} {d d' : Dsk}
theorem c_maskI (h : Dk w p g mb c d) (n q : Nat) (hl : latest d 6 2 = (n, q)) : Calls Tryz.prog 66 #[.agg #[.pointer (some ⟨p, 0, none⟩)]] w fun e w' => e = .returned (.int .u64 (q : Int)) ∧ Below w.heap.size w w' :=
  c_mask _ n q w (fun w' hb => by
    have h1 := c_Latest (h.bel hb) 6 2
    rw [hl] at h1
    exact h1)
theorem c_GetI (h : Dk w p g mb c d) (n q : Nat) (hl : latest d 6 2 = (n, q)) : Calls Tryz.prog 27 #[.pointer (some ⟨p, 0, none⟩)] w fun e w' => e = .returned (.int .u64 (q : Int)) ∧ Below w.heap.size w w' := by
  have hm := c_maskI h n q hl
  go_enter Tryz.func27, Tryz.ntmps27
  go_wp2_with (first
    | (go_at_call 66
       (with_reducible refine hm.mono ?_)
       rintro e w1 ⟨rfl, hb1⟩
       have HB1 := Lib.hid hb1
       clear hb1 hm))
  go_ret
  exact ⟨rfl, HB1.out⟩
theorem c_turn_new (h : Dk w p g mb c d) (ho : d.ops + 1 < 1000000000) (hb : d.broken = false) (n q : Nat) (X : Int) (x : Nat) (hX : X = (x : Int)) (hx : x < 18446744073709551616) (hne : q ≠ x) (hl : latest d 6 2 = (n, q)) (e : Nat) (hs : sput d 6 2 x = (d', e)) :
    Calls Tryz.prog 60 #[.agg #[.pointer (some ⟨p, 0, none⟩)], .int .u64 X] w fun e' w' => e' = .returned (.int .i64 (e : Int)) ∧ Dk w' p g mb c d' ∧ Fr (fun k => k = p ∨ k = g ∨ k = mb) w w' := by
  have hX' := heap_alloc_new w (.cells #[.pointer (some ⟨p, 0, none⟩)] 131)
  have hB := ((Below.refl w.heap.size w).alloc (Nat.le_refl _) (.cells #[.pointer (some ⟨p, 0, none⟩)] 131))
  have hq : ((q : Int) == X) = false := by simp [hX]; omega
  have Hq := Lib.hid hq
  have HX := Lib.hid hX
  have HK := Lib.hid (h.bel hB)
  have HB := Lib.hid hB
  have Hbr := Lib.hid hb
  have Hs := Lib.hid hs
  have X1 := Lib.hid hX'
  have d1 := Actlog.cell1 hX'
  have hm := fun w (h : Dk w p g mb c d) => c_maskI h n q hl
  clear h hs hb hB hX hq hX' hl
  go_enter Tryz.func60, Tryz.ntmps60
  go_upto_block 0 with (fail)
  generalize w.alloc (.cells #[.pointer (some ⟨p, 0, none⟩)] 131) = W1 at *
  go_wp2_with (first
    | (go_at_call 62
       (with_reducible refine (c_Made HK.out).mono ?_)
       rintro e w' ⟨rfl, rfl⟩)
    | (go_at_call 112
       (with_reducible refine (c_Broken HK.out).mono ?_)
       rintro e w' ⟨rfl, rfl⟩
       rw [Hbr.out])
    | (go_at_call 66
       (with_reducible refine (hm _ HK.out).mono ?_)
       rintro e w2 ⟨rfl, hb2⟩
       have HB2 := Lib.hid (HB.out.trans (hb2.mono HB.out.size))
       have HK2 := Lib.hid (HK.out.bel hb2)
       have d2 := Actlog.cell1 ((hb2.block _ (heap_lt X1.out)).trans X1.out)
       have hq := Hq.out
       clear hb2 hm d1)
    | (go_at_call 113
       (with_reducible refine (c_PutI HK2.out ho 6 2 _ x HX.out hx _ Hs.out).mono ?_)
       rintro e w3 ⟨rfl, hk3, f3⟩
       have HK3 := Lib.hid hk3
       have HF3 := Lib.hid ((Fr.of_bel (S := fun k => k = p ∨ k = g ∨ k = mb) HB2.out).trans f3 (fun _ _ e => e))
       clear hk3 f3))
  go_ret
  exact ⟨rfl, HK3.out, HF3.out⟩
theorem c_Put_new (h : Dk w p g mb c d) (ho : d.ops + 1 < 1000000000) (hb : d.broken = false) (n q : Nat) (X : Int) (x : Nat) (hX : X = (x : Int)) (hx : x < 18446744073709551616) (hne : q ≠ x) (hl : latest d 6 2 = (n, q)) (e : Nat) (hs : sput d 6 2 x = (d', e)) :
    Calls Tryz.prog 19 #[.pointer (some ⟨p, 0, none⟩), .int .u64 X] w fun e' w' => e' = .returned (.int .i64 (e : Int)) ∧ Dk w' p g mb c d' ∧ Fr (fun k => k = p ∨ k = g ∨ k = mb) w w' := by
  have ht := c_turn_new h ho hb n q X x hX hx hne hl e hs
  clear hX hs hl
  go_enter Tryz.func19, Tryz.ntmps19
  go_wp2_with (first
    | (go_at_call 60
       (with_reducible refine ht.mono ?_)
       rintro e w1 ⟨rfl, hk1, f1⟩
       have HK1 := Lib.hid hk1
       have HF1 := Lib.hid f1
       clear hk1 f1 ht))
  go_ret
  exact ⟨rfl, HK1.out, HF1.out⟩
theorem c_Clear6 (h : Dk w p g mb c d) (ho : d.ops + 1 < 1000000000) (hb : d.broken = false) (n : Nat) (hl : latest d 6 2 = (n, 6)) (hs : sput d 6 2 4 = (d', 0)) :
    Calls Tryz.prog 25 #[.pointer (some ⟨p, 0, none⟩), .int .i64 1] w fun e' w' => e' = .returned (.tuple #[.int .u64 4, .int .i64 0]) ∧ Dk w' p g mb c d' ∧ Fr (fun k => k = p ∨ k = g ∨ k = mb) w w' := by
  have hB := ((Below.refl w.heap.size w).alloc (Nat.le_refl _) (.cells #[.pointer (some ⟨p, 0, none⟩)] 131))
  have HB := Lib.hid hB
  have HK := Lib.hid (h.bel hB)
  have hm := fun w (h : Dk w p g mb c d) => c_maskI h n 6 hl
  have ht := fun w (h : Dk w p g mb c d) => c_turn_new h ho hb n 6 4 4 rfl (by omega) (by omega) hl 0 hs
  clear h hB hl hs hb
  go_enter Tryz.func25, Tryz.ntmps25
  go_wp2_with (first
    | (go_at_call 66
       (with_reducible refine (hm _ HK.out).mono ?_)
       rintro e w1 ⟨rfl, hb1⟩
       have HB1 := Lib.hid (HB.out.trans (hb1.mono HB.out.size))
       have HK1 := Lib.hid (HK.out.bel hb1)
       clear hb1 hm)
    | (go_at_call 65
       (with_reducible refine (c_Without6 _).mono ?_)
       rintro e w2 ⟨rfl, rfl⟩)
    | (go_at_call 60
       (with_reducible refine (ht _ HK1.out).mono ?_)
       rintro e w3 ⟨rfl, hk3, f3⟩
       have HK3 := Lib.hid hk3
       have HF3 := Lib.hid ((Fr.of_bel (S := fun k => k = p ∨ k = g ∨ k = mb) HB1.out).trans f3 (fun _ _ e => e))
       clear hk3 f3 ht))
  go_ret2
  exact ⟨rfl, HK3.out, HF3.out⟩
end
theorem l1 : latest (Dsk.new 12) 6 2 = (0, 0) := latest_new 12 6 2
theorem l2 : (sput (Dsk.new 12) 6 2 6).2 = 0 ∧ (sput (Dsk.new 12) 6 2 6).1.broken = false ∧ (sput (Dsk.new 12) 6 2 6).1.ops + 1 < 1000000000 ∧ latest (sput (Dsk.new 12) 6 2 6).1 6 2 = (1, 6) ∧ (sput (sput (Dsk.new 12) 6 2 6).1 6 2 4).2 = 0 ∧ latest (sput (sput (Dsk.new 12) 6 2 6).1 6 2 4).1 6 2 = (2, 4) := by decide +kernel
theorem c_lives (w : World) : Calls Tryz.prog 16 #[] w fun e w' => e = .returned (.bool true) ∧ Below w.heap.size w w' := by
  obtain ⟨t1, t2, t3, t4, t5, t6⟩ := l2
  obtain ⟨⟨d1, e1⟩, h1⟩ : ∃ r, sput (Dsk.new 12) 6 2 6 = r := ⟨_, rfl⟩
  rw [h1] at t1 t2 t3 t4 t5 t6
  simp only at t1 t2 t3
  obtain ⟨⟨d2, e2⟩, h2⟩ : ∃ r, sput d1 6 2 4 = r := ⟨_, rfl⟩
  rw [h2] at t5 t6
  simp only at t5 t6
  subst t1 t5
  have H1 := Lib.hid h1
  have H2 := Lib.hid t2
  have H3 := Lib.hid t3
  have H4 := Lib.hid t4
  have H5 := Lib.hid h2
  have H6 := Lib.hid t6
  clear h1 t2 t3 t4 h2 t6
  go_enter Tryz.func16, Tryz.ntmps16
  go_wp2_with (first
    | (go_at_call 17
       (with_reducible refine (c_dNewI' 12 12 rfl _ (by omega) (by omega)).mono ?_)
       rintro e w1 ⟨p, g, mb, rfl, hk, hge, hb1⟩
       have HB := Lib.hid hb1
       have HK := Lib.hid hk
       have HG := Lib.hid hge
       clear hb1 hk hge)
    | (go_at_call 19
       (with_reducible refine (c_Put_new HK.out (by decide) rfl 0 0 6 6 rfl (by omega) (by omega) l1 0 H1.out).mono ?_)
       rintro e w2 ⟨rfl, hk2, f2⟩
       have HB := Lib.hid (Dk.fresh HG.out HB.out f2)
       have HK2 := Lib.hid hk2
       clear hk2 f2 H1 HK)
    | (go_at_call 25
       (with_reducible refine (c_Clear6 HK2.out H3.out H2.out 1 H4.out H5.out).mono ?_)
       rintro e w3 ⟨rfl, hk3, f3⟩
       have HB := Lib.hid (Dk.fresh HG.out HB.out f3)
       have HK3 := Lib.hid hk3
       clear hk3 f3 HK2)
    | (go_at_call 27
       (with_reducible refine (c_GetI HK3.out 2 4 H6.out).mono ?_)
       rintro e w4 ⟨rfl, hb4⟩
       have HB4 := Lib.hid (HB.out.trans (hb4.mono HB.out.size))
       clear hb4))
  go_ret
  exact ⟨rfl, HB4.out⟩
end Go.Proofs.YtaldlapnhhhclaaGreat.Dirty
/- Exact contracts of the packages super, actlog, dirty: what each call does to a disk. Conditions: at most 10^9 operations. -/
namespace Go.Proofs.YtaldlapnhhhclaaGreat.Super
open Go.RowKit Tw Disk Slots
set_option maxHeartbeats 4000000
set_option maxRecDepth 100000
theorem wrap_u32_nat (q : Nat) : IntKind.u32.wrap (q : Int) = ((q % 4294967296 : Nat) : Int) := by
  simp [IntKind.wrap, IntKind.bits, IntKind.signed]
theorem c_wordE (n q : Nat) (w : World) : Calls Tryz.prog 133 #[.int .u32 (n : Int), .int .u64 (q : Int)] w fun e w' => e = .returned (.int .u32 ((q % 4294967296 : Nat) : Int)) ∧ w = w' := by
  have hw := wrap_u32_nat q
  go_enter Tryz.func133, Tryz.ntmps133
  go_wp2
  go_ret
  refine ⟨?_, rfl⟩
  first
    | rfl
    | (congr 2 <;> omega)
section
variable {w : World} {p g mb c : Nat} {d d' : Dsk}
theorem c_BootE (h : Dk w p g mb c d) : Calls Tryz.prog 76 #[.pointer (some ⟨p, 0, none⟩)] w fun e w' => e = .returned (.int .u32 (boot d : Int)) ∧ Below w.heap.size w w' := by
  have hl := c_Latest h 0 2
  have hc := fun w => c_wordE (latest d 0 2).1 (latest d 0 2).2 w
  unfold boot
  generalize latest d 0 2 = r at *
  clear h
  go_enter Tryz.func76, Tryz.ntmps76
  go_wp2_with (first
    | (go_at_call 121
       (with_reducible refine hl.mono ?_)
       rintro e w2 ⟨rfl, hb2⟩
       have HB2 := Lib.hid hb2
       clear hb2 hl)
    | (go_at_call 133
       (with_reducible refine (hc _).mono ?_)
       rintro e w3 ⟨rfl, rfl⟩
       clear hc))
  go_ret
  exact ⟨rfl, HB2.out⟩
theorem c_NextE (h : Dk w p g mb c d) (ho : d.ops + 1 < 1000000000) :
    Calls Tryz.prog 125 #[.pointer (some ⟨p, 0, none⟩)] w fun e' w' => e' = .returned (.tuple #[.int .u32 ((snext d).2.1 : Int), .int .i64 ((snext d).2.2 : Int)]) ∧ Dk w' p g mb c (snext d).1 ∧ Fr (fun k => k = p ∨ k = g ∨ k = mb) w w' := by
  have HK := Lib.hid h
  have hbl := boot_lt d
  obtain ⟨B, hB⟩ : ∃ B, boot d = B := ⟨_, rfl⟩
  have hboot : ∀ w, Dk w p g mb c d → Calls Tryz.prog 76 #[.pointer (some ⟨p, 0, none⟩)] w fun e w' => e = .returned (.int .u32 (B : Int)) ∧ Below w.heap.size w w' := fun w h => by
    have := c_BootE h
    rw [hB] at this
    exact this
  unfold snext
  rw [hB] at hbl ⊢
  obtain ⟨⟨d1, e1⟩, hs⟩ : ∃ r, sput d 0 2 (B + 1) = r := ⟨_, rfl⟩
  rw [hs]
  have Hs := Lib.hid hs
  clear h hs hB
  by_cases hm : B = 4294967295
  · subst hm
    rw [if_pos rfl]
    go_enter Tryz.func125, Tryz.ntmps125
    go_wp2_with (first
    | (go_at_call 76
       (with_reducible refine (hboot _ HK.out).mono ?_)
       rintro e w2 ⟨rfl, hb2⟩
       have HF2 := Lib.hid (Fr.of_bel (S := fun k => k = p ∨ k = g ∨ k = mb) hb2)
       have HK2 := Lib.hid (HK.out.bel hb2)
       clear hb2 hboot)
    | (go_at_call 113
       (with_reducible refine (c_PutI HK2.out ho 0 2 _ (B + 1) (by omega) (by omega) _ Hs.out).mono ?_)
       rintro e w3 ⟨rfl, hk3, f3⟩
       have HF3 := Lib.hid (HF2.out.trans f3 (fun _ _ e => e))
       have HK3 := Lib.hid hk3
       clear hk3 f3)
    )
    go_ret2
    exact ⟨rfl, HK2.out, HF2.out⟩
  · rw [if_neg hm]
    by_cases he : e1 = 0
    · subst he
      rw [if_pos rfl]
      go_enter Tryz.func125, Tryz.ntmps125
      go_wp2_with (first
      | (go_at_call 76
         (with_reducible refine (hboot _ HK.out).mono ?_)
         rintro e w2 ⟨rfl, hb2⟩
         have HF2 := Lib.hid (Fr.of_bel (S := fun k => k = p ∨ k = g ∨ k = mb) hb2)
         have HK2 := Lib.hid (HK.out.bel hb2)
         clear hb2 hboot)
      | (go_at_call 113
         (with_reducible refine (c_PutI HK2.out ho 0 2 _ (B + 1) (by omega) (by omega) _ Hs.out).mono ?_)
         rintro e w3 ⟨rfl, hk3, f3⟩
         have HF3 := Lib.hid (HF2.out.trans f3 (fun _ _ e => e))
         have HK3 := Lib.hid hk3
         clear hk3 f3)
      )
      go_ret2
      exact ⟨rfl, HK3.out, HF3.out⟩
    · simp only
      rw [if_neg he]
      have hne : ((e1 : Int) != 0) = true := by simp; omega
      clear he
      go_enter Tryz.func125, Tryz.ntmps125
      go_wp2_with (first
      | (go_at_call 76
         (with_reducible refine (hboot _ HK.out).mono ?_)
         rintro e w2 ⟨rfl, hb2⟩
         have HF2 := Lib.hid (Fr.of_bel (S := fun k => k = p ∨ k = g ∨ k = mb) hb2)
         have HK2 := Lib.hid (HK.out.bel hb2)
         clear hb2 hboot)
      | (go_at_call 113
         (with_reducible refine (c_PutI HK2.out ho 0 2 _ (B + 1) (by omega) (by omega) _ Hs.out).mono ?_)
         rintro e w3 ⟨rfl, hk3, f3⟩
         have HF3 := Lib.hid (HF2.out.trans f3 (fun _ _ e => e))
         have HK3 := Lib.hid hk3
         clear hk3 f3)
      )
      go_ret2
      exact ⟨rfl, HK3.out, HF3.out⟩
end
end Go.Proofs.YtaldlapnhhhclaaGreat.Super
namespace Go.Proofs.YtaldlapnhhhclaaGreat.Actlog
open Go.RowKit Tw Disk Slots
set_option maxHeartbeats 4000000
set_option maxRecDepth 100000
section
variable {w : World} {p g mb c : Nat} {d d' : Dsk}
theorem c_GetE (h : Dk w p g mb c d) : Calls Tryz.prog 77 #[.pointer (some ⟨p, 0, none⟩)] w fun e w' => e = .returned (.int .u64 ((latest d 2 4).2 : Nat)) ∧ Below w.heap.size w w' := c_GetI h _ _ rfl
theorem c_Put_down (h : Dk w p g mb c d) (hb : d.broken = true) (X : Int) :
    Calls Tryz.prog 80 #[.pointer (some ⟨p, 0, none⟩), .int .u64 X] w fun e w' => e = .returned (.int .i64 3) ∧ Below w.heap.size w w' := by
  obtain ⟨W2, hW2, h1, h2, hB⟩ := two_boxes w (.cells #[.pointer (some ⟨p, 0, none⟩)] 29) (.cells #[.int .u64 X] 22)
  have HB := Lib.hid hB
  have HK := Lib.hid (h.bel hB)
  have Hbr := Lib.hid hb
  have d1 := cell1 h1
  have d2 := cell1 h2
  clear h hb hB h1 h2
  go_enter Tryz.func80, Tryz.ntmps80
  go_upto_block 0 with (fail)
  rw [← hW2]
  clear hW2
  go_wp2_with (first
    | (go_at_call 62
       (with_reducible refine (c_Made HK.out).mono ?_)
       rintro e w' ⟨rfl, rfl⟩)
    | (go_at_call 112
       (with_reducible refine (c_Broken HK.out).mono ?_)
       rintro e w' ⟨rfl, rfl⟩
       rw [Hbr.out]))
  go_ret
  exact ⟨rfl, HB.out⟩
theorem c_PutE (h : Dk w p g mb c d) (ho : d.ops + 1 < 1000000000) (X : Int) (x : Nat) (hX : X = (x : Int)) (hx : x < 18446744073709551616) :
    Calls Tryz.prog 80 #[.pointer (some ⟨p, 0, none⟩), .int .u64 X] w fun e' w' => e' = .returned (.int .i64 ((aput d x).2 : Int)) ∧ Dk w' p g mb c (aput d x).1 ∧ Fr (fun k => k = p ∨ k = g ∨ k = mb) w w' := by
  unfold aput rput
  by_cases hb : d.broken = true
  · rw [if_pos hb]
    exact (c_Put_down h hb X).mono fun e w' ⟨h1, h2⟩ => ⟨h1, h.bel h2, Fr.of_bel h2⟩
  · rw [if_neg hb]
    have hb' : d.broken = false := by simpa using hb
    by_cases hq : (latest d 2 4).2 = x
    · rw [if_pos hq]
      exact (c_Put_same h hb' _ (latest d 2 4).2 X (by rw [hX, hq]) rfl).mono fun e w' ⟨h1, h2⟩ => ⟨h1, h.bel h2, Fr.of_bel h2⟩
    · rw [if_neg hq]
      exact c_Put_new h ho hb' _ (latest d 2 4).2 X x hX hx hq rfl _ rfl
end
end Go.Proofs.YtaldlapnhhhclaaGreat.Actlog
namespace Go.Proofs.YtaldlapnhhhclaaGreat.Dirty
open Go.RowKit Tw Disk Slots
set_option maxHeartbeats 4000000
set_option maxRecDepth 100000
section
variable {w : World} {p g mb c : Nat} {d d' : Dsk}
theorem c_GetE (h : Dk w p g mb c d) : Calls Tryz.prog 27 #[.pointer (some ⟨p, 0, none⟩)] w fun e w' => e = .returned (.int .u64 ((latest d 6 2).2 : Nat)) ∧ Below w.heap.size w w' := c_GetI h _ _ rfl
theorem c_turn_down (h : Dk w p g mb c d) (hb : d.broken = true) (X : Int) :
    Calls Tryz.prog 60 #[.agg #[.pointer (some ⟨p, 0, none⟩)], .int .u64 X] w fun e w' => e = .returned (.int .i64 3) ∧ Below w.heap.size w w' := by
  have hX' := heap_alloc_new w (.cells #[.pointer (some ⟨p, 0, none⟩)] 131)
  have hB := ((Below.refl w.heap.size w).alloc (Nat.le_refl _) (.cells #[.pointer (some ⟨p, 0, none⟩)] 131))
  have HK := Lib.hid (h.bel hB)
  have HB := Lib.hid hB
  have Hbr := Lib.hid hb
  have d1 := Actlog.cell1 hX'
  clear h hb hB hX'
  go_enter Tryz.func60, Tryz.ntmps60
  go_upto_block 0 with (fail)
  generalize w.alloc (.cells #[.pointer (some ⟨p, 0, none⟩)] 131) = W1 at *
  go_wp2_with (first
    | (go_at_call 62
       (with_reducible refine (c_Made HK.out).mono ?_)
       rintro e w' ⟨rfl, rfl⟩)
    | (go_at_call 112
       (with_reducible refine (c_Broken HK.out).mono ?_)
       rintro e w' ⟨rfl, rfl⟩
       rw [Hbr.out]))
  go_ret
  exact ⟨rfl, HB.out⟩
theorem c_turn_same (h : Dk w p g mb c d) (hb : d.broken = false) (n q : Nat) (X : Int) (hX : X = (q : Int)) (hl : latest d 6 2 = (n, q)) :
    Calls Tryz.prog 60 #[.agg #[.pointer (some ⟨p, 0, none⟩)], .int .u64 X] w fun e w' => e = .returned (.int .i64 0) ∧ Below w.heap.size w w' := by
  have hX' := heap_alloc_new w (.cells #[.pointer (some ⟨p, 0, none⟩)] 131)
  have hB := ((Below.refl w.heap.size w).alloc (Nat.le_refl _) (.cells #[.pointer (some ⟨p, 0, none⟩)] 131))
  have hq : ((q : Int) == X) = true := by simp [hX]
  have Hq := Lib.hid hq
  have HK := Lib.hid (h.bel hB)
  have HB := Lib.hid hB
  have Hbr := Lib.hid hb
  have X1 := Lib.hid hX'
  have d1 := Actlog.cell1 hX'
  have hm := fun w (h : Dk w p g mb c d) => c_maskI h n q hl
  clear h hb hB hX hq hX' hl
  go_enter Tryz.func60, Tryz.ntmps60
  go_upto_block 0 with (fail)
  generalize w.alloc (.cells #[.pointer (some ⟨p, 0, none⟩)] 131) = W1 at *
  go_wp2_with (first
    | (go_at_call 62
       (with_reducible refine (c_Made HK.out).mono ?_)
       rintro e w' ⟨rfl, rfl⟩)
    | (go_at_call 112
       (with_reducible refine (c_Broken HK.out).mono ?_)
       rintro e w' ⟨rfl, rfl⟩
       rw [Hbr.out])
    | (go_at_call 66
       (with_reducible refine (hm _ HK.out).mono ?_)
       rintro e w2 ⟨rfl, hb2⟩
       have HB2 := Lib.hid (HB.out.trans (hb2.mono HB.out.size))
       have d2 := Actlog.cell1 ((hb2.block _ (heap_lt X1.out)).trans X1.out)
       have hq := Hq.out
       clear hb2 hm d1))
  go_ret
  exact ⟨rfl, HB2.out⟩
theorem c_turnE (h : Dk w p g mb c d) (ho : d.ops + 1 < 1000000000) (X : Int) (x : Nat) (hX : X = (x : Int)) (hx : x < 18446744073709551616) :
    Calls Tryz.prog 60 #[.agg #[.pointer (some ⟨p, 0, none⟩)], .int .u64 X] w fun e' w' => e' = .returned (.int .i64 ((dput d x).2 : Int)) ∧ Dk w' p g mb c (dput d x).1 ∧ Fr (fun k => k = p ∨ k = g ∨ k = mb) w w' := by
  unfold dput rput
  by_cases hb : d.broken = true
  · rw [if_pos hb]
    exact (c_turn_down h hb X).mono fun e w' ⟨h1, h2⟩ => ⟨h1, h.bel h2, Fr.of_bel h2⟩
  · rw [if_neg hb]
    have hb' : d.broken = false := by simpa using hb
    by_cases hq : (latest d 6 2).2 = x
    · rw [if_pos hq]
      exact (c_turn_same h hb' _ (latest d 6 2).2 X (by rw [hX, hq]) rfl).mono fun e w' ⟨h1, h2⟩ => ⟨h1, h.bel h2, Fr.of_bel h2⟩
    · rw [if_neg hq]
      exact c_turn_new h ho hb' _ (latest d 6 2).2 X x hX hx hq rfl _ rfl
theorem c_PutE (h : Dk w p g mb c d) (ho : d.ops + 1 < 1000000000) (X : Int) (x : Nat) (hX : X = (x : Int)) (hx : x < 18446744073709551616) :
    Calls Tryz.prog 19 #[.pointer (some ⟨p, 0, none⟩), .int .u64 X] w fun e' w' => e' = .returned (.int .i64 ((dput d x).2 : Int)) ∧ Dk w' p g mb c (dput d x).1 ∧ Fr (fun k => k = p ∨ k = g ∨ k = mb) w w' := by
  have ht := c_turnE h ho X x hX hx
  generalize dput d x = r at *
  clear hX
  go_enter Tryz.func19, Tryz.ntmps19
  go_wp2_with (first
    | (go_at_call 60
       (with_reducible refine ht.mono ?_)
       rintro e w1 ⟨rfl, hk1, f1⟩
       have HK1 := Lib.hid hk1
       have HF1 := Lib.hid f1
       clear hk1 f1 ht))
  go_ret
  exact ⟨rfl, HK1.out, HF1.out⟩
theorem c_WithoutE (S : Nat) (hS : S < 18446744073709551616) (e : Int) (w : World) : Calls Tryz.prog 65 #[.int .u64 (S : Int), .int .i64 e] w fun e' w' => e' = .returned (.int .u64 ((Bt.without S e : Nat) : Int)) ∧ w = w' :=
  c_Without S e _ w (Bt.bits_without S hS e)
theorem c_ClearE (h : Dk w p g mb c d) (ho : d.ops + 1 < 1000000000) (x : Int) :
    Calls Tryz.prog 25 #[.pointer (some ⟨p, 0, none⟩), .int .i64 x] w fun e' w' => e' = .returned (.tuple #[.int .u64 ((dclear d x).2.1 : Int), .int .i64 ((dclear d x).2.2 : Int)]) ∧ Dk w' p g mb c (dclear d x).1 ∧ Fr (fun k => k = p ∨ k = g ∨ k = mb) w w' := by
  have hB := ((Below.refl w.heap.size w).alloc (Nat.le_refl _) (.cells #[.pointer (some ⟨p, 0, none⟩)] 131))
  have HB := Lib.hid hB
  have HK := Lib.hid (h.bel hB)
  have hll := (latest_lt d 6 2).2
  unfold dclear
  obtain ⟨⟨n, q⟩, hl⟩ : ∃ r, latest d 6 2 = r := ⟨_, rfl⟩
  have hm := fun w (h : Dk w p g mb c d) => c_maskI h n q hl
  rw [hl] at hll ⊢
  simp only at hll ⊢
  have hwo := fun w => c_WithoutE q hll x w
  have hlt := Bt.without_lt hll x
  generalize Bt.without q x = L at *
  have ht := fun w (h : Dk w p g mb c d) => c_turnE h ho L L rfl hlt
  obtain ⟨⟨d1, e1⟩, hs⟩ : ∃ r, dput d L = r := ⟨_, rfl⟩
  rw [hs] at ht ⊢
  clear h hB hl hs
  by_cases he : e1 = 0
  · subst he
    rw [if_pos rfl]
    go_enter Tryz.func25, Tryz.ntmps25
    go_wp2_with (first
    | (go_at_call 66
       (with_reducible refine (hm _ HK.out).mono ?_)
       rintro e w1 ⟨rfl, hb1⟩
       have HB1 := Lib.hid (HB.out.trans (hb1.mono HB.out.size))
       have HK1 := Lib.hid (HK.out.bel hb1)
       clear hb1 hm)
    | (go_at_call 65
       (with_reducible refine (hwo _).mono ?_)
       rintro e w2 ⟨rfl, rfl⟩
       clear hwo)
    | (go_at_call 60
       (with_reducible refine (ht _ HK1.out).mono ?_)
       rintro e w3 ⟨rfl, hk3, f3⟩
       have HK3 := Lib.hid hk3
       have HF3 := Lib.hid ((Fr.of_bel (S := fun k => k = p ∨ k = g ∨ k = mb) HB1.out).trans f3 (fun _ _ e => e))
       clear hk3 f3 ht)
    )
    go_ret2
    exact ⟨rfl, HK3.out, HF3.out⟩
  · simp only
    rw [if_neg he]
    have hne : ((e1 : Int) != 0) = true := by simp; omega
    go_enter Tryz.func25, Tryz.ntmps25
    go_wp2_with (first
    | (go_at_call 66
       (with_reducible refine (hm _ HK.out).mono ?_)
       rintro e w1 ⟨rfl, hb1⟩
       have HB1 := Lib.hid (HB.out.trans (hb1.mono HB.out.size))
       have HK1 := Lib.hid (HK.out.bel hb1)
       clear hb1 hm)
    | (go_at_call 65
       (with_reducible refine (hwo _).mono ?_)
       rintro e w2 ⟨rfl, rfl⟩
       clear hwo)
    | (go_at_call 60
       (with_reducible refine (ht _ HK1.out).mono ?_)
       rintro e w3 ⟨rfl, hk3, f3⟩
       have HK3 := Lib.hid hk3
       have HF3 := Lib.hid ((Fr.of_bel (S := fun k => k = p ∨ k = g ∨ k = mb) HB1.out).trans f3 (fun _ _ e => e))
       clear hk3 f3 ht)
    )
    go_ret2
    exact ⟨rfl, HK3.out, HF3.out⟩
end
end Go.Proofs.YtaldlapnhhhclaaGreat.Dirty
