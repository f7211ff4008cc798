/- Contracts of the package actlog; the law ActlogNone, walked. Conditions: none. -/
import Derived.Test.YtdpggcpbgfancaaSuper
namespace Go.Proofs.Ytdpggcpbgfancaa.Actlog
open Go.RowKit Tw Disk Slots
set_option maxHeartbeats 4000000
set_option maxRecDepth 100000
theorem c_here (w : World) : Calls Try.prog 113 #[] w fun e w' => e = .returned (.agg #[.int .i64 2, .int .i64 4]) ∧ Below w.heap.size w w' := by
  have HB := Lib.hid ((Below.refl w.heap.size w).alloc (Nat.le_refl _) (.cells #[.int .i64 2, .int .i64 4] 153))
  go_enter Try.func113, Try.ntmps113
  go_wp2_with fail
  refine bodyPost_ret (results_cell_row rfl _ _ w.heap.size _ _ (0, 0) _ rfl (heap_alloc_new w _) Try.underlying153 rfl (by kernel_rfl)) rfl ?_
  exact ⟨rfl, HB.out⟩
theorem c_of (u : Value) (n q : Nat) (w : World) (hl : ∀ w', Below w.heap.size w w' → Calls Try.prog 43 #[u, .int .i64 2, .int .i64 4] w' fun e w'' => e = .returned (.tuple #[.int .u32 (n : Int), .int .u64 (q : Int)]) ∧ Below w'.heap.size w' w'') :
    Calls Try.prog 114 #[.agg #[.int .i64 2, .int .i64 4], u] w fun e w' => e = .returned (.tuple #[.int .u32 (n : Int), .int .u64 (q : Int)]) ∧ Below w.heap.size w w' := by
  have hb := ((Below.refl w.heap.size w).alloc (Nat.le_refl _) (.cells #[.int .i64 2, .int .i64 4] 153))
  have HB := Lib.hid hb
  have hl2 := hl _ hb
  clear hl hb
  go_enter Try.func114, Try.ntmps114
  go_wp2_with (first
    | (go_at_call 43
       (with_reducible refine hl2.mono ?_)
       rintro e w2 ⟨rfl, hb2⟩
       have HB2 := Lib.hid (HB.out.trans (hb2.mono HB.out.size))
       clear hb2 hl2))
  go_ret2
  exact ⟨rfl, HB2.out⟩
theorem c_Get_of (u : Value) (n q : Nat) (w : World) (hl : ∀ w', Below w.heap.size w w' → Calls Try.prog 43 #[u, .int .i64 2, .int .i64 4] w' fun e w'' => e = .returned (.tuple #[.int .u32 (n : Int), .int .u64 (q : Int)]) ∧ Below w'.heap.size w' w'') :
    Calls Try.prog 52 #[u] w fun e w' => e = .returned (.int .u64 (q : Int)) ∧ Below w.heap.size w w' := by
  go_enter Try.func52, Try.ntmps52
  go_wp2_with (first
    | (go_at_call 113
       (with_reducible refine (c_here _).mono ?_)
       rintro e w1 ⟨rfl, hb1⟩
       have HB1 := Lib.hid hb1
       clear hb1)
    | (go_at_call 114
       (with_reducible refine (c_of _ n q _ (fun w' hb' => hl w' (HB1.out.trans (hb'.mono HB1.out.size)))).mono ?_)
       rintro e w2 ⟨rfl, hb2⟩
       have HB2 := Lib.hid (HB1.out.trans (hb2.mono HB1.out.size))
       clear hb2 hl))
  go_ret
  exact ⟨rfl, HB2.out⟩
theorem c_Writes_of (u : Value) (n q : Nat) (w : World) (hl : ∀ w', Below w.heap.size w w' → Calls Try.prog 43 #[u, .int .i64 2, .int .i64 4] w' fun e w'' => e = .returned (.tuple #[.int .u32 (n : Int), .int .u64 (q : Int)]) ∧ Below w'.heap.size w' w'') :
    Calls Try.prog 53 #[u] w fun e w' => e = .returned (.int .u32 (n : Int)) ∧ Below w.heap.size w w' := by
  go_enter Try.func53, Try.ntmps53
  go_wp2_with (first
    | (go_at_call 113
       (with_reducible refine (c_here _).mono ?_)
       rintro e w1 ⟨rfl, hb1⟩
       have HB1 := Lib.hid hb1
       clear hb1)
    | (go_at_call 114
       (with_reducible refine (c_of _ n q _ (fun w' hb' => hl w' (HB1.out.trans (hb'.mono HB1.out.size)))).mono ?_)
       rintro e w2 ⟨rfl, hb2⟩
       have HB2 := Lib.hid (HB1.out.trans (hb2.mono HB1.out.size))
       clear hb2 hl))
  go_ret
  exact ⟨rfl, HB2.out⟩
theorem c_Get_nil (w : World) : Calls Try.prog 52 #[.pointer none] w fun e w' => e = .returned (.int .u64 0) ∧ Below w.heap.size w w' :=
  c_Get_of _ 0 0 w (fun w' _ => c_Latest_nil 2 4 w')
theorem c_Writes_nil (w : World) : Calls Try.prog 53 #[.pointer none] w fun e w' => e = .returned (.int .u32 0) ∧ Below w.heap.size w w' :=
  c_Writes_of _ 0 0 w (fun w' _ => c_Latest_nil 2 4 w')
theorem c_Put_nil (X : Int) (w : World) : Calls Try.prog 51 #[.pointer none, .int .u64 X] w fun e w' => e = .returned (.int .i64 1) ∧ Below w.heap.size w w' := by
  have HB := Lib.hid (((Below.refl w.heap.size w).alloc (Nat.le_refl _) (.cells #[.pointer none] 59)).alloc (by simp) (.cells #[.int .u64 X] 40))
  go_enter Try.func51, Try.ntmps51
  go_wp2_with (first
    | (go_at_call 104
       (with_reducible refine (c_Made_nil _).mono ?_)
       rintro e w' ⟨rfl, rfl⟩))
  go_ret
  exact ⟨rfl, HB.out⟩
section
variable {w : World} {p g mb c : Nat} {d d' : Dsk}
theorem c_GetI (h : Dk w p g mb c d) (n q : Nat) (hl : latest d 2 4 = (n, q)) : Calls Try.prog 52 #[.pointer (some ⟨p, 0, none⟩)] w fun e w' => e = .returned (.int .u64 (q : Int)) ∧ Below w.heap.size w w' :=
  c_Get_of _ n q w (fun w' hb => by
    have h1 := c_Latest (h.bel hb) 2 4
    rw [hl] at h1
    exact h1)
theorem c_WritesI (h : Dk w p g mb c d) (n q : Nat) (hl : latest d 2 4 = (n, q)) : Calls Try.prog 53 #[.pointer (some ⟨p, 0, none⟩)] w fun e w' => e = .returned (.int .u32 (n : Int)) ∧ Below w.heap.size w w' :=
  c_Writes_of _ n q w (fun w' hb => by
    have h1 := c_Latest (h.bel hb) 2 4
    rw [hl] at h1
    exact h1)
theorem c_put (h : Dk w p g mb c d) (ho : d.ops + 1 < 1000000000) (X : Int) (x : Nat) (hX : X = (x : Int)) (hx : x < 18446744073709551616) (e : Nat) (hs : sput d 2 4 x = (d', e)) :
    Calls Try.prog 112 #[.agg #[.int .i64 2, .int .i64 4], .pointer (some ⟨p, 0, none⟩), .int .u64 X] w fun e' w' => e' = .returned (.int .i64 (e : Int)) ∧ Dk w' p g mb c d' ∧ Fr (fun k => k = p ∨ k = g ∨ k = mb) w w' := by
  subst hX
  have hb := ((Below.refl w.heap.size w).alloc (Nat.le_refl _) (.cells #[.int .i64 2, .int .i64 4] 153))
  have HB := Lib.hid hb
  have HK := Lib.hid (h.bel hb)
  have Hs := Lib.hid hs
  clear h hb hs
  go_enter Try.func112, Try.ntmps112
  go_wp2_with (first
    | (go_at_call 44
       (with_reducible refine (c_PutI HK.out ho 2 4 _ x rfl hx _ Hs.out).mono ?_)
       rintro e w2 ⟨rfl, hk2, f2⟩
       have HK2 := Lib.hid hk2
       have HF2 := Lib.hid ((Fr.of_bel (S := fun k => k = p ∨ k = g ∨ k = mb) HB.out).trans f2 (fun _ _ e => e))
       clear hk2 f2))
  go_ret
  exact ⟨rfl, HK2.out, HF2.out⟩
theorem two_boxes (w : World) (o1 o2 : Obj) : ∃ w2, w2 = (w.alloc o1).alloc o2 ∧ w2.heap[w.heap.size]? = some o1 ∧ w2.heap[w.heap.size + 1]? = some o2 ∧ Below w.heap.size w w2 := by
  have h1 := heap_alloc_new w o1
  have h2 := heap_alloc_new (w.alloc o1) o2
  have b2 := Below.heap_alloc (w.alloc o1) o2 _ (heap_lt h1)
  rw [World.size_alloc] at h2
  exact ⟨_, rfl, b2.trans h1, h2, (((Below.refl _ _).alloc (Nat.le_refl _) _).alloc (by simp) _)⟩
theorem cell1 {w : World} {g : Nat} {t : TypeId} {a : Value} (h : w.heap[g]? = some (.cells #[a] t (0, 0))) : w.cell? ⟨g, 0, none⟩ = some a := by simp [World.cell?, h]
theorem c_same {g1 g2 : Nat} {t1 t2 : TypeId} (h : Dk w p g mb c d) (n q : Nat) (X : Int) (r : Bool) (hr : ((q : Int) == X) = r) (hl : latest d 2 4 = (n, q)) (h1 : w.heap[g1]? = some (.cells #[.pointer (some ⟨p, 0, none⟩)] t1 (0, 0))) (h2 : w.heap[g2]? = some (.cells #[.int .u64 X] t2 (0, 0))) :
    Calls Try.prog 111 #[.pointer (some ⟨g1, 0, none⟩), .pointer (some ⟨g2, 0, none⟩)] w fun e w' => e = .returned (.bool r) ∧ Below w.heap.size w w' := by
  have HK := Lib.hid h
  have Hl := Lib.hid hl
  have X1 := Lib.hid h1
  have X2 := Lib.hid h2
  clear h hl h1 h2
  go_enter Try.func111, Try.ntmps111
  go_wp2_with fail
  refine wp_region_phi (by kernel_rfl) 5 none (fun _ => false) (fun i_ v wz => match i_ with
    | 0 => v = .pointer (some ⟨p, 0, none⟩)
    | 1 => v = .int .u64 (q : Int)
    | 2 => v = .int .u64 X
    | 3 => v = .bool r
    | 4 => v = .bool r
    | _ => True) (by kernel_rfl) ?_ ?_ ?_
  · (repeat' (first | exact allLt_zero | refine allLt_succ ?_ ?_))
    · exact fun _ _ _ h _ => h
    · exact fun _ _ _ h _ => h
    · exact fun _ _ _ h _ => h
    · exact fun _ _ _ h _ => h
    · exact fun _ _ _ h _ => h
  · (repeat' (first | exact allLt_zero | refine allLt_succ ?_ ?_))
    · intro a w' hf he
      have k0 : a.tmps.getD 0 undef = .pointer (some ⟨g1, 0, none⟩) := hf.var (by kernel_rfl) rfl
      rw [show kindRow _ _ = none from by kernel_rfl] at hf
      have dd := cell1 ((hf.bel.block _ (heap_lt X1.out)).trans X1.out)
      refine wpOp_step rfl (fun K hK => ?_)
      go_simp
      exact hK _ _ ⟨_, rfl, rfl, World.grownBy.refl _ _⟩
    · intro a w' hf he
      have f0 : a.tmps.getD 3 undef = .pointer (some ⟨p, 0, none⟩) := he 0 (by kernel_rfl)
      rw [show kindRow _ _ = none from by kernel_rfl] at hf
      refine wpOp_step rfl (fun K hK => ?_)
      go_simp
      refine (c_GetI (HK.out.bel hf.bel) n q Hl.out).mono ?_
      rintro e w2 ⟨rfl, hb2⟩
      exact hK _ _ ⟨_, rfl, rfl, grown_bel hb2⟩
    · intro a w' hf he
      have k1 : a.tmps.getD 1 undef = .pointer (some ⟨g2, 0, none⟩) := hf.var (by kernel_rfl) rfl
      rw [show kindRow _ _ = none from by kernel_rfl] at hf
      have dd := cell1 ((hf.bel.block _ (heap_lt X2.out)).trans X2.out)
      refine wpOp_step rfl (fun K hK => ?_)
      go_simp
      exact hK _ _ ⟨_, rfl, rfl, World.grownBy.refl _ _⟩
    · intro a w' hf he
      have f1 : a.tmps.getD 4 undef = .int .u64 (q : Int) := he 1 (by kernel_rfl)
      have f2 : a.tmps.getD 5 undef = .int .u64 X := he 2 (by kernel_rfl)
      refine wpOp_step rfl (fun K hK => ?_)
      go_simp
      exact hK _ _ ⟨_, rfl, rfl, World.grownBy.refl _ _⟩
    · intro a w' hf he
      have f3 : a.tmps.getD 6 undef = .bool r := he 3 (by kernel_rfl)
      refine wpOp_step rfl (fun K hK => ?_)
      go_simp
      exact hK _ _ ⟨_, rfl, rfl, World.grownBy.refl _ _⟩
  · intro a w' hf he
    obtain ⟨u3, f0⟩ : ∃ u, a.tmps.getD 3 undef = u := ⟨_, rfl⟩
    obtain ⟨u4, f1⟩ : ∃ u, a.tmps.getD 4 undef = u := ⟨_, rfl⟩
    obtain ⟨u5, f2⟩ : ∃ u, a.tmps.getD 5 undef = u := ⟨_, rfl⟩
    obtain ⟨u6, f3⟩ : ∃ u, a.tmps.getD 6 undef = u := ⟨_, rfl⟩
    have f4 : a.tmps.getD 2 undef = .bool r := he 4 (by decide)
    have hlit := hf.lit ((3, u3) :: (4, u4) :: (5, u5) :: (6, u6) :: (2, .bool r) :: []) (by kernel_rfl) ⟨f0, f1, f2, f3, f4, trivial⟩
    have hB := hf.bel
    clear he hf f0 f1 f2 f3 f4 
    subst hlit
    simp only [putAll_nil, putAll_cons, Act.put, List.setIfInBounds_toArray, List.set_cons_zero, List.set_cons_succ]
    simp only [List.drop_succ_cons, List.drop_zero]
    go_wp2_with fail
    go_ret
    exact ⟨rfl, hB⟩
theorem c_Put_same (h : Dk w p g mb c d) (hb : d.broken = false) (n q : Nat) (X : Int) (hX : X = (q : Int)) (hl : latest d 2 4 = (n, q)) :
    Calls Try.prog 51 #[.pointer (some ⟨p, 0, none⟩), .int .u64 X] w fun e w' => e = .returned (.int .i64 0) ∧ Below w.heap.size w w' := by
  have hq : ((q : Int) == X) = true := by simp [hX]
  obtain ⟨W2, hW2, h1, h2, hB⟩ := two_boxes w (.cells #[.pointer (some ⟨p, 0, none⟩)] 59) (.cells #[.int .u64 X] 40)
  have HB := Lib.hid hB
  have HK := Lib.hid (h.bel hB)
  have Hbr := Lib.hid hb
  have X1 := Lib.hid h1
  have X2 := Lib.hid h2
  have d1 := cell1 h1
  have d2 := cell1 h2
  have Hl := Lib.hid hl
  clear h hb hB h1 h2 hl
  have Hq := Lib.hid hq
  clear hq hX
  go_enter Try.func51, Try.ntmps51
  go_upto_block 0 with (fail)
  rw [← hW2]
  clear hW2
  go_wp2_with (first
  | (go_at_call 104
     (with_reducible refine (c_Made HK.out).mono ?_)
     rintro e w' ⟨rfl, rfl⟩)
  | (go_at_call 106
     (with_reducible refine (c_Broken HK.out).mono ?_)
     rintro e w' ⟨rfl, rfl⟩
     rw [Hbr.out])
  | (go_at_call 111
     (with_reducible refine (c_same HK.out n q _ _ Hq.out Hl.out X1.out X2.out).mono ?_)
     rintro e w3 ⟨rfl, hb3⟩
     have HB3 := Lib.hid (HB.out.trans (hb3.mono HB.out.size))
     have HK3 := Lib.hid (HK.out.bel hb3)
     have X13 := Lib.hid ((hb3.block _ (heap_lt X1.out)).trans X1.out)
     have X23 := Lib.hid ((hb3.block _ (heap_lt X2.out)).trans X2.out)
     clear d1 d2 hb3)
    | fail)
  go_ret
  exact ⟨rfl, HB3.out⟩
theorem c_Put_new (h : Dk w p g mb c d) (ho : d.ops + 1 < 1000000000) (hb : d.broken = false) (n q : Nat) (X : Int) (x : Nat) (hX : X = (x : Int)) (hx : x < 18446744073709551616) (hne : q ≠ x) (hl : latest d 2 4 = (n, q)) (e : Nat) (hs : sput d 2 4 x = (d', e)) :
    Calls Try.prog 51 #[.pointer (some ⟨p, 0, none⟩), .int .u64 X] w fun e' w' => e' = .returned (.int .i64 (e : Int)) ∧ Dk w' p g mb c d' ∧ Fr (fun k => k = p ∨ k = g ∨ k = mb) w w' := by
  have hq : ((q : Int) == X) = false := by simp [hX]; omega
  obtain ⟨W2, hW2, h1, h2, hB⟩ := two_boxes w (.cells #[.pointer (some ⟨p, 0, none⟩)] 59) (.cells #[.int .u64 X] 40)
  have HB := Lib.hid hB
  have HK := Lib.hid (h.bel hB)
  have Hbr := Lib.hid hb
  have X1 := Lib.hid h1
  have X2 := Lib.hid h2
  have d1 := cell1 h1
  have d2 := cell1 h2
  have Hl := Lib.hid hl
  clear h hb hB h1 h2 hl
  have Hq := Lib.hid hq
  have HX := Lib.hid hX
  have Hs := Lib.hid hs
  clear hq hX hs
  go_enter Try.func51, Try.ntmps51
  go_upto_block 0 with (fail)
  rw [← hW2]
  clear hW2
  go_wp2_with (first
  | (go_at_call 104
     (with_reducible refine (c_Made HK.out).mono ?_)
     rintro e w' ⟨rfl, rfl⟩)
  | (go_at_call 106
     (with_reducible refine (c_Broken HK.out).mono ?_)
     rintro e w' ⟨rfl, rfl⟩
     rw [Hbr.out])
  | (go_at_call 111
     (with_reducible refine (c_same HK.out n q _ _ Hq.out Hl.out X1.out X2.out).mono ?_)
     rintro e w3 ⟨rfl, hb3⟩
     have HB3 := Lib.hid (HB.out.trans (hb3.mono HB.out.size))
     have HK3 := Lib.hid (HK.out.bel hb3)
     have X13 := Lib.hid ((hb3.block _ (heap_lt X1.out)).trans X1.out)
     have X23 := Lib.hid ((hb3.block _ (heap_lt X2.out)).trans X2.out)
     clear d1 d2 hb3)
    | fail)
  refine wp_region_phi (by kernel_rfl) 3 none (fun _ => false) (fun i_ v wz => match i_ with
    | 0 => v = .agg #[.int .i64 2, .int .i64 4]
    | 1 => v = .pointer (some ⟨p, 0, none⟩)
    | 2 => v = .int .u64 X
    | _ => True) (by kernel_rfl) ?_ ?_ ?_
  · (repeat' (first | exact allLt_zero | refine allLt_succ ?_ ?_))
    · exact fun _ _ _ h _ => h
    · exact fun _ _ _ h _ => h
    · exact fun _ _ _ h _ => h
  · (repeat' (first | exact allLt_zero | refine allLt_succ ?_ ?_))
    · intro a w' hf he
      rw [show kindRow _ _ = none from by kernel_rfl] at hf
      refine wpOp_step rfl (fun K hK => ?_)
      go_simp
      refine (c_here _).mono ?_
      rintro e w2 ⟨rfl, hb2⟩
      exact hK _ _ ⟨_, rfl, rfl, grown_bel hb2⟩
    · intro a w' hf he
      have k2 : a.tmps.getD 2 undef = .pointer (some ⟨w.heap.size, 0, none⟩) := hf.var (by kernel_rfl) rfl
      rw [show kindRow _ _ = none from by kernel_rfl] at hf
      have dd := cell1 ((hf.bel.block _ (heap_lt X13.out)).trans X13.out)
      refine wpOp_step rfl (fun K hK => ?_)
      go_simp
      exact hK _ _ ⟨_, rfl, rfl, World.grownBy.refl _ _⟩
    · intro a w' hf he
      have k3 : a.tmps.getD 3 undef = .pointer (some ⟨w.heap.size + 1, 0, none⟩) := hf.var (by kernel_rfl) rfl
      rw [show kindRow _ _ = none from by kernel_rfl] at hf
      have dd := cell1 ((hf.bel.block _ (heap_lt X23.out)).trans X23.out)
      refine wpOp_step rfl (fun K hK => ?_)
      go_simp
      exact hK _ _ ⟨_, rfl, rfl, World.grownBy.refl _ _⟩
  · intro a w' hf he
    have f0 : a.tmps.getD 17 undef = .agg #[.int .i64 2, .int .i64 4] := he 0 (by decide)
    have f1 : a.tmps.getD 18 undef = .pointer (some ⟨p, 0, none⟩) := he 1 (by decide)
    have f2 : a.tmps.getD 19 undef = .int .u64 X := he 2 (by decide)
    have hlit := hf.lit ((17, .agg #[.int .i64 2, .int .i64 4]) :: (18, .pointer (some ⟨p, 0, none⟩)) :: (19, .int .u64 X) :: []) (by kernel_rfl) ⟨f0, f1, f2, trivial⟩
    have hB := hf.bel
    clear he hf f0 f1 f2 
    subst hlit
    simp only [putAll_nil, putAll_cons, Act.put, List.setIfInBounds_toArray, List.set_cons_zero, List.set_cons_succ]
    simp only [List.drop_succ_cons, List.drop_zero]
    have HK4 := Lib.hid (HK3.out.bel hB)
    have HB4 := Lib.hid (HB3.out.trans (hB.mono HB3.out.size))
    clear hB
    go_wp2_with (first
      | (go_at_call 112
         (with_reducible refine (c_put HK4.out ho _ x HX.out hx _ Hs.out).mono ?_)
         rintro e w5 ⟨rfl, hk5, f5⟩
         have HK5 := Lib.hid hk5
         have HF5 := Lib.hid ((Fr.of_bel (S := fun k => k = p ∨ k = g ∨ k = mb) HB4.out).trans f5 (fun _ _ e => e))
         clear hk5 f5))
    go_ret
    exact ⟨rfl, HK5.out, HF5.out⟩
end
theorem l1 : latest (Dsk.new 12) 2 4 = (0, 0) := latest_new 12 2 4
theorem l2 : (sput (Dsk.new 12) 2 4 5).2 = 0 ∧ (sput (Dsk.new 12) 2 4 5).1.broken = false ∧ latest (sput (Dsk.new 12) 2 4 5).1 2 4 = (1, 5) := by decide +kernel
theorem c_lives (w : World) : Calls Try.prog 54 #[] w fun e w' => e = .returned (.bool true) ∧ Below w.heap.size w w' := by
  obtain ⟨t1, t2, t3⟩ := l2
  obtain ⟨⟨d1, e1⟩, h1⟩ : ∃ r, sput (Dsk.new 12) 2 4 5 = r := ⟨_, rfl⟩
  rw [h1] at t1 t2 t3
  simp only at t1 t2
  subst t1
  have H1 := Lib.hid h1
  have H2 := Lib.hid t2
  have H3 := Lib.hid t3
  clear h1 t2 t3
  go_enter Try.func54, Try.ntmps54
  go_wp2_with (first
    | (go_at_call 45
       (with_reducible refine (c_dNewI' 12 12 rfl _ (by omega) (by omega)).mono ?_)
       rintro e w1 ⟨p, g, mb, rfl, hk, hge, hb1⟩
       have HB := Lib.hid hb1
       have HK := Lib.hid hk
       have HG := Lib.hid hge
       clear hb1 hk hge)
    | (go_at_call 51
       (with_reducible refine (c_Put_new HK.out (by decide) rfl 0 0 5 5 rfl (by omega) (by omega) l1 0 H1.out).mono ?_)
       rintro e w2 ⟨rfl, hk2, f2⟩
       have HB := Lib.hid (Dk.fresh HG.out HB.out f2)
       have HK2 := Lib.hid hk2
       clear hk2 f2 H1 HK)
    | (go_at_call 51
       (with_reducible refine (c_Put_same HK2.out H2.out 1 5 5 rfl H3.out).mono ?_)
       rintro e w3 ⟨rfl, hb3⟩
       have HB := Lib.hid (HB.out.trans (hb3.mono HB.out.size))
       have HK3 := Lib.hid (HK2.out.bel hb3)
       clear hb3 HK2)
    | (go_at_call 52
       (with_reducible refine (c_GetI HK3.out 1 5 H3.out).mono ?_)
       rintro e w4 ⟨rfl, hb4⟩
       have HB := Lib.hid (HB.out.trans (hb4.mono HB.out.size))
       have HK4 := Lib.hid (HK3.out.bel hb4)
       clear hb4)
    | (go_at_call 53
       (with_reducible refine (c_WritesI HK4.out 1 5 H3.out).mono ?_)
       rintro e w5 ⟨rfl, hb5⟩
       have HB5 := Lib.hid (HB.out.trans (hb5.mono HB.out.size))
       clear hb5))
  go_ret
  exact ⟨rfl, HB5.out⟩
theorem w_ActlogNone (X : Int) (w : World) : Calls Try.prog 14 #[.int .u64 X] w fun e w' => e = .returned (.bool true) ∧ Below w.heap.size w w' := by
  go_enter Try.func14, Try.ntmps14
  go_wp2_with (first
    | (go_at_call 51
       (with_reducible refine (c_Put_nil _ _).mono ?_)
       rintro e w1 ⟨rfl, hb1⟩
       have HB := Lib.hid hb1
       clear hb1)
    | (go_at_call 52
       (with_reducible refine (c_Get_nil _).mono ?_)
       rintro e w2 ⟨rfl, hb2⟩
       have HB := Lib.hid (HB.out.trans (hb2.mono HB.out.size))
       clear hb2)
    | (go_at_call 53
       (with_reducible refine (c_Writes_nil _).mono ?_)
       rintro e w3 ⟨rfl, hb3⟩
       have HB := Lib.hid (HB.out.trans (hb3.mono HB.out.size))
       clear hb3)
    | (go_at_call 54
       (with_reducible refine (c_lives _).mono ?_)
       rintro e w4 ⟨rfl, hb4⟩
       have HB4 := Lib.hid (HB.out.trans (hb4.mono HB.out.size))
       clear hb4))
  go_ret
  exact ⟨rfl, HB4.out⟩
end Go.Proofs.Ytdpggcpbgfancaa.Actlog
