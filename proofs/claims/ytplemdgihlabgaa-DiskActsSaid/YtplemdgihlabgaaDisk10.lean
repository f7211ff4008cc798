/- Contracts of the package disk: Copy. Conditions: none. -/
import Derived.Test.YtplemdgihlabgaaDisk9
import Derived.Test.YtplemdgihlabgaaShelf2
import Derived.Test.YtplemdgihlabgaaRegion3
set_option linter.unusedVariables false
set_option linter.unusedSimpArgs false
namespace Go.Proofs.Ytplemdgihlabgaa.Disk
open Go.RowKit Tw Go.Maps Go.ChangeMaps
set_option maxHeartbeats 4000000
set_option maxRecDepth 100000

/-- Block X alone may turn, and two facts stay. -/
structure RelP (X : Nat) (P Q : World → Prop) (w w' : World) : Prop where
  fr : Fr (fun k => k = X) w w'
  p : P w → P w'
  q : Q w → Q w'
def relPG (X : Nat) (P Q : World → Prop) : Bool → World → World → Prop
  | false => Still
  | true => RelP X P Q
theorem relPG_ok (X : Nat) {P Q : World → Prop} (hp : ∀ w w', w'.heap = w.heap → P w → P w') (hq : ∀ w w', w'.heap = w.heap → Q w → Q w') : RelOk (relPG X P Q) where
  refl b w := by
    cases b with
    | false => exact Still.refl w
    | true => exact ⟨Fr.refl _ _, fun h => h, fun h => h⟩
  trans b u v w h k := by
    cases b with
    | false => exact Still.trans h k
    | true => exact ⟨h.fr.trans k.fr (fun _ _ e => e), fun hr => k.p (h.p hr), fun hr => k.q (h.q hr)⟩
  up u v h := ⟨⟨h.os, h.tape, h.output, by rw [h.heap]; exact Nat.le_refl _, fun k _ _ => by rw [h.heap]⟩, hp _ _ h.heap, hq _ _ h.heap⟩
theorem relPG_fr {X : Nat} {P Q : World → Prop} {b : Bool} {w w' : World} (h : relPG X P Q b w.drew w') : Fr (fun k => k = X) w w' := by
  cases b with
  | true => exact ⟨h.fr.os, h.fr.tape, h.fr.output, h.fr.size, h.fr.block⟩
  | false => exact ⟨h.os, h.tape, h.output, by rw [h.heap]; exact Nat.le_refl _, fun k _ _ => by rw [h.heap]; rfl⟩
theorem relPG_p {X : Nat} {P Q : World → Prop} {b : Bool} {w w' : World} (hp : ∀ w w', w'.heap = w.heap → P w → P w') (h : relPG X P Q b w.drew w') (h0 : P w) : P w' := by
  have h1 : P w.drew := hp w w.drew rfl h0
  cases b with
  | true => exact h.p h1
  | false => exact hp _ _ h.heap h1

/-- the copy's struct: whatever slice and map it has -/
def CShape (X n : Nat) (f : Int) (b : Bool) (o : Nat) (w : World) : Prop := ∃ A c M, w.heap[X]? = some (.cells #[.slice A n c, .map M, .int .i64 f, .bool b, .int .i64 (o : Int)] 31 (0, 0))
/-- .. and the slice is the copy's own -/
def COwn (X n base : Nat) (f : Int) (b : Bool) (o : Nat) (xs : List Value) (w : World) : Prop := ∃ A c M, w.heap[X]? = some (.cells #[.slice A n c, .map M, .int .i64 f, .bool b, .int .i64 (o : Int)] 31 (0, 0)) ∧ Tw.Own w base 23 16 A n c xs
theorem cshape_heap {X n : Nat} {f : Int} {b : Bool} {o : Nat} (w w' : World) (h : w'.heap = w.heap) (k : CShape X n f b o w) : CShape X n f b o w' := by
  unfold CShape at *
  rw [h]
  exact k
theorem own_heap {w w' : World} {base : Nat} {e : TypeId} {size n c : Nat} {A : Option Addr} {xs : List Value} (h : w'.heap = w.heap) (k : Tw.Own w base e size A n c xs) : Tw.Own w' base e size A n c xs := by
  refine ⟨k.1, ?_⟩
  rcases k.2 with k2 | ⟨g, cap, cur, hv, hg, hh, r⟩
  · exact .inl k2
  · exact .inr ⟨g, cap, cur, hv, hg, by rw [h]; exact hh, r⟩
theorem cown_heap {X n base : Nat} {f : Int} {b : Bool} {o : Nat} {xs : List Value} (w w' : World) (h : w'.heap = w.heap) (k : COwn X n base f b o xs w) : COwn X n base f b o xs w' := by
  obtain ⟨A, c, M, h1, h2⟩ := k
  exact ⟨A, c, M, by rw [h]; exact h1, own_heap h h2⟩
theorem relP_bel {X n base : Nat} {f : Int} {b : Bool} {o : Nat} {xs : List Value} {w w' : World} (h : Below w.heap.size w w') : RelP X (CShape X n f b o) (COwn X n base f b o xs) w w' := by
  refine ⟨Fr.of_bel h, ?_, ?_⟩
  · rintro ⟨A, c, M, h1⟩
    exact ⟨A, c, M, (h.block _ (heap_lt h1)).trans h1⟩
  · rintro ⟨A, c, M, h1, h2⟩
    exact ⟨A, c, M, (h.block _ (heap_lt h1)).trans h1, Tw.Own.bel h2 h⟩
theorem ownsMap_heap {w w' : World} {mb m : Nat} {D : DataW Value} (hh : w'.heap = w.heap) (h : w.ownsMap Try.prog 3 R mb m D) : w'.ownsMap Try.prog 3 R mb m D := by
  obtain ⟨es, clock, hb, rest⟩ := h
  exact ⟨es, clock, by rw [hh]; exact hb, rest⟩
theorem cown_store {X n c0 c4 : Nat} {f : Int} {b : Bool} {o : Nat} {A0 A4 : Option Addr} {M0 : Option Nat} {xs : List Value} {w : World} (hx : w.heap[X]? = some (.cells #[.slice A0 n c0, .map M0, .int .i64 f, .bool b, .int .i64 (o : Int)] 31 (0, 0))) (ho : Tw.Own w (X + 1) 23 16 A4 n c4 xs) :
    COwn X n (X + 1) f b o xs (w.setCell ⟨X, 0, none⟩ (.slice A4 n c4)) ∧ RelP X (CShape X n f b o) (COwn X n (X + 1) f b o xs) w (w.setCell ⟨X, 0, none⟩ (.slice A4 n c4)) := by
  have h1 := heap_setCell_same w X 0 _ _ (.slice A4 n c4) hx
  have hf : Fr (fun k => k = X) w (w.setCell ⟨X, 0, none⟩ (.slice A4 n c4)) := Fr.setCell (S := fun k => k = X) (p := ⟨X, 0, none⟩) rfl _
  have h2 : COwn X n (X + 1) f b o xs (w.setCell ⟨X, 0, none⟩ (.slice A4 n c4)) := ⟨A4, c4, M0, by rw [h1]; simp, ho.fr hf (fun ad e => by have := (ho.at0 ad e).1; omega)⟩
  exact ⟨h2, hf, fun _ => ⟨A4, c4, M0, by rw [h1]; simp⟩, fun _ => h2⟩
theorem cown_store2 {X n c0 M m : Nat} {f : Int} {b : Bool} {o : Nat} {A0 : Option Addr} {M0 : Option Nat} {xs : List Value} {D : DataW Value} {w : World} (hx : w.heap[X]? = some (.cells #[.slice A0 n c0, .map M0, .int .i64 f, .bool b, .int .i64 (o : Int)] 31 (0, 0))) (ho : Tw.Own w (X + 1) 23 16 A0 n c0 xs) (hl : X + 1 ≤ M) (hr : w.ownsMap Try.prog 3 R M m D) :
    (∃ A c2 M', (w.setCell ⟨X, 1, none⟩ (.map (some M))).heap[X]? = some (.cells #[.slice A n c2, .map (some M'), .int .i64 f, .bool b, .int .i64 (o : Int)] 31 (0, 0)) ∧ Tw.Own (w.setCell ⟨X, 1, none⟩ (.map (some M))) (X + 1) 23 16 A n c2 xs ∧ X + 1 ≤ M' ∧ (w.setCell ⟨X, 1, none⟩ (.map (some M))).ownsMap Try.prog 3 R M' m D) ∧ RelP X (CShape X n f b o) (COwn X n (X + 1) f b o xs) w (w.setCell ⟨X, 1, none⟩ (.map (some M))) := by
  have h1 := heap_setCell_same w X 1 _ _ (.map (some M)) hx
  have hf : Fr (fun k => k = X) w (w.setCell ⟨X, 1, none⟩ (.map (some M))) := Fr.setCell (S := fun k => k = X) (p := ⟨X, 1, none⟩) rfl _
  have ho2 := ho.fr hf (fun ad e => by have := (ho.at0 ad e).1; omega)
  refine ⟨⟨A0, c0, M, by rw [h1]; simp, ho2, hl, ownsMap_fr hr hf (by omega)⟩, hf, fun _ => ⟨A0, c0, some M, by rw [h1]; simp⟩, fun _ => ⟨A0, c0, some M, by rw [h1]; simp, ho2⟩⟩
section
variable {w w' : World} {p g mb c : Nat} {d : Dsk}
theorem c_CloneSec (A : Option Addr) (n c : Nat) (xs : List Value) (w : World) (hA : ∃ gg, A = some ⟨gg, 0, none⟩) (hr : Rd w 16 A n c xs) (h1 : ∀ u ∈ xs, u.oneCell' = true) (hn : n ≤ 1024) :
    Calls Try.prog 87 #[.slice A n c] w fun e w' => ∃ A2 c2, e = .returned (.slice A2 n c2) ∧ Tw.Own w' w.heap.size 23 16 A2 n c2 xs ∧ Below w.heap.size w w' := by
  obtain ⟨gg, rfl⟩ := hA
  have heq := fun (W : World) => Lib.run_eql_slice_nil (P := Try.prog) W 28 23 (some ⟨gg, 0, none⟩) n c 0 0 Try.underlying28
  go_enter Try.func87, Try.ntmps87
  go_wp2_with (first
    | (at_builtin
       refine wpL_append _ rfl (.tmp 5) (.tmp 6) _ rfl w w.heap.size (bel_alloc (Below.refl _ _) (Nat.le_refl _) _) (size_alloc_le (Nat.le_refl _) _) 23 _ 16 16 Try.underlying28 info_sec rfl (by omega) _ _ _ [] rfl (own_empty _ _ _ _ (Nat.le_refl _)) _ _ _ _ rfl (hr.alloc _) h1 n xs (by omega) rfl (by unfold maxLen; omega) (by omega) ?_
       intro A1 c1 w1 hown1 hb1 hg1 ho1))
  go_ret
  exact ⟨A1, c1, rfl, hown1, hb1⟩
theorem c_CloneMap (b n : Nat) (D : DataW Value) (w : World) (hown : w.ownsMap Try.prog 3 R b n D) :
    Calls Try.prog 88 #[.map (some b)] w fun e w' => e = .returned (.map (some w.heap.size)) ∧ w'.ownsMap Try.prog 3 R w.heap.size n D ∧ Below w.heap.size w w' :=
  (AnyW.maps_Clone_owns Shf.cloneA 3 R b n D w hown).mono fun _ _ ⟨h1, h2, _, h4⟩ => ⟨h1, h2, h4⟩
theorem c_Copy (h : Dk w p g mb c d) : Calls Try.prog 25 #[.pointer (some ⟨p, 0, none⟩)] w fun e w' => ∃ p' g' mb' c', e = .returned (.pointer (some ⟨p', 0, none⟩)) ∧ Dk w' p' g' mb' c' d ∧ (w.heap.size ≤ p' ∧ w.heap.size ≤ g' ∧ w.heap.size ≤ mb') ∧ Below w.heap.size w w' := by
  have HB := Lib.hid ((Below.refl w.heap.size w).alloc (Nat.le_refl _) (.cells #[.slice (some ⟨g, 0, none⟩) d.cells.length c, .map (some mb), .int .i64 d.fuse, .bool d.broken, .int .i64 (d.ops : Int)] 31))
  have HX := Lib.hid (heap_alloc_new w (.cells #[.slice (some ⟨g, 0, none⟩) d.cells.length c, .map (some mb), .int .i64 d.fuse, .bool d.broken, .int .i64 (d.ops : Int)] 31))
  have hs1 : (w.alloc (.cells #[.slice (some ⟨g, 0, none⟩) d.cells.length c, .map (some mb), .int .i64 d.fuse, .bool d.broken, .int .i64 (d.ops : Int)] 31)).heap.size = w.heap.size + 1 := by simp
  have HS := Lib.hid hs1
  have Hok := Lib.hid h.ok
  have H1 := Lib.hid (h.bel HB.out)
  have H := Lib.hid h
  have hlt := h.lts
  have hn := h.ok.n
  obtain ⟨k0, k1, k2, k3, k4⟩ := h.cells
  clear h hs1
  go_enter Try.func25, Try.ntmps25
  go_upto_region 4 with (first
    | (go_at_call 19
       (with_reducible refine (c_Made H.out).mono ?_)
       rintro e w' ⟨rfl, rfl⟩))
  generalize (w.alloc (.cells #[.slice (some ⟨g, 0, none⟩) d.cells.length c, .map (some mb), .int .i64 d.fuse, .bool d.broken, .int .i64 (d.ops : Int)] 31)) = W1 at *
  obtain ⟨X, hX⟩ : ∃ X, w.heap.size = X := ⟨_, rfl⟩
  have HXw := Lib.hid hX
  rw [hX] at HX HS hlt HB ⊢
  clear hX k0 k1 k2 k3 k4
  obtain ⟨n, hnn⟩ : ∃ n, d.cells.length = n := ⟨_, rfl⟩
  have HN := Lib.hid hnn
  obtain ⟨D, m, hm, hle, hD⟩ := H1.out.map
  have Hm := Lib.hid hm
  have Hle := Lib.hid hle
  have HD := Lib.hid hD
  have hblk := H1.out.blk
  have hown := H1.out.own
  rw [hnn] at hblk hown HX hn
  have Hblk := Lib.hid hblk
  have Hown := Lib.hid hown
  clear hblk hown hnn hm hle hD
  obtain ⟨xs, hxs⟩ : ∃ xs, bytesV (durable d) = xs := ⟨_, rfl⟩
  have Hxs := Lib.hid hxs
  rw [hxs] at Hown
  have Hone : Hid (∀ u ∈ xs, u.oneCell' = true) := Lib.hid (by rw [← hxs]; exact bytesV_one)
  clear hxs
  refine wp_region_rel (by kernel_rfl) 14 (relPG_ok X (cshape_heap (X := X) (n := n) (f := d.fuse) (b := d.broken) (o := d.ops)) (cown_heap (X := X) (n := n) (base := X + 1) (f := d.fuse) (b := d.broken) (o := d.ops) (xs := xs))) (fun i_ => match i_ with | 4 => true | 9 => true | 11 => true | 13 => true | _ => false) (fun i_ v wz => match i_ with
    | 0 => v = .pointer (some ⟨p, 0, none⟩)
    | 1 => v = .pointer (some ⟨p, 0, none⟩)
    | 2 => v = .pointer (some ⟨p, 0, none⟩)
    | 3 => v = .slice (some ⟨g, 0, none⟩) n c
    | 4 => ∃ A c2, v = .slice A n c2 ∧ Tw.Own wz (X + 1) 23 16 A n c2 xs
    | 5 => v = .pointer (some ⟨p, 0, none⟩)
    | 6 => v = .pointer (some ⟨p, 0, none⟩)
    | 7 => v = .pointer (some ⟨p, 1, none⟩)
    | 8 => v = .map (some mb)
    | 9 => ∃ M, v = .map (some M) ∧ X + 1 ≤ M ∧ wz.ownsMap Try.prog 3 R M m D
    | 10 => v = .pointer (some ⟨X, 0, none⟩)
    | 11 => COwn X n (X + 1) d.fuse d.broken d.ops xs wz
    | 12 => v = .pointer (some ⟨X, 1, none⟩)
    | 13 => ∃ A c2 M, wz.heap[X]? = some (.cells #[.slice A n c2, .map (some M), .int .i64 d.fuse, .bool d.broken, .int .i64 (d.ops : Int)] 31 (0, 0)) ∧ Tw.Own wz (X + 1) 23 16 A n c2 xs ∧ X + 1 ≤ M ∧ wz.ownsMap Try.prog 3 R M m D
    | _ => True) (by kernel_rfl) ?_ ?_ ?_
  · (repeat' (first | exact allLt_zero | refine allLt_succ ?_ ?_))
    · exact fun _ _ _ h _ => h
    · exact fun _ _ _ h _ => h
    · exact fun _ _ _ h _ => h
    · exact fun _ _ _ h _ => h
    · intro v w1 w2 h hg
      rw [show (!clsB _ _ _ _) = true from by kernel_rfl] at hg
      obtain ⟨A, c2, rfl, ho⟩ := h
      exact ⟨A, c2, rfl, ho.fr ((relPG_ok X (cshape_heap (X := X) (n := n) (f := d.fuse) (b := d.broken) (o := d.ops)) (cown_heap (X := X) (n := n) (base := X + 1) (f := d.fuse) (b := d.broken) (o := d.ops) (xs := xs))).any hg).fr (fun ad e => by have := (ho.at0 ad e).1; omega)⟩
    · exact fun _ _ _ h _ => h
    · exact fun _ _ _ h _ => h
    · exact fun _ _ _ h _ => h
    · exact fun _ _ _ h _ => h
    · intro v w1 w2 h hg
      rw [show (!clsB _ _ _ _) = true from by kernel_rfl] at hg
      obtain ⟨M, rfl, hl, ho⟩ := h
      exact ⟨M, rfl, hl, ownsMap_fr ho ((relPG_ok X (cshape_heap (X := X) (n := n) (f := d.fuse) (b := d.broken) (o := d.ops)) (cown_heap (X := X) (n := n) (base := X + 1) (f := d.fuse) (b := d.broken) (o := d.ops) (xs := xs))).any hg).fr (by omega)⟩
    · exact fun _ _ _ h _ => h
    · intro v w1 w2 h hg
      rw [show (!clsB _ _ _ _) = true from by kernel_rfl] at hg
      exact ((relPG_ok X (cshape_heap (X := X) (n := n) (f := d.fuse) (b := d.broken) (o := d.ops)) (cown_heap (X := X) (n := n) (base := X + 1) (f := d.fuse) (b := d.broken) (o := d.ops) (xs := xs))).any hg).q h
    · exact fun _ _ _ h _ => h
    · intro v w1 w2 h hg
      rw [show (!clsB _ _ _ _) = false from by kernel_rfl] at hg
      obtain ⟨A, c2, M, hx, ho, hl, hr⟩ := h
      have hh := (show Still w1 w2 from hg).heap
      exact ⟨A, c2, M, by rw [hh]; exact hx, own_heap hh ho, hl, ownsMap_heap hh hr⟩
  · (repeat' (first | exact allLt_zero | refine allLt_succ ?_ ?_))
    · intro a w' hf he
      have k0 : a.tmps.getD 0 undef = .pointer (some ⟨p, 0, none⟩) := hf.var (by kernel_rfl) rfl
      refine wpOp_step rfl (fun K hK => ?_)
      go_simp
      exact hK _ _ ⟨_, rfl, rfl, (relPG_ok X (cshape_heap (X := X) (n := n) (f := d.fuse) (b := d.broken) (o := d.ops)) (cown_heap (X := X) (n := n) (base := X + 1) (f := d.fuse) (b := d.broken) (o := d.ops) (xs := xs))).refl _ _⟩
    · intro a w' hf he
      have f0 : a.tmps.getD 10 undef = .pointer (some ⟨p, 0, none⟩) := he 0 (by kernel_rfl)
      refine wpOp_step rfl (fun K hK => ?_)
      go_simp
      exact hK _ _ ⟨_, rfl, rfl, (relPG_ok X (cshape_heap (X := X) (n := n) (f := d.fuse) (b := d.broken) (o := d.ops)) (cown_heap (X := X) (n := n) (base := X + 1) (f := d.fuse) (b := d.broken) (o := d.ops) (xs := xs))).refl _ _⟩
    · intro a w' hf he
      have f1 : a.tmps.getD 11 undef = .pointer (some ⟨p, 0, none⟩) := he 1 (by kernel_rfl)
      rw [show (!preB _ _ _ _) = false from by kernel_rfl] at hf
      refine wpOp_step rfl (fun K hK => ?_)
      go_simp
      exact hK _ _ ⟨_, rfl, rfl, (relPG_ok X (cshape_heap (X := X) (n := n) (f := d.fuse) (b := d.broken) (o := d.ops)) (cown_heap (X := X) (n := n) (base := X + 1) (f := d.fuse) (b := d.broken) (o := d.ops) (xs := xs))).refl _ _⟩
    · intro a w' hf he
      have f2 : a.tmps.getD 12 undef = .pointer (some ⟨p, 0, none⟩) := he 2 (by kernel_rfl)
      rw [show (!preB _ _ _ _) = false from by kernel_rfl] at hf
      have d0 := heap_fr Hblk.out (relPG_fr hf.rel) (by omega)
      have dd : w'.cell? ⟨p, 0, none⟩ = some (.slice (some ⟨g, 0, none⟩) n c) := by simp [World.cell?, d0]
      clear d0
      refine wpOp_step rfl (fun K hK => ?_)
      go_simp
      exact hK _ _ ⟨_, rfl, rfl, (relPG_ok X (cshape_heap (X := X) (n := n) (f := d.fuse) (b := d.broken) (o := d.ops)) (cown_heap (X := X) (n := n) (base := X + 1) (f := d.fuse) (b := d.broken) (o := d.ops) (xs := xs))).refl _ _⟩
    · intro a w' hf he
      have f3 : a.tmps.getD 13 undef = .slice (some ⟨g, 0, none⟩) n c := he 3 (by kernel_rfl)
      rw [show (!preB _ _ _ _) = false from by kernel_rfl] at hf
      have ho := Hown.out.fr (relPG_fr hf.rel) (fun ad e => by injection e with e; subst e; exact fun e => by simp at e; omega)
      have hsz := (relPG_fr hf.rel).size
      rw [HS.out] at hsz
      refine wpOp_step rfl (fun K hK => ?_)
      go_simp
      refine (c_CloneSec _ n c xs w' ⟨g, rfl⟩ ho.rd Hone.out (by omega)).mono ?_
      rintro e w2 ⟨A2, c2, rfl, ho2, hb2⟩
      exact hK _ _ ⟨_, rfl, ⟨_, _, rfl, Tw.Own.mono ho2 hsz⟩, relP_bel hb2⟩
    · intro a w' hf he
      have k0 : a.tmps.getD 0 undef = .pointer (some ⟨p, 0, none⟩) := hf.var (by kernel_rfl) rfl
      refine wpOp_step rfl (fun K hK => ?_)
      go_simp
      exact hK _ _ ⟨_, rfl, rfl, (relPG_ok X (cshape_heap (X := X) (n := n) (f := d.fuse) (b := d.broken) (o := d.ops)) (cown_heap (X := X) (n := n) (base := X + 1) (f := d.fuse) (b := d.broken) (o := d.ops) (xs := xs))).refl _ _⟩
    · intro a w' hf he
      have f5 : a.tmps.getD 15 undef = .pointer (some ⟨p, 0, none⟩) := he 5 (by kernel_rfl)
      refine wpOp_step rfl (fun K hK => ?_)
      go_simp
      exact hK _ _ ⟨_, rfl, rfl, (relPG_ok X (cshape_heap (X := X) (n := n) (f := d.fuse) (b := d.broken) (o := d.ops)) (cown_heap (X := X) (n := n) (base := X + 1) (f := d.fuse) (b := d.broken) (o := d.ops) (xs := xs))).refl _ _⟩
    · intro a w' hf he
      have f6 : a.tmps.getD 16 undef = .pointer (some ⟨p, 0, none⟩) := he 6 (by kernel_rfl)
      rw [show (!preB _ _ _ _) = true from by kernel_rfl] at hf
      refine wpOp_step rfl (fun K hK => ?_)
      go_simp
      exact hK _ _ ⟨_, rfl, rfl, (relPG_ok X (cshape_heap (X := X) (n := n) (f := d.fuse) (b := d.broken) (o := d.ops)) (cown_heap (X := X) (n := n) (base := X + 1) (f := d.fuse) (b := d.broken) (o := d.ops) (xs := xs))).refl _ _⟩
    · intro a w' hf he
      have f7 : a.tmps.getD 17 undef = .pointer (some ⟨p, 1, none⟩) := he 7 (by kernel_rfl)
      rw [show (!preB _ _ _ _) = true from by kernel_rfl] at hf
      have d0 := heap_fr Hblk.out (relPG_fr hf.rel) (by omega)
      have dd : w'.cell? ⟨p, 1, none⟩ = some (.map (some mb)) := by simp [World.cell?, d0]
      clear d0
      refine wpOp_step rfl (fun K hK => ?_)
      go_simp
      exact hK _ _ ⟨_, rfl, rfl, (relPG_ok X (cshape_heap (X := X) (n := n) (f := d.fuse) (b := d.broken) (o := d.ops)) (cown_heap (X := X) (n := n) (base := X + 1) (f := d.fuse) (b := d.broken) (o := d.ops) (xs := xs))).refl _ _⟩
    · intro a w' hf he
      have f8 : a.tmps.getD 18 undef = .map (some mb) := he 8 (by kernel_rfl)
      rw [show (!preB _ _ _ _) = true from by kernel_rfl] at hf
      have ho := ownsMap_fr Hm.out (relPG_fr hf.rel) (by omega)
      have hsz := (relPG_fr hf.rel).size
      rw [HS.out] at hsz
      refine wpOp_step rfl (fun K hK => ?_)
      go_simp
      refine (c_CloneMap mb m D w' ho).mono ?_
      rintro e w2 ⟨rfl, ho2, hb2⟩
      exact hK _ _ ⟨_, rfl, ⟨_, rfl, hsz, ho2⟩, relP_bel hb2⟩
    · intro a w' hf he
      have k3 : a.tmps.getD 3 undef = .pointer (some ⟨X, 0, none⟩) := hf.var (by kernel_rfl) rfl
      rw [show (!preB _ _ _ _) = true from by kernel_rfl] at hf
      refine wpOp_step rfl (fun K hK => ?_)
      go_simp
      exact hK _ _ ⟨_, rfl, rfl, (relPG_ok X (cshape_heap (X := X) (n := n) (f := d.fuse) (b := d.broken) (o := d.ops)) (cown_heap (X := X) (n := n) (base := X + 1) (f := d.fuse) (b := d.broken) (o := d.ops) (xs := xs))).refl _ _⟩
    · intro a w' hf he
      have f10 : a.tmps.getD 20 undef = .pointer (some ⟨X, 0, none⟩) := he 10 (by kernel_rfl)
      obtain ⟨A4, c4, hv4, hr4⟩ := he 4 (by kernel_rfl)
      have f4 : a.tmps.getD 14 undef = _ := hv4
      rw [show (!preB _ _ _ _) = true from by kernel_rfl] at hf
      obtain ⟨A0, c0, M0, hx0⟩ := relPG_p cshape_heap hf.rel ⟨_, _, _, HX.out⟩
      have dd : w'.cell? ⟨X, 0, none⟩ = some (.slice A0 n c0) := by simp [World.cell?, hx0]
      have df : w'.frozen? ⟨X, 0, none⟩ = false := by simp [World.frozen?, hx0]
      have hx0 := Lib.hid hx0
      have ff := cown_store (f := d.fuse) (b := d.broken) (o := d.ops) hx0.out hr4
      refine wpOp_step rfl (fun K hK => ?_)
      go_simp
      exact hK _ _ ⟨undef, rfl, ff.1, ff.2⟩
    · intro a w' hf he
      have k3 : a.tmps.getD 3 undef = .pointer (some ⟨X, 0, none⟩) := hf.var (by kernel_rfl) rfl
      rw [show (!preB _ _ _ _) = true from by kernel_rfl] at hf
      refine wpOp_step rfl (fun K hK => ?_)
      go_simp
      exact hK _ _ ⟨_, rfl, rfl, (relPG_ok X (cshape_heap (X := X) (n := n) (f := d.fuse) (b := d.broken) (o := d.ops)) (cown_heap (X := X) (n := n) (base := X + 1) (f := d.fuse) (b := d.broken) (o := d.ops) (xs := xs))).refl _ _⟩
    · intro a w' hf he
      have f12 : a.tmps.getD 21 undef = .pointer (some ⟨X, 1, none⟩) := he 12 (by kernel_rfl)
      obtain ⟨M9, hv9, hl9, hr9⟩ := he 9 (by kernel_rfl)
      have f9 : a.tmps.getD 19 undef = _ := hv9
      rw [show (!preB _ _ _ _) = true from by kernel_rfl] at hf
      have h11 : COwn X n (X + 1) d.fuse d.broken d.ops xs w' := he 11 (by kernel_rfl)
      obtain ⟨A1, c1, M1, hx1, ho1⟩ := h11
      have dd : w'.cell? ⟨X, 1, none⟩ = some (.map M1) := by simp [World.cell?, hx1]
      have df : w'.frozen? ⟨X, 1, none⟩ = false := by simp [World.frozen?, hx1]
      have ff := cown_store2 hx1 ho1 hl9 hr9
      have ff := Lib.hid ff
      clear hx1
      refine wpOp_step rfl (fun K hK => ?_)
      go_simp
      exact hK _ _ ⟨undef, rfl, ff.out.1, ff.out.2⟩
  · intro a w' hf he
    have f0 : a.tmps.getD 10 undef = .pointer (some ⟨p, 0, none⟩) := he 0 (by decide)
    obtain ⟨u11, f1⟩ : ∃ u, a.tmps.getD 11 undef = u := ⟨_, rfl⟩
    obtain ⟨u12, f2⟩ : ∃ u, a.tmps.getD 12 undef = u := ⟨_, rfl⟩
    obtain ⟨u13, f3⟩ : ∃ u, a.tmps.getD 13 undef = u := ⟨_, rfl⟩
    obtain ⟨u14, f4⟩ : ∃ u, a.tmps.getD 14 undef = u := ⟨_, rfl⟩
    obtain ⟨u15, f5⟩ : ∃ u, a.tmps.getD 15 undef = u := ⟨_, rfl⟩
    obtain ⟨u16, f6⟩ : ∃ u, a.tmps.getD 16 undef = u := ⟨_, rfl⟩
    obtain ⟨u17, f7⟩ : ∃ u, a.tmps.getD 17 undef = u := ⟨_, rfl⟩
    obtain ⟨u18, f8⟩ : ∃ u, a.tmps.getD 18 undef = u := ⟨_, rfl⟩
    obtain ⟨u19, f9⟩ : ∃ u, a.tmps.getD 19 undef = u := ⟨_, rfl⟩
    obtain ⟨u20, f10⟩ : ∃ u, a.tmps.getD 20 undef = u := ⟨_, rfl⟩
    obtain hr11 := he 11 (by decide)
    obtain ⟨u21, f12⟩ : ∃ u, a.tmps.getD 21 undef = u := ⟨_, rfl⟩
    obtain ⟨A13, c13, M13, hx13, ho13, hl13, hr13⟩ := he 13 (by decide)
    have hlit := hf.lit ((10, .pointer (some ⟨p, 0, none⟩)) :: (11, u11) :: (12, u12) :: (13, u13) :: (14, u14) :: (15, u15) :: (16, u16) :: (17, u17) :: (18, u18) :: (19, u19) :: (20, u20) :: (21, u21) :: []) (by kernel_rfl) ⟨f0, f1, f2, f3, f4, f5, f6, f7, f8, f9, f10, f12, trivial⟩
    have hB := hf.rel
    clear he hf f0 f1 f2 f3 f4 f5 f6 f7 f8 f9 f10 f12 
    subst hlit
    simp only [putAll_nil, putAll_cons, Act.put, List.setIfInBounds_toArray, List.set_cons_zero, List.set_cons_succ]
    simp only [List.drop_succ_cons, List.drop_zero]
    have hfr := relPG_fr (b := true) hB
    have HF := Lib.hid hfr
    have Hx := Lib.hid hx13
    have Ho := Lib.hid ho13
    have Hr := Lib.hid hr13
    clear hB hfr hx13 ho13 hr13 hr11
    go_wp2_with fail
    go_ret
    obtain ⟨g', rfl, hg1, hg2⟩ := own_form0 Ho.out (by omega)
    have hgm : g' ≠ M13 := by
      intro e
      subst e
      obtain ⟨es, clock, hb, _⟩ := Hr.out
      rcases Ho.out.2 with ⟨hv, _⟩ | ⟨gg, cap, cur, hv, _, hh, _⟩
      · cases hv
      · injection hv with h1
        injection h1 with h1
        injection h1 with h1
        rw [← h1, hb] at hh
        cases hh
    have hxo := Hx.out
    have hoo := Ho.out
    rw [← HN.out] at hxo hoo
    rw [← Hxs.out] at hoo
    rw [HXw.out]
    exact ⟨X, g', M13, c13, rfl, ⟨Hok.out, hxo, Tw.Own.mono hoo (Nat.zero_le _), ⟨D, m, Hr.out, Hle.out, HD.out⟩, by omega, by omega, hgm⟩, ⟨Nat.le_refl _, by omega, by omega⟩, HB.out.trans (HF.out.bel (fun k e => by omega) (by have := HS.out; omega))⟩
end
end Go.Proofs.Ytplemdgihlabgaa.Disk
