/- Texts joined: what the disks, the rings and their reference do. Conditions: none. -/
import Derived.Test.YtaldlapnhhhclaaGreatB5
import Derived.Test.YtaldlapnhhhclaaGreatB2
import Derived.Test.YtaldlapnhhhclaaGreatB1
import Derived.Orders
import Derived.RegionTactic
import Derived.SizedLaws
import Derived.ChangeSlices
import Derived.ProofKit
import Derived.OpenShut
import Derived.Deep.Slices
import Derived.Deep.Fields
import Derived.ChangeSame
import Derived.Test.YtaldlapnhhhclaaGreatProg
import Derived.Laws.BitsAllLaws
import Derived.IntWalk
/- The reference's disk: Flush, Crash, Cached, New. Conditions: at most 10^9 operations. -/
set_option linter.unusedVariables false
set_option linter.unusedSimpArgs false
namespace Go.Proofs.YtaldlapnhhhclaaGreat.Disk
open Go.RowKit Tw Dsk
set_option maxHeartbeats 4000000
set_option maxRecDepth 100000
theorem cachedFrom_append : ∀ (a b : List Cl) (o : Nat), cachedFrom o (a ++ b) = cachedFrom o a ++ cachedFrom (o + a.length) b
  | [], b, o => by simp [cachedFrom]
  | (s, none) :: r, b, o => by
    rw [List.cons_append, cachedFrom, cachedFrom, cachedFrom_append r b, List.length_cons, show o + 1 + r.length = o + (r.length + 1) by omega]
  | (s, some f) :: r, b, o => by
    rw [List.cons_append, cachedFrom, cachedFrom, cachedFrom_append r b, List.length_cons, List.cons_append, show o + 1 + r.length = o + (r.length + 1) by omega]
theorem cachedFrom_take {l : List Cl} {i : Nat} {c : Cl} (h : l[i]? = some c) : cachedFrom 0 (l.take (i + 1)) = cachedFrom 0 (l.take i) ++ (if c.2.isSome = true then [i] else []) := by
  have hlt := (List.getElem?_eq_some_iff.1 h).1
  have he := (List.getElem?_eq_some_iff.1 h).2
  rw [List.take_succ_eq_append_getElem hlt, cachedFrom_append, he, List.length_take, Nat.min_eq_left (by omega), Nat.zero_add]
  obtain ⟨s, f⟩ := c
  cases f <;> rfl
/-- numbers as cells -/
def natsV (l : List Nat) : List Value := l.map fun (n : Nat) => Value.int .i64 (n : Int)
theorem natsV_one {l : List Nat} : ∀ v ∈ natsV l, v.oneCell' = true := by
  intro v hv
  obtain ⟨n, _, rfl⟩ := List.mem_map.1 hv
  rfl
theorem info_int' : (Tryz.prog.info? 3).map (fun i => (i.zero, i.size, i.bytes)) = some (some (.int .i64 0), 1, 8) := by kernel_rfl
def Z33 : Array Value := #[.int .u8 0, .int .u8 0, .int .u8 0, .int .u8 0, .int .u8 0, .int .u8 0, .int .u8 0, .int .u8 0, .int .u8 0, .int .u8 0, .int .u8 0, .int .u8 0, .int .u8 0, .int .u8 0, .int .u8 0, .int .u8 0, .int .u8 0, .int .u8 0, .int .u8 0, .int .u8 0, .int .u8 0, .int .u8 0, .int .u8 0, .int .u8 0, .int .u8 0, .int .u8 0, .int .u8 0, .int .u8 0, .int .u8 0, .int .u8 0, .int .u8 0, .int .u8 0, .bool false]
theorem rcell_c0 : rcell c0 = Z33.toList := by
  unfold rcell c0
  simp only [Option.getD_none, zl_eq]
  rfl
section
variable {w w' : World} {q r c : Nat} {d : Dsk}
theorem r_Flush (h : Rk w q r c d) (ho : d.ops < 1000000000) : Calls Tryz.prog 92 #[.pointer (some ⟨q, 0, none⟩)] w fun e w' => e = .returned (.int .i64 (d.flush.2 : Int)) ∧ Rk w' q r c d.flush.1 ∧ Fr (fun k => k = q ∨ k = r) w w' := by
  have H := Lib.hid h
  clear h
  by_cases he : d.spend.2 = 0
  · have hw : Hid (d.flush = (d.spend.1.allSafe, 0)) := Lib.hid (by unfold Dsk.flush; rw [if_pos he])
    have He : Hid (decide (d.spend.2 = 3) = false) := Lib.hid (by rw [he]; rfl)
    clear he
    go_enter Tryz.func92, Tryz.ntmps92
    go_wp2_with (first
      | (go_at_call 148
         (with_reducible refine (r_burns H.out ho).mono ?_)
         rintro e w2 ⟨rfl, h2, f2⟩
         rw [He.out]
         have H2 := Lib.hid h2
         have F2 := Lib.hid f2
         clear h2 f2)
      | (go_at_call 64
         refine (r_keep H2.out true 0 (by omega)).mono ?_
         rintro e w3 ⟨rfl, h3, f3⟩
         rw [keepD_all] at h3
         have H3 := Lib.hid h3
         have F3 := Lib.hid f3
         clear h3 f3))
    go_ret
    rw [hw.out]
    exact ⟨rfl, H3.out, (F2.out.mono (S1 := fun k => k = q ∨ k = r) (fun _ _ e => .inl e)).trans F3.out (fun _ _ e => e)⟩
  · have hw : Hid (d.flush = d.spend) := Lib.hid (by unfold Dsk.flush; rw [if_neg he])
    have He3 : d.spend.2 = 3 := (spend_err d).resolve_left he
    have He : Hid (decide (d.spend.2 = 3) = true) := Lib.hid (by rw [He3]; rfl)
    have HE3 := Lib.hid He3
    clear he He3
    go_enter Tryz.func92, Tryz.ntmps92
    go_wp2_with (first
      | (go_at_call 148
         (with_reducible refine (r_burns H.out ho).mono ?_)
         rintro e w2 ⟨rfl, h2, f2⟩
         rw [He.out]
         have H2 := Lib.hid h2
         have F2 := Lib.hid f2
         clear h2 f2))
    go_ret
    rw [hw.out]
    exact ⟨by rw [HE3.out]; rfl, H2.out, F2.out.mono (fun _ _ e => .inl e)⟩
theorem r_Crash (h : Rk w q r c d) (mask : Nat) (hm : mask < 18446744073709551616) : Calls Tryz.prog 22 #[.pointer (some ⟨q, 0, none⟩), .int .u64 (mask : Int)] w fun e w' => e = .returned (.tuple #[]) ∧ Rk w' q r c (d.crash mask) ∧ Fr (fun k => k = q ∨ k = r) w w' := by
  have Hok := Lib.hid h.ok
  have H := Lib.hid h
  have He : Hid ({ d.keepD false mask with fuse := -1, broken := false, ops := (d.keepD false mask).ops } = d.crash mask) := Lib.hid rfl
  clear h
  go_enter Tryz.func22, Tryz.ntmps22
  go_wp2_with (first
    | (go_at_call 64
       (with_reducible refine (r_keep H.out false mask hm).mono ?_)
       rintro e w3 ⟨rfl, h3, f3⟩
       have hfz1 := h3.frozen 1
       have hfz2 := h3.frozen 2
       obtain ⟨k0, k1, k2, k3⟩ := h3.cells
       have H3 := Lib.hid h3
       have F3 := Lib.hid f3
       clear h3 f3))
  refine bodyPost_end (results_none rfl _ _ _) rfl ?_
  have hok : ({ d.keepD false mask with fuse := -1, broken := false, ops := (d.keepD false mask).ops } : Dsk).Ok := by rw [He.out]; exact crash_ok Hok.out mask
  have hfr : Fr (fun k => k = q) w3 ((w3.setCell ⟨q, 2, none⟩ (.bool false)).setCell ⟨q, 1, none⟩ (.int .i64 (-1))) := (fr_set w3 q 2 _).trans (fr_set _ q 1 _) (fun _ _ e => e)
  have hd := H3.out.reset hfr hok (by
    rw [heap_setCell_same _ q 1 _ _ _ (heap_setCell_same _ q 2 _ _ _ H3.out.blk)]
    simp)
  rw [He.out] at hd
  exact ⟨rfl, hd, F3.out.trans hfr (fun _ _ e => .inl e)⟩
/-- a cell, as it lies -/
theorem Rk.whole (h : Rk w q r c d) {n : Nat} (hn : n < d.cells.length) (j : Nat) (v : Value) (hv : (rcell (d.cell (n : Int)))[j]? = some v) : w.cell? ((⟨r, n * 33, none⟩ : Addr).add j) = some v := by
  have hh : d.has (n : Int) := (has_iff d _).2 (by omega)
  have hg : d.cells[n]? = some (d.cell (n : Int)) := by
    have := cell_get hh
    rwa [Int.toNat_natCast] at this
  have hm := h.ok.cell_ok _ (cell_mem hh)
  have hj := (List.getElem?_eq_some_iff.1 hv).1
  rw [rcell_len hm] at hj
  have h1 := flat_get (F := rcell) (k := 33) (fun c hc => rcell_len (h.ok.cell_ok c hc)) hg hj
  have h2 := h.own.rd.cell _ rfl (n * 33 + j) v (by rw [← hv]; exact h1)
  rw [Addr.add_mid, Nat.zero_add] at h2
  rw [Addr.add_mid]
  exact h2
theorem rcell_flag {c : Cl} (h : CellOk c) : (rcell c)[32]? = some (.bool c.2.isSome) := by
  have l1 : (bytesV c.1).length = 16 := by rw [bytesV_length]; exact h.1
  have l2 : (bytesV (c.2.getD zs)).length = 16 := by
    rw [bytesV_length]
    cases hc : c.2 with
    | none => exact zs_len
    | some s => exact h.2 s hc
  unfold rcell
  rw [List.getElem?_append_right (by omega), l1, List.getElem?_append_right (by omega), l2]
  rfl
theorem rcell_one {c : Cl} : ∀ v ∈ (rcell c).toArray, v.oneCell' = true := by
  intro v hv
  simp only [rcell, List.mem_toArray, List.mem_append, List.mem_singleton] at hv
  rcases hv with hv | hv | rfl
  · exact bytesV_one v hv
  · exact bytesV_one v hv
  · rfl
end
end Go.Proofs.YtaldlapnhhhclaaGreat.Disk
/- The reference's disk: New. Conditions: none. -/
namespace Go.Proofs.YtaldlapnhhhclaaGreat.Disk
open Go.RowKit Tw Dsk
set_option maxHeartbeats 4000000
set_option maxRecDepth 100000
theorem info_cell : (Tryz.prog.info? 129).map (fun i => (i.zero, i.size, i.bytes)) = some (some (.agg Z33), 33, 33) := by kernel_rfl
theorem z33_one : ∀ u ∈ Z33.toList, u.oneCell' = true := by
  rw [← rcell_c0]
  intro u hu
  exact rcell_one u (by simpa using hu)
theorem rrow_new (n : Nat) : rrow (List.replicate (n + 1) c0) = rrow (List.replicate n c0) ++ Z33.toList := by
  unfold rrow
  rw [List.replicate_succ', List.flatMap_append]
  simp [rcell_c0]
theorem r_New_bad (n : Int) (hn : n < 1 ∨ 1024 < n) (w : World) : Calls Tryz.prog 18 #[.int .i64 n] w fun e w' => e = .returned (.tuple #[.pointer none, .int .i64 2]) ∧ w = w' := by
  by_cases h1 : n < 1
  · go_enter Tryz.func18, Tryz.ntmps18
    go_wp2_with fail
    go_ret2
    exact ⟨rfl, rfl⟩
  · have h2 : 1024 < n := by omega
    go_enter Tryz.func18, Tryz.ntmps18
    go_wp2_with fail
    go_ret2
    exact ⟨rfl, rfl⟩
theorem r_New (n : Nat) (w : World) (h1 : 1 ≤ n) (h2 : n ≤ 1024) : Calls Tryz.prog 18 #[.int .i64 (n : Int)] w fun e w' => ∃ q r c, e = .returned (.tuple #[.pointer (some ⟨q, 0, none⟩), .int .i64 0]) ∧ Rk w' q r c (Dsk.new n) ∧ (w.heap.size ≤ q ∧ w.heap.size ≤ r) ∧ Below w.heap.size w w' := by
  have hb0 := heap_alloc_new w (.cells #[.slice none 0 0, .int .i64 (-1), .bool false, .int .i64 0] 62)
  have HB0 := Lib.hid ((Below.refl w.heap.size w).alloc (Nat.le_refl _) (.cells #[.slice none 0 0, .int .i64 (-1), .bool false, .int .i64 0] 62))
  have Hb0 := Lib.hid hb0
  have hs0 : w.heap.size < (w.alloc (.cells #[.slice none 0 0, .int .i64 (-1), .bool false, .int .i64 0] 62)).heap.size := by simp
  have Hs0 := Lib.hid hs0
  clear hb0 hs0
  go_enter Tryz.func18, Tryz.ntmps18
  go_wp2_with fail
  generalize (w.alloc (.cells #[.slice none 0 0, .int .i64 (-1), .bool false, .int .i64 0] 62)) = W0 at *
  go_loopw [5] (fun v wr => ∃ (i : Nat) (A : Option Addr) (c2 : Nat), i ≤ n ∧ v = .int .i64 (i : Int) ∧ Hid (wr.heap[w.heap.size]? = some (.cells #[.slice A i c2, .int .i64 (-1), .bool false, .int .i64 0] 62 (0, 0))) ∧ Hid (Tw.Own wr W0.heap.size 129 33 A i c2 (rrow (List.replicate i c0))) ∧ Hid (Below w.heap.size w wr) ∧ Hid (W0.heap.size ≤ wr.heap.size)) (fun v _ => n - (intOf v).toNat)
  case atStart => exact ⟨0, none, 0, Nat.zero_le _, rfl, Hb0, Lib.hid (World.ownsRow_nil _ _ _ _), HB0, Lib.hid (Nat.le_refl _)⟩
  case round =>
    clear Hb0 HB0
    obtain ⟨i, A, c2, hi, rfl, HX, HO, HB, HS⟩ := hrel
    have hx := HX.out
    have k0 : wr.cell? ⟨w.heap.size, 0, none⟩ = some (.slice A i c2) := by simp [World.cell?, hx]
    clear hx
    by_cases hin : i < n
    · have HZ := Lib.hid (own_lit wr wr.heap.size 129 33 Z33 1 (Nat.le_refl _) (by simp [maxLen]) rfl)
      have HXa := Lib.hid (((Below.refl wr.heap.size wr).alloc (Nat.le_refl _) (.cells Z33 129)).block _ (heap_lt HX.out))
      have Hn := Lib.hid (rrow_new i)
      unfold Z33 at HZ HXa
      go_wp2_with (first
        | (at_builtin
           refine wpL_append _ rfl (.tmp 23) (.tmp 25) _ rfl wr W0.heap.size (bel_alloc (Below.refl _ _) HS.out _) (size_alloc_le HS.out _) 129 _ 33 33 Tryz.underlying60 info_cell rfl (by omega) _ _ _ (rrow (List.replicate i c0)) rfl (Tw.Own.bel HO.out ((Below.refl _ _).alloc (Nat.le_refl _) _)) _ 1 1 Z33.toList rfl HZ.out.rd z33_one (i + 1) (rrow (List.replicate (i + 1) c0)) rfl Hn.out.symm (by unfold maxLen; omega) (by omega) ?_
           intro A9 c9 w9 hown9 hb9 hg9 ho9
           have hs0 := Hs0.out
           have HO := Lib.hid hown9
           have hx9 := (hb9.block _ (by omega)).trans HX.out
           have HX9 := Lib.hid hx9
           have hsz := hb9.size
           have HS := Lib.hid (Nat.le_trans HS.out hsz)
           have HB := Lib.hid (HB.out.trans (hb9.mono (by omega)))
           have d0 : w9.cell? ⟨w.heap.size, 0, none⟩ = some (.slice A i c2) := by simp [World.cell?, hx9]
           clear hown9 hb9 hg9 ho9 hs0 hx9 hsz k0)
        | (refine wpL_store_slice rfl rfl 60 (.tmp 28) (.tmp 26) rfl w.heap.size 0 rfl _ _ _ rfl (by kernel_rfl) _ _ HX9.out (by simp) ?_
           intro w10 x10 g10
           have hs0 := Hs0.out
           have HX := Lib.hid x10
           have HO := Lib.hid (HO.out.kept g10 (own_apart HO.out (by rintro k ⟨⟩; omega)))
           have HS := Lib.hid (Nat.le_trans HS.out g10.size)
           have HB := Lib.hid (HB.out.grown g10 HB.out.size (by rintro k ⟨⟩; exact Nat.le_refl _))
           clear x10 g10 hs0 d0))
      go_roundw
      case rel => exact ⟨i + 1, A9, c9, by omega, by go_num, HX, HO, HB, HS⟩
      case measure => simp [intOf] <;> omega
    · obtain rfl : i = n := by omega
      go_wp2_with fail
      go_ret2
      obtain ⟨g, rfl, hg1, hg2⟩ := own_form0 HO.out (by omega)
      have hs := Hs0.out
      refine ⟨w.heap.size, g, c2, rfl, ⟨ok_new h1 h2, by simpa [Dsk.new] using HX.out, by simpa [Dsk.new] using Tw.Own.mono HO.out (Nat.zero_le _), by omega⟩, ⟨Nat.le_refl _, by omega⟩, HB.out⟩
end Go.Proofs.YtaldlapnhhhclaaGreat.Disk
/- A region that draws its order, whose operations turn blocks of several sets: by one fact for each operation, as in Region; each operation has a class, each class a set of blocks that it may turn. Conditions: none. -/
namespace Go.Proofs.YtaldlapnhhhclaaGreat.Tw
open Go.RowKit

def setOf (Sc : Nat → Nat → Prop) : List Nat → Nat → Prop
  | [], _ => False
  | c :: l, k => Sc c k ∨ setOf Sc l k
theorem setOf_mem {Sc : Nat → Nat → Prop} {c k : Nat} (h : Sc c k) : ∀ {l : List Nat}, c ∈ l → setOf Sc l k
  | d :: l, hm => by
    rcases List.mem_cons.1 hm with rfl | hm
    · exact .inl h
    · exact .inr (setOf_mem h hm)
  | [], hm => by cases hm
def clsL (c : Nat) : List Nat := if c = 0 then [] else [c]
theorem setOf_cls {Sc : Nat → Nat → Prop} {c k : Nat} (h : setOf Sc (clsL c) k) : c ≠ 0 ∧ Sc c k := by
  unfold clsL at h
  split at h
  · exact h.elim
  · rename_i hc
    rcases h with h | h
    · exact ⟨hc, h⟩
    · exact h.elim
def chkC (ops : Array Oper) (N : Nat) (cls : Nat → Nat) (tl ul : Nat → List Nat) (al : List Nat) : Bool :=
  ((List.range N).all fun i => (List.range N).all fun j => decide (cls j = 0) || j == i || ((ancB ops ops.size i j || (tl i).contains (cls j)) && (ancB ops ops.size j i || (ul i).contains (cls j)))) &&
  (List.range N).all fun j => decide (cls j = 0) || al.contains (cls j)

structure RFactsF (ops : Array Oper) (N : Nat) (a0 : Act) (w0 : World) (S : Nat → Prop) (a : Act) (w : World) : Prop where
  size : a.tmps.size = a0.tmps.size
  defers : a.defers = a0.defers
  fr : Fr S w0 w
  keep : ∀ s, (∀ i, i < N → dstOf ops i ≠ some s) → a.tmps.getD s undef = a0.tmps.getD s undef

theorem Fr.un1 {S : Nat → Prop} {w w' : World} (h : Fr (fun k => S k ∨ False) w w') : Fr S w w' := h.mono fun _ _ h => by
  rcases h with h | h
  · exact h
  · exact h.elim
theorem Fr.cls1 {S : Nat → Prop} {w w' : World} (h : Fr S w w') : Fr (fun k => S k ∨ False) w w' := h.mono fun _ _ h => .inl h

section
variable {P : Program} {ops : Array Oper} {Q : Exit → Act → World → Prop}
theorem wp_region_factsF {id : Nat} {a0 : Act} {w : World} (hm : P.follows .mixedOrders = true) (N : Nat) (cls : Nat → Nat) (Sc : Nat → Nat → Prop) (tl ul : Nat → List Nat) (al : List Nat) (Φ : Nat → Value → World → Prop)
    (hchk : chkR ops N a0.tmps.size = true) (hcc : chkC ops N cls tl ul al = true)
    (hstab : ∀ i, i < N → ∀ v w w', Φ i v w → Fr (setOf Sc (tl i)) w w' → Φ i v w')
    (h1 : ∀ i, i < N → ∀ a w', RFactsF ops N a0 w.drew (setOf Sc (ul i)) a w' → (∀ o, ops[i]? = some o → ∀ e ∈ o.after, Region.binds .any e = true → Φ e.on (slotV ops a e.on) w') →
      wpOp P ops Q i (fun a' w2 => ∃ v, a' = a.put (dstOf ops i) v ∧ Φ i v w2 ∧ Fr (setOf Sc (clsL (cls i))) w' w2) a w')
    (h2 : ∀ a w', RFactsF ops N a0 w.drew (setOf Sc al) a w' → (∀ i, i < N → Φ i (slotV ops a i) w') → wpList P ops Q (ops.toList.drop N) a w') :
    (Code.region id ops true).wp P Q a0 w := by
  simp only [chkC, Bool.and_eq_true, List.all_eq_true, List.mem_range] at hcc
  obtain ⟨hcc1, hcc2⟩ := hcc
  have htl : ∀ i, i < N → ∀ j, j < N → j ≠ i → cls j ≠ 0 → ancB ops ops.size i j = false → cls j ∈ tl i := by
    intro i hi j hj hij hc ha
    have := hcc1 i hi j hj
    simp [hc, hij, ha] at this
    exact this.1
  have hul : ∀ i, i < N → ∀ j, j < N → j ≠ i → cls j ≠ 0 → ancB ops ops.size j i = false → cls j ∈ ul i := by
    intro i hi j hj hij hc ha
    have := hcc1 i hi j hj
    simp [hc, hij, ha] at this
    exact this.2
  have hal : ∀ j, j < N → cls j ≠ 0 → cls j ∈ al := by
    intro j hj hc
    have := hcc2 j hj
    simp [hc] at this
    exact this
  simp only [chkR, Bool.and_eq_true, List.all_eq_true, List.mem_range, decide_eq_true_eq] at hchk
  obtain ⟨⟨⟨⟨hb0, hd0⟩, hs0⟩, ht0⟩, hN⟩ := hchk
  have hback : ∀ i o, ops[i]? = some o → ∀ e ∈ o.after, Region.binds .any e = true → e.on < i := by
    intro i o ho e he hb
    have hi : i < ops.size := (Array.getElem?_eq_some_iff.1 ho).1
    have := hb0 i hi
    simp only [ho, Array.all_eq_true_iff_forall_mem] at this
    have := this e he
    simpa [hb] using this
  have hdist : ∀ i, i < N → ∀ j, j < N → i ≠ j → ∀ d, dstOf ops i = some d → dstOf ops j ≠ some d := by
    intro i hi j hj hij d hd hd2
    rcases Nat.lt_or_gt_of_ne hij with hlt | hgt
    · have := hd0 j hj i hlt
      simp [hd, hd2] at this
    · have := hd0 i hi j hgt
      simp [hd, hd2] at this
  have hsz : ∀ i, i < N → ∀ d, dstOf ops i = some d → d < a0.tmps.size := by
    intro i hi d hd
    have := hs0 i hi
    simpa [hd] using this
  have hnn : ∀ i, i < N → dstOf ops i ≠ none := by
    intro i hi hd
    have := hs0 i hi
    simp [hd] at this
  have htail : ∀ k, N ≤ k → k < ops.size → ∀ j, j < k → ancB ops ops.size k j = true := by
    intro k hk hkl j hj
    have := ht0 k hkl
    simp only [Bool.or_eq_true, decide_eq_true_eq, List.all_eq_true, List.mem_range] at this
    rcases this with h | h
    · omega
    · exact h j hj
  have main : ∀ (fuel : Nat) (l : Array Bool), l.size = ops.size → unl l = fuel → (∀ k, N ≤ k → k < ops.size → l.getD k false = false) → (∀ i o, l.getD i false = true → ops[i]? = some o → ∀ e ∈ o.after, Region.binds .any e = true → l.getD e.on false = true) →
      ∀ a w', RFactsF ops N a0 w.drew (setOf Sc al) a w' → Fr (fun k => ∃ j, j < N ∧ l.getD j false = true ∧ cls j ≠ 0 ∧ Sc (cls j) k) w.drew w' → (∀ i, i < N → l.getD i false = true → Φ i (slotV ops a i) w') → wpAny P .any ops Q fuel l a w' := by
    intro fuel
    induction fuel with
    | zero =>
      intro l hl hu hnt hcl a w' hf hg0 hΦ
      have hall : ∀ i, i < ops.size → l.getD i false = true := fun i hi => unl_zero hu (by omega)
      have hNe : N = ops.size := by
        rcases Nat.lt_or_ge N ops.size with hlt | hge
        · have := hnt N (Nat.le_refl _) hlt
          rw [hall N hlt] at this
          cases this
        · omega
      refine any_tail htail hback 0 l N (Nat.le_refl _) hl hu (fun j hj => ⟨fun _ => by omega, fun _ => hall j hj⟩) a w' (h2 a w' hf fun i hi => hΦ i hi (hall i (by omega)))
    | succ fuel ih =>
      intro l hl hu hnt hcl a w' hf hg0 hΦ
      by_cases hpre : ∀ i, i < N → l.getD i false = true
      · refine any_tail htail hback (fuel + 1) l N (Nat.le_refl _) hl hu (fun j hj => ⟨fun hlj => ?_, fun hj => hpre j hj⟩) a w' (h2 a w' hf fun i hi => hΦ i hi (hpre i hi))
        rcases Nat.lt_or_ge j N with hlt | hge
        · exact hlt
        · rw [hnt j hge hj] at hlj; cases hlj
      · refine ⟨fun hr => ?_, fun i hi => ?_⟩
        · exact (hpre fun i hi => ready_nil_all hback hl hr (by omega)).elim
        · obtain ⟨g1, o, ho, he⟩ := mem_ready.1 hi
          obtain ⟨g2, g3⟩ := getD_of_false g1
          have hiN : i < N := by
            rcases Nat.lt_or_ge i N with hlt | hge
            · exact hlt
            · refine (hpre fun j hj => ?_).elim
              exact ready_anc hcl ho he (htail i hge (by omega) j (by omega))
          have hedge : ∀ o', ops[i]? = some o' → ∀ e ∈ o'.after, Region.binds .any e = true → Φ e.on (slotV ops a e.on) w' := by
            intro o' ho' e he' hb
            rw [ho] at ho'
            injection ho' with ho'
            subst ho'
            have hlt := hback i o ho e he' hb
            exact hΦ e.on (by omega) (he e he' hb)
          have hf' : RFactsF ops N a0 w.drew (setOf Sc (ul i)) a w' := by
            refine ⟨hf.size, hf.defers, hg0.mono (fun k _ hk => ?_), hf.keep⟩
            obtain ⟨j, hj, hlj, hcj, hs⟩ := hk
            refine setOf_mem hs (hul i hiN j hj (fun e => by subst e; rw [g3] at hlj; cases hlj) hcj ?_)
            cases hb : ancB ops ops.size j i with
            | false => rfl
            | true =>
              have := anc_listed hcl _ _ _ hlj hb
              rw [g3] at this
              cases this
          refine wpOp_mono ?_ (h1 i hiN a w' hf' hedge)
          rintro a' w2 ⟨v, rfl, hv, hg⟩
          refine ih _ (by simpa using hl) (by have := unl_set g1; omega) (fun k hk hks => ?_) (fun k ok hlk hok e hem hb => ?_) _ w2 ?_ ?_ ?_
          · rw [getD_set, if_neg (by omega)]
            exact hnt k hk hks
          · rw [getD_set] at hlk ⊢
            by_cases hik : i = k
            · subst hik
              rw [ho] at hok
              injection hok with hok
              subst hok
              split
              · rfl
              · exact he e hem hb
            · rw [if_neg (fun h => hik h.1)] at hlk
              split
              · rfl
              · exact hcl k ok hlk hok e hem hb
          · refine ⟨by rw [size_put]; exact hf.size, by rw [defers_put]; exact hf.defers, hf.fr.trans hg (fun k _ hk => by obtain ⟨hc, hs⟩ := setOf_cls hk; exact setOf_mem hs (hal i hiN hc)), fun s hs => ?_⟩
            rw [getD_put, if_neg (fun h => hs i hiN h.1)]
            exact hf.keep s hs
          · refine (hg0.mono (fun k _ hk => ?_)).trans hg (fun k _ hk => ?_)
            · obtain ⟨j, hj, hlj, hcj, hs⟩ := hk
              refine ⟨j, hj, ?_, hcj, hs⟩
              rw [getD_set]
              split
              · rfl
              · exact hlj
            · obtain ⟨hc, hs⟩ := setOf_cls hk
              exact ⟨i, hiN, by rw [getD_set, if_pos ⟨rfl, by omega⟩], hc, hs⟩
          · intro j hj hlj
            unfold slotV
            by_cases hij : i = j
            · subst hij
              cases hd : dstOf ops i with
              | none => exact (hnn i hiN hd).elim
              | some d =>
                dsimp only
                rw [getD_put, if_pos ⟨rfl, by rw [hf.size]; exact hsz i hiN d hd⟩]
                exact hv
            · rw [getD_set, if_neg (fun h => hij h.1)] at hlj
              have hanc : ancB ops ops.size j i = false := by
                cases hb : ancB ops ops.size j i with
                | false => rfl
                | true =>
                  have := anc_listed hcl _ _ _ hlj hb
                  rw [g3] at this
                  cases this
              have hg' : Fr (setOf Sc (tl j)) w' w2 := hg.mono (fun k _ hk => by
                obtain ⟨hc, hs⟩ := setOf_cls hk
                exact setOf_mem hs (htl j hj i hiN hij hc hanc))
              have hold := hstab j hj _ _ _ (hΦ j hj hlj) hg'
              unfold slotV at hold
              cases hd : dstOf ops j with
              | none => simp only [hd] at hold ⊢; exact hold
              | some d =>
                simp only [hd] at hold ⊢
                rw [getD_put, if_neg (fun h => hdist j hj i hiN (fun e => hij e.symm) d hd h.1)]
                exact hold
  refine wp_region_any hm ?_
  refine main ops.size _ (by simp) ?_ (fun k _ _ => ?_) (fun i o h => ?_) a0 _ ⟨rfl, rfl, Fr.refl _ _, fun _ _ => rfl⟩ (Fr.refl _ _) (fun i _ h => ?_)
  · show (Array.replicate ops.size false).toList.countP _ = _
    rw [Array.toList_replicate, List.countP_replicate]
    simp
  · simp [Array.getD]
  · simp [Array.getD] at h
  · simp [Array.getD] at h

theorem wp_region_fr {id : Nat} {a0 : Act} {w : World} (hm : P.follows .mixedOrders = true) (N : Nat) (cls : Nat → Nat) (Sc : Nat → Nat → Prop) (tl ul : Nat → List Nat) (al : List Nat) (Φ : Nat → Value → World → Prop)
    (hchk : chkR ops N a0.tmps.size = true) (hcc : chkC ops N cls tl ul al = true)
    (hstab : ∀ i, i < N → ∀ v w w', Φ i v w → Fr (setOf Sc (tl i)) w w' → Φ i v w')
    (h1 : ∀ i, i < N → ∀ a w', RFactsF ops N a0 w.drew (setOf Sc (ul i)) a w' → (∀ j, depB ops i j = true → Φ j (slotV ops a j) w') →
      wpOp P ops Q i (fun a' w2 => ∃ v, a' = a.put (dstOf ops i) v ∧ Φ i v w2 ∧ Fr (setOf Sc (clsL (cls i))) w' w2) a w')
    (h2 : ∀ a w', RFactsF ops N a0 w.drew (setOf Sc al) a w' → (∀ i, i < N → Φ i (slotV ops a i) w') → wpList P ops Q (ops.toList.drop N) a w') :
    (Code.region id ops true).wp P Q a0 w := by
  have hN : N ≤ ops.size := by
    simp only [chkR, Bool.and_eq_true, decide_eq_true_eq] at hchk
    exact hchk.2
  have hb0 : ∀ i, i < ops.size → ∀ o, ops[i]? = some o → ∀ e ∈ o.after, Region.binds .any e = true → e.on < i := by
    simp only [chkR, Bool.and_eq_true, List.all_eq_true, List.mem_range] at hchk
    intro i hi o ho e he hb
    have := hchk.1.1.1.1 i hi
    simp only [ho, Array.all_eq_true_iff_forall_mem] at this
    have := this e he
    simpa [hb] using this
  refine wp_region_factsF hm N cls Sc tl ul al (fun i v w => i < N → Φ i v w) hchk hcc (fun i _ v w w' h hg hi => hstab i hi v w w' (h hi) hg) (fun i hi a w' hf he => ?_) (fun a w' hf h => h2 a w' hf fun i hi => h i hi hi)
  refine wpOp_mono ?_ (h1 i hi a w' hf fun j hj => ?_)
  · rintro a' w2 ⟨v, h1, h2, h3⟩
    exact ⟨v, h1, fun _ => h2, h3⟩
  · unfold depB at hj
    split at hj
    · rename_i o ho
      rw [Array.any_eq_true'] at hj
      obtain ⟨e, hm2, hx⟩ := hj
      simp at hx
      obtain ⟨hx1, rfl⟩ := hx
      exact he o ho e hm2 hx1 (by have := hb0 i (by omega) o ho e hm2 hx1; omega)
    · cases hj
theorem RFactsF.var {N : Nat} {a0 a : Act} {w0 w : World} {S : Nat → Prop} (h : RFactsF ops N a0 w0 S a w) {s : Nat} {v : Value} (hk : keepB ops N s = true) (hv : a0.tmps.getD s undef = v) : a.tmps.getD s undef = v := by
  rw [← hv]
  refine h.keep s fun i hi hd => ?_
  simp only [keepB, List.all_eq_true, List.mem_range] at hk
  have := hk i hi
  simp [hd] at this
theorem RFactsF.lit {N : Nat} {a0 a : Act} {w0 w : World} {S : Nat → Prop} (h : RFactsF ops N a0 w0 S a w) (l : List (Nat × Value))
    (hc : ((List.range N).all fun i => (l.map (·.1)).any fun s => dstOf ops i == some s) = true) (hl : AllAt a l) : a = putAll l a0 := by
  have hsz : a.tmps.size = (putAll l a0).tmps.size := by rw [putAll_size, h.size]
  have ht : a.tmps = (putAll l a0).tmps := by
    refine Array.ext hsz fun i hi hi2 => ?_
    have := putAll_get a l a0 h.size.symm hl i ?_
    · simp [Array.getD, hi, hi2] at this
      exact this.symm
    · by_cases hk : ∀ k, k < N → dstOf ops k ≠ some i
      · exact .inl (h.keep i hk)
      · simp only [Classical.not_forall] at hk
        obtain ⟨k, hk, hd⟩ := hk
        have hd : dstOf ops k = some i := Classical.not_not.1 hd
        right
        simp only [List.all_eq_true, List.mem_range, List.any_eq_true, List.mem_map] at hc
        obtain ⟨s, ⟨p, hp, rfl⟩, hs⟩ := hc k hk
        rw [hd] at hs
        exact ⟨p, hp, Option.some.inj (beq_iff_eq.1 hs).symm⟩
  have hd : a.defers = (putAll l a0).defers := by rw [putAll_defers, h.defers]
  cases a
  cases hp : putAll l a0
  simp_all
theorem RFactsF.of_start {N : Nat} {a0 a : Act} {w w' : World} {S : Nat → Prop} (h : RFactsF ops N a0 w.drew S a w') : Fr S w w' := ⟨h.fr.os, h.fr.tape, h.fr.output, h.fr.size, fun k hk hn => h.fr.block k hk hn⟩
end
end Go.Proofs.YtaldlapnhhhclaaGreat.Tw
/- The disk and the reference's, both as one plain disk. Conditions: none. -/
namespace Go.Proofs.YtaldlapnhhhclaaGreat.Disk
open Go.RowKit Tw
set_option maxHeartbeats 400000
/-- the disk, and the reference's, both as D -/
structure Pr (w : World) (p g mb c q r c' : Nat) (D : Dsk) : Prop where
  dk : Dk w p g mb c D
  rk : Rk w q r c' D
  ne : (q ≠ p ∧ q ≠ g ∧ q ≠ mb) ∧ (r ≠ p ∧ r ≠ g ∧ r ≠ mb)
def PS (p g mb q r k : Nat) : Prop := (k = p ∨ k = g ∨ k = mb) ∨ (k = q ∨ k = r)
section
variable {w w' : World} {p g mb c q r c' : Nat} {D : Dsk}
theorem Pr.bel (h : Pr w p g mb c q r c' D) (hb : Below w.heap.size w w') : Pr w' p g mb c q r c' D := ⟨h.dk.bel hb, h.rk.bel hb, h.ne⟩
abbrev Apart (p g mb q r : Nat) : Prop := (q ≠ p ∧ q ≠ g ∧ q ≠ mb) ∧ (r ≠ p ∧ r ≠ g ∧ r ≠ mb)
theorem dkfr (h : Apart p g mb q r) {D' : Dsk} (hd : Dk w p g mb c D') (hf : Fr (fun k => k = q ∨ k = r) w w') : Dk w' p g mb c D' :=
  hd.fr hf (by omega) (by omega) (by omega)
theorem rkfr (h : Apart p g mb q r) {D' : Dsk} (hd : Rk w q r c' D') (hf : Fr (fun k => k = p ∨ k = g ∨ k = mb) w w') : Rk w' q r c' D' :=
  hd.fr hf (by omega) (by omega)
theorem fr_l (h : Fr (fun k => k = p ∨ k = g ∨ k = mb) w w') : Fr (PS p g mb q r) w w' := h.mono fun _ _ e => .inl e
theorem fr_r (h : Fr (fun k => k = q ∨ k = r) w w') : Fr (PS p g mb q r) w w' := h.mono fun _ _ e => .inr e
/-- what an act leaves: the same disk at both, one operation more at most -/
def Did (w w' : World) (p g mb c q r c' : Nat) (D : Dsk) : Prop := ∃ D', Pr w' p g mb c q r c' D' ∧ D'.ops ≤ D.ops + 1 ∧ D'.cells.length = D.cells.length ∧ Fr (PS p g mb q r) w w'
theorem spend_ops1 (d : Dsk) : d.spend.1.ops ≤ d.ops + 1 := by
  unfold Dsk.spend Dsk.burn
  (repeat' split) <;> simp_all
theorem write_facts (D : Dsk) (x : Int) (s : Sec) : (D.write x s).1.ops ≤ D.ops + 1 ∧ (D.write x s).1.cells.length = D.cells.length := by
  have ho := spend_ops1 D
  unfold Dsk.write
  split
  · split
    · exact ⟨ho, by simp [Dsk.put, spend_cells]⟩
    · exact ⟨ho, by rw [spend_cells]⟩
  · exact ⟨Nat.le_succ _, rfl⟩
theorem flush_facts (D : Dsk) : D.flush.1.ops ≤ D.ops + 1 ∧ D.flush.1.cells.length = D.cells.length := by
  have ho := spend_ops1 D
  unfold Dsk.flush
  split
  · exact ⟨ho, by simp [Dsk.allSafe, spend_cells]⟩
  · exact ⟨ho, by rw [spend_cells]⟩
end
end Go.Proofs.YtaldlapnhhhclaaGreat.Disk
/- Arguments of a law, opened: numbers as naturals in their range, a slice of bytes as a list. Conditions: none. -/
namespace Go.Proofs.YtaldlapnhhhclaaGreat.Tw
open Go.RowKit Go.ChangeShapes Go.WideShapes

theorem wf_u8 {z : Int} (h : (Lit.int .u8 z).wf = true) : ∃ x : Nat, z = (x : Int) ∧ x < 256 := by
  simp [Lit.wf, IntKind.min, IntKind.max, IntKind.bits, IntKind.signed] at h
  exact ⟨z.toNat, by omega, by omega⟩
theorem wf_u32 {z : Int} (h : (Lit.int .u32 z).wf = true) : ∃ x : Nat, z = (x : Int) ∧ x < 4294967296 := by
  simp [Lit.wf, IntKind.min, IntKind.max, IntKind.bits, IntKind.signed] at h
  exact ⟨z.toNat, by omega, by omega⟩
theorem wf_u64 {z : Int} (h : (Lit.int .u64 z).wf = true) : ∃ x : Nat, z = (x : Int) ∧ x < 18446744073709551616 := by
  simp [Lit.wf, IntKind.min, IntKind.max, IntKind.bits, IntKind.signed] at h
  exact ⟨z.toNat, by omega, by omega⟩
theorem wf_i64 {z : Int} (h : (Lit.int .i64 z).wf = true) : -9223372036854775808 ≤ z ∧ z ≤ 9223372036854775807 := by
  simp [Lit.wf, IntKind.min, IntKind.max, IntKind.bits, IntKind.signed] at h
  omega

section
variable {H : Type} {enc : TypeId × Value → H} {P : Program} {W : World} {base : Nat} {spare : Nat → Bool} {held : Bool}
theorem open_bytes {t e : TypeId} {A : Option Addr} {n c : Nat} {d : DataW H} {ps : List MemPlace} (ht : P.underlying t = some (.slice e)) (he : P.underlying e = some (.int .u8)) (hc : P.cellsOf e = 1)
    (h : DataW.Trod enc P W base spare held t (.slice A n c) d ps) : ∃ l, Byt W A n c l := by
  obtain ⟨fuel, hf⟩ := h
  rcases open_ints ht he hc hf with ⟨hcs, _⟩ | ⟨x, l, c', zs, hcs, _, hl, hm, hz, hx, hcell, hwf⟩
  · simp [Value.cells] at hcs
    obtain ⟨rfl, rfl, rfl⟩ := hcs
    exact ⟨[], Rd.nil_⟩
  · simp [Value.cells] at hcs
    obtain ⟨rfl, rfl, rfl⟩ := hcs
    have hnz : n ≤ zs.length := by rw [hz]; split <;> omega
    refine ⟨(zs.take n).map fun z => UInt8.ofNat z.toNat, ⟨by simp [bytesV]; omega, hl, hm, (fun e => by cases e), fun ad ha j u hu => ?_⟩⟩
    injection ha with ha
    subst ha
    obtain ⟨hj, hv⟩ := List.getElem?_eq_some_iff.1 hu
    simp [bytesV] at hj hv
    have hj2 : j < zs.length := by omega
    obtain ⟨q, hq, hq2⟩ := wf_u8 (hwf zs[j] (List.getElem_mem _))
    rw [hcell j hj2, ← hv]
    rw [show zs.getD j 0 = zs[j] by simp [List.getD, List.getElem?_eq_getElem hj2], hq]
    simp
    omega
theorem sized_bytes {t e : TypeId} {A : Option Addr} {n c : Nat} {d : DataW H} {ps : List MemPlace} {ts : List TypeId} {ds : List (DataW H)} {j : Nat}
    (hsz : (DataW.weightsEach P ts ds).all (· ≤ reachBytes) = true) (hj : ts[j]? = some t) (hd : ds[j]? = some d) (ht : P.underlying t = some (.slice e)) (he : P.underlying e = some (.int .u8)) (hc : P.cellsOf e = 1) (hB : P.bytesOf e = 1)
    (h : DataW.Trod enc P W base spare held t (.slice A n c) d ps) : n ≤ 140737488351232 := by
  obtain ⟨fuel, hf⟩ := h
  rcases open_ints ht he hc hf with ⟨hcs, _⟩ | ⟨x, l, c', zs, hcs, _, hl, _, hz, hx, _, _⟩
  · simp [Value.cells] at hcs
    obtain ⟨rfl, rfl, rfl⟩ := hcs
    simp
  · simp [Value.cells] at hcs
    obtain ⟨rfl, rfl, rfl⟩ := hcs
    obtain ⟨hx, _⟩ := Prod.mk.inj hx
    subst hx
    have z := sized_slice hsz hj hd ht
    rw [hB, Nat.mul_one] at z
    have hl2 : n ≤ zs.length := by rw [hz]; split <;> omega
    have h1 : (lits (H := H) .u8 (zs.take n)).length + (lits (H := H) .u8 (zs.drop n)).length = zs.length := by
      simp [lits]
      omega
    rw [h1] at z
    exact Nat.le_trans hl2 z
end
end Go.Proofs.YtaldlapnhhhclaaGreat.Tw
/- Arguments of a law opened by the shape of their type: numbers, bools, slices of bytes; arrays and structs of such. Conditions: none. -/
namespace Go.Proofs.YtaldlapnhhhclaaGreat.Tw
open Go.RowKit Go.ChangeShapes Go.WideShapes Go.Deep

/-- what a cell holds -/
inductive Leaf | int (k : IntKind) | bool | bytes
/-- the cells of a type, one by one -/
def flat (P : Program) : Nat → TypeId → Option (List Leaf)
  | 0, _ => none
  | n + 1, t => match P.underlying t with
    | some (.int k) => some [.int k]
    | some .bool => some [.bool]
    | some (.slice e) => match P.underlying e with
      | some (.int .u8) => if P.cellsOf e = 1 then some [.bytes] else none
      | _ => none
    | some (.array m e) => match flat P n e with
      | some L => if P.cellsOf e = L.length then some ((List.range m).flatMap fun _ => L) else none
      | none => none
    | some (.struct fs) => fs.toList.foldl (fun acc f => match acc, flat P n f.type with
      | some acc, some L => if f.offset = acc.length ∧ P.cellsOf f.type = L.length then some (acc ++ L) else none
      | _, _ => none) (some [])
    | _ => none
/-- the cell holds it -/
def LeafOk (W : World) : Leaf → Value → Prop
  | .int k, v => ∃ z, v = .int k z ∧ (Lit.int k z).wf = true
  | .bool, v => ∃ b, v = .bool b
  | .bytes, v => ∃ A n c l, v = .slice A n c ∧ Byt W A n c l
def RowOk (W : World) : List Leaf → List Value → Prop
  | [], [] => True
  | l :: L, v :: r => LeafOk W l v ∧ RowOk W L r
  | _, _ => False
theorem rowOk_nil {W : World} {r : List Value} (h : RowOk W [] r) : r = [] := by
  cases r with
  | nil => rfl
  | cons v r => exact h.elim
theorem rowOk_cons {W : World} {l : Leaf} {L : List Leaf} {r : List Value} (h : RowOk W (l :: L) r) : ∃ v r', r = v :: r' ∧ LeafOk W l v ∧ RowOk W L r' := by
  cases r with
  | nil => exact h.elim
  | cons v r => exact ⟨v, r, rfl, h.1, h.2⟩
theorem rowOk_len {W : World} : ∀ {L : List Leaf} {r : List Value}, RowOk W L r → r.length = L.length
  | [], r, h => by rw [rowOk_nil h]; rfl
  | l :: L, r, h => by
    obtain ⟨v, r', rfl, _, h2⟩ := rowOk_cons h
    simp [rowOk_len h2]
theorem rowOk_append {W : World} {M : List Leaf} {s : List Value} : ∀ {L : List Leaf} {r : List Value}, RowOk W L r → RowOk W M s → RowOk W (L ++ M) (r ++ s)
  | [], r, h, h2 => by rw [rowOk_nil h]; exact h2
  | l :: L, r, h, h2 => by
    obtain ⟨v, r', rfl, h3, h4⟩ := rowOk_cons h
    exact ⟨h3, rowOk_append h4 h2⟩
theorem rowOk_split {W : World} {M : List Leaf} : ∀ {L : List Leaf} {r : List Value}, RowOk W (L ++ M) r → ∃ a b, r = a ++ b ∧ RowOk W L a ∧ RowOk W M b
  | [], r, h => ⟨[], r, rfl, trivial, h⟩
  | l :: L, r, h => by
    obtain ⟨v, r', rfl, h3, h4⟩ := rowOk_cons h
    obtain ⟨a, b, rfl, h5, h6⟩ := rowOk_split h4
    exact ⟨v :: a, b, rfl, ⟨h3, h5⟩, h6⟩
/-- cells of bytes -/
theorem rowOk_u8s {W : World} : ∀ {m : Nat} {L : List Leaf} {r : List Value}, RowOk W (List.replicate m (.int .u8) ++ L) r → ∃ (b : List UInt8) (s : List Value), b.length = m ∧ r = bytesV b ++ s ∧ RowOk W L s
  | 0, L, r, h => ⟨[], r, rfl, rfl, by simpa using h⟩
  | m + 1, L, r, h => by
    rw [List.replicate_succ, List.cons_append] at h
    obtain ⟨v, r', rfl, ⟨z, rfl, hz⟩, h2⟩ := rowOk_cons h
    obtain ⟨b, s, hb, rfl, h3⟩ := rowOk_u8s h2
    obtain ⟨x, rfl, hx⟩ := wf_u8 hz
    refine ⟨UInt8.ofNat x :: b, s, by simp [hb], ?_, h3⟩
    rw [bytesV_cons, List.cons_append]
    congr 2
    simp
    omega
theorem leaf_i64 {W : World} {v : Value} (h : LeafOk W (.int .i64) v) : ∃ z : Int, v = .int .i64 z ∧ (-9223372036854775808 ≤ z ∧ z ≤ 9223372036854775807) := by
  obtain ⟨z, rfl, hz⟩ := h
  exact ⟨z, rfl, wf_i64 hz⟩
theorem leaf_u64 {W : World} {v : Value} (h : LeafOk W (.int .u64) v) : ∃ x : Nat, v = .int .u64 (x : Int) ∧ x < 18446744073709551616 := by
  obtain ⟨z, rfl, hz⟩ := h
  obtain ⟨x, rfl, hx⟩ := wf_u64 hz
  exact ⟨x, rfl, hx⟩
theorem leaf_u32 {W : World} {v : Value} (h : LeafOk W (.int .u32) v) : ∃ x : Nat, v = .int .u32 (x : Int) ∧ x < 4294967296 := by
  obtain ⟨z, rfl, hz⟩ := h
  obtain ⟨x, rfl, hx⟩ := wf_u32 hz
  exact ⟨x, rfl, hx⟩

section
variable {H : Type} {enc : TypeId × Value → H} {P : Program} {W : World} {base : Nat} {spare : Nat → Bool} {held : Bool}
theorem rowOk_flatMap {W : World} {L : List Leaf} (m : Nat) : ∀ (cs : List Value), cs.length = m * L.length → (∀ i, i < m → RowOk W L ((cs.drop (i * L.length)).take L.length)) → RowOk W ((List.range m).flatMap fun _ => L) cs := by
  induction m with
  | zero =>
    intro cs hl _
    obtain rfl : cs = [] := List.eq_nil_of_length_eq_zero (by simpa using hl)
    exact trivial
  | succ m ih =>
    intro cs hl h
    rw [List.range_succ, List.flatMap_append]
    have h1 := ih (cs.take (m * L.length)) (by rw [List.length_take, hl, Nat.succ_mul]; omega) (fun i hi => by
      have := h i (by omega)
      rw [List.drop_take, List.take_take]
      have h2 : (i + 1) * L.length ≤ m * L.length := Nat.mul_le_mul_right _ hi
      rw [Nat.succ_mul] at h2
      rw [show min L.length (m * L.length - i * L.length) = L.length from by omega]
      exact this)
    have h2 := h m (by omega)
    have h3 : cs = cs.take (m * L.length) ++ (cs.drop (m * L.length)).take L.length := by
      rw [List.take_of_length_le (l := cs.drop (m * L.length)) (by rw [List.length_drop, hl, Nat.succ_mul]; omega), List.take_append_drop]
    rw [h3]
    exact rowOk_append h1 (by simpa using h2)
theorem len_flat (L : List Leaf) (m : Nat) : ((List.range m).flatMap fun _ => L).length = m * L.length := by
  induction m with
  | zero => simp
  | succ m ih => rw [List.range_succ, List.flatMap_append, List.length_append, ih, Nat.succ_mul]; simp
theorem flat_ok : ∀ (n : Nat) {fuel : Nat} {t : TypeId} {cs : List Value} {x : DataW H × List MemPlace} {L : List Leaf}, flat P n t = some L → cs.length = P.cellsOf t ∨ True → DataW.trod enc P W base spare held fuel t cs = some x → P.cellsOf t = L.length → RowOk W L cs
  | 0, _, _, _, _, _, h, _, _, _ => by simp [flat] at h
  | n + 1, fuel, t, cs, x, L, h, _, hx, hc => by
    unfold flat at h
    split at h
    · rename_i k hu
      injection h with h
      subst h
      obtain ⟨z, rfl, _, hz⟩ := DataW.trod_int hu hx
      exact ⟨⟨z, rfl, hz⟩, trivial⟩
    · rename_i hu
      injection h with h
      subst h
      obtain ⟨z, rfl, _⟩ := DataW.trod_bool hu hx
      exact ⟨⟨z, rfl⟩, trivial⟩
    · rename_i e hu
      split at h
      · rename_i he
        split at h
        · rename_i hce
          injection h with h
          subst h
          rcases open_ints hu he hce hx with ⟨rfl, _⟩ | ⟨a, l, c', zs, rfl, _, hl, hm, hz, _, hcell, hwf⟩
          · exact ⟨⟨none, 0, 0, [], rfl, Rd.nil_⟩, trivial⟩
          · have hnz : l ≤ zs.length := by rw [hz]; split <;> omega
            refine ⟨⟨some a, l, c', (zs.take l).map fun z => UInt8.ofNat z.toNat, rfl, ⟨by simp [bytesV]; omega, hl, hm, (fun e => by cases e), fun ad ha j u hu => ?_⟩⟩, trivial⟩
            injection ha with ha
            subst ha
            obtain ⟨hj, hv⟩ := List.getElem?_eq_some_iff.1 hu
            simp [bytesV] at hj hv
            have hj2 : j < zs.length := by omega
            obtain ⟨q, hq, hq2⟩ := wf_u8 (hwf zs[j] (List.getElem_mem _))
            rw [hcell j hj2, ← hv]
            rw [show zs.getD j 0 = zs[j] by simp [List.getD, List.getElem?_eq_getElem hj2], hq]
            simp
            omega
        · cases h
      · cases h
    · rename_i m e hu
      split at h
      · rename_i L1 hL
        split at h
        · rename_i hce
          injection h with h
          subst h
          obtain ⟨xs, m2, _, _, hcl, hxl, hg⟩ := DataW.trod_array hu hx
          refine rowOk_flatMap m cs (by rw [hcl, hc, len_flat]) (fun i hi => ?_)
          have h1 := hg i hi
          rw [List.getElem?_eq_getElem (by omega), hce] at h1
          exact flat_ok n hL (.inr trivial) h1 hce
        · cases h
      · cases h
    · rename_i fs hu
      obtain ⟨xs, m2, _, _, hcl, hxl, hg⟩ := DataW.trod_struct hu hx
      have key : ∀ (l : List Field) (acc : List Leaf) (j : Nat), (∀ i f, l[i]? = some f → fs[j + i]? = some f) → j + l.length = fs.size → RowOk W acc (cs.take acc.length) → acc.length ≤ cs.length →
          l.foldl (fun acc f => match acc, flat P n f.type with | some acc, some L => if f.offset = acc.length ∧ P.cellsOf f.type = L.length then some (acc ++ L) else none | _, _ => none) (some acc) = some L → RowOk W L (cs.take L.length) := by
        intro l
        induction l with
        | nil =>
          intro acc j _ _ hr _ hf
          injection hf with hf
          subst hf
          exact hr
        | cons f l ih =>
          intro acc j hj hjl hr hal hf
          rw [List.foldl_cons] at hf
          have hfn : ∀ (l : List Field), l.foldl (fun (acc : Option (List Leaf)) f => match acc, flat P n f.type with | some acc, some L => if f.offset = acc.length ∧ P.cellsOf f.type = L.length then some (acc ++ L) else none | _, _ => none) none = none := by
            intro l
            induction l with
            | nil => rfl
            | cons g l ih2 => exact ih2
          cases hL : flat P n f.type with
          | none => rw [hL] at hf; simp only [hfn] at hf; cases hf
          | some L1 =>
            rw [hL] at hf
            simp only at hf
            by_cases hc2 : f.offset = acc.length ∧ P.cellsOf f.type = L1.length
            · rw [if_pos hc2] at hf
              have h1 := hg j f (hj 0 f rfl)
              have hjs : j < xs.length := by rw [hxl]; simp at hjl; omega
              rw [List.getElem?_eq_getElem hjs, hc2.1, hc2.2] at h1
              have h2 := flat_ok n hL (.inr trivial) h1 hc2.2
              have h3 := rowOk_len h2
              have h4 : acc.length + L1.length ≤ cs.length := by
                rw [List.length_take, List.length_drop] at h3
                omega
              refine ih (acc ++ L1) (j + 1) (fun i g hi => by rw [Nat.add_assoc, Nat.add_comm 1]; exact hj (i + 1) g hi) (by simp at hjl; omega) ?_ (by simpa using h4) hf
              rw [List.length_append, List.take_add]
              exact rowOk_append hr h2
            · rw [if_neg hc2, hfn] at hf
              cases hf
      have := key fs.toList [] 0 (fun i f hi => by simpa using hi) (by simp) trivial (Nat.zero_le _) h
      rwa [List.take_of_length_le (by omega)] at this
    · cases h

theorem all_choose {α : Type} {n : Nat} {p : Nat → α → Prop} (h : ∀ i, i < n → ∃ x, p i x) : ∃ l : List α, l.length = n ∧ ∀ i x, l[i]? = some x → p i x := by
  induction n with
  | zero => exact ⟨[], rfl, fun i x h => by simp at h⟩
  | succ n ih =>
    obtain ⟨l, hl, h1⟩ := ih fun i hi => h i (by omega)
    obtain ⟨x, hx⟩ := h n (by omega)
    refine ⟨l ++ [x], by simp [hl], fun i y hy => ?_⟩
    rcases Nat.lt_or_ge i n with hlt | hge
    · rw [List.getElem?_append_left (by omega)] at hy
      exact h1 i y hy
    · have hi : i = n := by
        have := (List.getElem?_eq_some_iff.1 hy).1
        simp at this
        omega
      subst hi
      rw [List.getElem?_append_right (by omega)] at hy
      simp [hl] at hy
      subst hy
      exact hx
/-- a slice: its elements' rows -/
theorem open_rows {t e : TypeId} {A : Option Addr} {n c : Nat} {d : DataW H} {ps : List MemPlace} (k : Nat) {L : List Leaf} (ht : P.underlying t = some (.slice e)) (hL : flat P k e = some L) (hc : P.cellsOf e = L.length)
    (h : DataW.Trod enc P W base spare held t (.slice A n c) d ps) : ∃ rows : List (List Value), rows.length = n ∧ n ≤ c ∧ c ≤ maxLen ∧ (∀ (i : Nat) (r : List Value), rows[i]? = some r → RowOk W L r) ∧ (A = none → c = 0) ∧ ∀ ad, A = some ad → ∀ (i : Nat) (r : List Value), rows[i]? = some r → ∀ (j : Nat) (v : Value), r[j]? = some v → W.cell? (ad.add (i * L.length + j)) = some v := by
  obtain ⟨fuel, hf⟩ := h
  rcases open_slice ht hf with ⟨hcs, _⟩ | ⟨a, len, cap, m, q, D, Pl, hcs, hb, hl, hm, hmm, hx, hi⟩
  · simp [Value.cells] at hcs
    obtain ⟨rfl, rfl, rfl⟩ := hcs
    exact ⟨[], rfl, Nat.le_refl _, Nat.zero_le _, fun i r h => by simp at h, fun _ => rfl, fun ad e => by cases e⟩
  · simp [Value.cells] at hcs
    obtain ⟨rfl, rfl, rfl⟩ := hcs
    have hlm : n ≤ m := by rw [hmm]; split <;> omega
    obtain ⟨rows, hrl, hr⟩ := all_choose (n := n) (p := fun (i : Nat) (r : List Value) => RowOk W L r ∧ ∀ (j : Nat) (v : Value), r[j]? = some v → W.cell? (a.add (i * L.length + j)) = some v) (fun i hin => by
      obtain ⟨cs', hc', ht'⟩ := hi i (by omega)
      have h1 := flat_ok k hL (.inr trivial) ht' hc
      rw [hc] at hc'
      obtain ⟨_, hcl, hat⟩ := World.cells?_some hc'
      refine ⟨cs', h1, fun j v hj => ?_⟩
      have hjl := (List.getElem?_eq_some_iff.1 hj).1
      have h2 := hat j (by omega)
      rw [add_add, hj] at h2
      exact h2)
    exact ⟨rows, hrl, hl, hm, fun i r h => (hr i r h).1, (fun e => by cases e), fun ad e i r h j v hj => (by injection e with e; subst e; exact (hr i r h).2 j v hj)⟩
/-- a struct or an array by value: its row -/
theorem open_agg {r : Reach} {base2 : Nat} {t : TypeId} {v : Value} {d : DataW H} {ps : List MemPlace} (k : Nat) {L : List Leaf} (hL : flat P k t = some L) (hc : P.cellsOf t = L.length) (ht : (P.underlying t).map (·.isRow) = some true)
    (hv : Value.okWide P W r base2 t v) (h : DataW.Trod enc P W base spare held t v d ps) : ∃ cs : List Value, v = .agg cs.toArray ∧ RowOk W L cs := by
  have hagg : ∃ cs, v = .agg cs := by
    cases hu : P.underlying t with
    | none => simp [hu] at ht
    | some u =>
      cases u <;> simp [hu, TypeDesc.isRow] at ht
      all_goals
        simp only [Value.okWide, hu] at hv
        obtain ⟨cs, h1, _⟩ := hv
        exact ⟨cs, h1⟩
  obtain ⟨cs, rfl⟩ := hagg
  obtain ⟨fuel, hf⟩ := h
  have hf2 : DataW.trod enc P W base spare held fuel t cs.toList = some (d, ps) := hf
  exact ⟨cs.toList, by simp, flat_ok k hL (.inr trivial) hf2 hc⟩
end
end Go.Proofs.YtaldlapnhhhclaaGreat.Tw
/- Slices of structs that came in: their elements' cells. Conditions: none. -/
namespace Go.Proofs.YtaldlapnhhhclaaGreat.Tw
open Go.RowKit
/-- The slice reads as rows of k cells each. -/
structure SlRows (w : World) (k : Nat) (A : Option Addr) (n c : Nat) (rows : List (List Value)) : Prop where
  len : rows.length = n
  le : n ≤ c
  cap : c ≤ maxLen
  nil : A = none → c = 0
  wide : ∀ (i : Nat) (r : List Value), rows[i]? = some r → r.length = k
  cell : ∀ ad, A = some ad → ∀ (i : Nat) (r : List Value), rows[i]? = some r → ∀ (j : Nat) (v : Value), r[j]? = some v → w.cell? ((ad.add (i * k)).add j) = some v
section
variable {w w' : World} {k n c : Nat} {A : Option Addr} {rows : List (List Value)}
theorem SlRows.bel (h : SlRows w k A n c rows) (hb : Below w.heap.size w w') : SlRows w' k A n c rows :=
  ⟨h.len, h.le, h.cap, h.nil, h.wide, fun ad e i r hr j v hv => by
    have hc := h.cell ad e i r hr j v hv
    rw [hb.cell (block_lt_of_cell hc)]
    exact hc⟩
theorem SlRows.at (h : SlRows w k A n c rows) {i : Nat} (hi : i < n) : ∃ ad r, A = some ad ∧ rows[i]? = some r ∧ r.length = k ∧ ∀ (j : Nat) (v : Value), r[j]? = some v → w.cell? ((ad.add (i * k)).add j) = some v := by
  have hl : i < rows.length := by rw [h.len]; exact hi
  have hr : rows[i]? = some rows[i] := List.getElem?_eq_getElem hl
  cases hA : A with
  | none => have := h.nil hA; have := h.le; omega
  | some ad => exact ⟨ad, _, rfl, hr, h.wide i _ hr, h.cell ad hA i _ hr⟩
end
section
open Go.ChangeShapes Go.WideShapes Go.Deep
variable {H : Type} {enc : TypeId × Value → H} {P : Program} {W : World} {base : Nat} {spare : Nat → Bool} {held : Bool}
theorem open_slrows {t e : TypeId} {A : Option Addr} {n c : Nat} {d : DataW H} {ps : List MemPlace} (k : Nat) {L : List Leaf} (ht : P.underlying t = some (.slice e)) (hL : flat P k e = some L) (hc : P.cellsOf e = L.length)
    (h : DataW.Trod enc P W base spare held t (.slice A n c) d ps) : ∃ rows : List (List Value), SlRows W L.length A n c rows ∧ ∀ (i : Nat) (r : List Value), rows[i]? = some r → RowOk W L r := by
  obtain ⟨rows, h1, h2, h3, h4, h5, h6⟩ := open_rows k ht hL hc h
  exact ⟨rows, ⟨h1, h2, h3, h5, fun i r hr => rowOk_len (h4 i r hr), fun ad e i r hr j v hv => by rw [add_add]; exact h6 ad e i r hr j v hv⟩, h4⟩
end
end Go.Proofs.YtaldlapnhhhclaaGreat.Tw
/- The sum of Ethernet on naturals: one bit, one byte, any bytes; it is linear, and one to one. Conditions: none. -/
namespace Go.Proofs.YtaldlapnhhhclaaGreat.Crc

/-- one bit -/
def b1 (x : Nat) : Nat := if x % 2 = 1 then (x / 2) ^^^ 3988292384 else x / 2
def bn : Nat → Nat → Nat
  | 0, x => x
  | n + 1, x => bn n (b1 x)
theorem bn_succ (n x : Nat) : bn (n + 1) x = b1 (bn n x) := by
  induction n generalizing x with
  | zero => rfl
  | succ n ih => rw [bn, ih]; rfl
theorem bn_add (n m x : Nat) : bn (n + m) x = bn m (bn n x) := by
  induction n generalizing x with
  | zero => simp [bn]
  | succ n ih => rw [show n + 1 + m = (n + m) + 1 from by omega, bn, ih]; rfl
/-- one byte -/
def step (x c : Nat) : Nat := bn 8 (x ^^^ c)
/-- any bytes -/
def run (x : Nat) (l : List UInt8) : Nat := l.foldl (fun x c => step x c.toNat) x
def sum (l : List UInt8) : Nat := run 4294967295 l ^^^ 4294967295

theorem xor_lt {a b : Nat} (n : Nat) (ha : a < 2 ^ n) (hb : b < 2 ^ n) : a ^^^ b < 2 ^ n := Nat.xor_lt_two_pow ha hb
theorem b1_lt {x : Nat} (h : x < 4294967296) : b1 x < 4294967296 := by
  unfold b1
  split
  · exact xor_lt 32 (by omega) (by omega)
  · omega
theorem bn_lt {n x : Nat} (h : x < 4294967296) : bn n x < 4294967296 := by
  induction n generalizing x with
  | zero => exact h
  | succ n ih => exact ih (b1_lt h)
theorem step_lt {x c : Nat} (h : x < 4294967296) (hc : c < 4294967296) : step x c < 4294967296 := bn_lt (xor_lt 32 h hc)
theorem run_lt {x : Nat} (h : x < 4294967296) (l : List UInt8) : run x l < 4294967296 := by
  induction l generalizing x with
  | nil => exact h
  | cons c l ih => exact ih (step_lt h (by have := c.toNat_lt; omega))
theorem sum_lt (l : List UInt8) : sum l < 4294967296 := xor_lt 32 (run_lt (by omega) l) (by omega)

theorem b1_xor (x y : Nat) : b1 (x ^^^ y) = b1 x ^^^ b1 y := by
  have hm : (x ^^^ y) % 2 = (x % 2) ^^^ (y % 2) := Nat.xor_mod_two_pow (n := 1)
  have hd : (x ^^^ y) / 2 = x / 2 ^^^ y / 2 := Nat.xor_div_two
  have e1 : (0 ^^^ 0 : Nat) = 0 := rfl
  have e2 : (0 ^^^ 1 : Nat) = 1 := rfl
  have e3 : (1 ^^^ 0 : Nat) = 1 := rfl
  have e4 : (1 ^^^ 1 : Nat) = 0 := rfl
  unfold b1
  rw [hm, hd]
  rcases Nat.mod_two_eq_zero_or_one x with hx | hx <;> rcases Nat.mod_two_eq_zero_or_one y with hy | hy <;> simp only [hx, hy, e1, e2, e3, e4]
  · rfl
  · simp only [if_true, if_neg (show ¬ (0 : Nat) = 1 by omega)]
    rw [Nat.xor_assoc]
  · simp only [if_true, if_neg (show ¬ (0 : Nat) = 1 by omega)]
    rw [Nat.xor_assoc, Nat.xor_comm (y / 2), ← Nat.xor_assoc]
  · simp only [if_true, if_neg (show ¬ (0 : Nat) = 1 by omega)]
    rw [Nat.xor_assoc, Nat.xor_comm (y / 2), ← Nat.xor_assoc 3988292384, Nat.xor_self, Nat.zero_xor]
theorem bn_xor (n x y : Nat) : bn n (x ^^^ y) = bn n x ^^^ bn n y := by
  induction n generalizing x y with
  | zero => rfl
  | succ n ih => simp only [bn, b1_xor, ih]
theorem bn_zero (n : Nat) : bn n 0 = 0 := by
  induction n with
  | zero => rfl
  | succ n ih => exact ih
theorem bn_shift (n x : Nat) : bn n (2 ^ n * x) = x := by
  induction n generalizing x with
  | zero => simp [bn]
  | succ n ih =>
    have h1 : 2 ^ (n + 1) * x = 2 * (2 ^ n * x) := by rw [Nat.pow_succ, Nat.mul_comm (2 ^ n) 2, Nat.mul_assoc]
    rw [bn, show b1 (2 ^ (n + 1) * x) = 2 ^ n * x from by unfold b1; rw [h1]; simp, ih]

/-- four bits at once -/
def tab (n : Nat) : Nat := bn 4 n
theorem four (x : Nat) : bn 4 x = (x / 16) ^^^ tab (x % 16) := by
  have hx : x = (2 ^ 4 * (x / 16)) ^^^ (x % 16) := by
    have h1 := Nat.two_pow_add_eq_or_of_lt (i := 4) (b := x % 16) (by omega) (x / 16)
    have h2 : 2 ^ 4 * (x / 16) + x % 16 = x := by omega
    have h3 : (2 ^ 4 * (x / 16)) &&& (x % 16) = 0 := by
      apply Nat.eq_of_testBit_eq
      intro i
      rw [Nat.testBit_and, Nat.testBit_two_pow_mul, Nat.zero_testBit]
      by_cases hi : 4 ≤ i
      · have : (x % 16).testBit i = false := Nat.testBit_lt_two_pow (Nat.lt_of_lt_of_le (show x % 16 < 2 ^ 4 by omega) (Nat.pow_le_pow_right (by omega) hi))
        simp [this]
      · simp [hi]
    apply Nat.eq_of_testBit_eq
    intro i
    have h4 : ((2 ^ 4 * (x / 16)).testBit i && (x % 16).testBit i) = false := by rw [← Nat.testBit_and, h3, Nat.zero_testBit]
    have h5 : x.testBit i = ((2 ^ 4 * (x / 16)).testBit i || (x % 16).testBit i) := by rw [← Nat.testBit_or, ← h1, h2]
    rw [h5, Nat.testBit_xor]
    revert h4
    generalize (2 ^ 4 * (x / 16)).testBit i = A
    generalize (x % 16).testBit i = B
    cases A <;> cases B <;> simp
  rw [hx]
  conv => lhs; rw [bn_xor, bn_shift]
  rw [← hx]
  rfl

theorem b1_inj {x y : Nat} (hx : x < 4294967296) (hy : y < 4294967296) (h : b1 x = b1 y) : x = y := by
  have top : ∀ z, z < 2147483648 → 2147483648 ≤ z ^^^ 3988292384 := by
    intro z hz
    have h1 : (z ^^^ 3988292384).testBit 31 = true := by
      rw [Nat.testBit_xor, Nat.testBit_lt_two_pow (show z < 2 ^ 31 by omega)]
      decide
    exact Nat.ge_two_pow_of_testBit h1
  unfold b1 at h
  split at h <;> split at h
  · have h2 : (x / 2 ^^^ 3988292384) ^^^ 3988292384 = (y / 2 ^^^ 3988292384) ^^^ 3988292384 := by rw [h]
    rw [Nat.xor_assoc, Nat.xor_assoc, Nat.xor_self, Nat.xor_zero, Nat.xor_zero] at h2
    omega
  · have := top (x / 2) (by omega); omega
  · have := top (y / 2) (by omega); omega
  · omega
theorem bn_inj {n x y : Nat} (hx : x < 4294967296) (hy : y < 4294967296) (h : bn n x = bn n y) : x = y := by
  induction n generalizing x y with
  | zero => exact h
  | succ n ih => exact b1_inj hx hy (ih (b1_lt hx) (b1_lt hy) h)
end Go.Proofs.YtaldlapnhhhclaaGreat.Crc
/- Contracts of the sum of Ethernet, and of its reference. Conditions: none. -/
namespace Go.Proofs.YtaldlapnhhhclaaGreat.Crc
open Go.RowKit Tw
set_option maxHeartbeats 400000

theorem half_tab {k : Nat} (h : k < 16) : [Value.int .u32 0, Value.int .u32 498536548, Value.int .u32 997073096, Value.int .u32 651767980, Value.int .u32 1994146192, Value.int .u32 1802195444, Value.int .u32 1303535960, Value.int .u32 1342533948, Value.int .u32 3988292384, Value.int .u32 4027552580, Value.int .u32 3604390888, Value.int .u32 3412177804, Value.int .u32 2607071920, Value.int .u32 2262029012, Value.int .u32 2685067896, Value.int .u32 3183342108][k]? = some (Value.int .u32 (tab k : Nat)) := by
  obtain rfl | rfl | rfl | rfl | rfl | rfl | rfl | rfl | rfl | rfl | rfl | rfl | rfl | rfl | rfl | rfl : k = 0 ∨ k = 1 ∨ k = 2 ∨ k = 3 ∨ k = 4 ∨ k = 5 ∨ k = 6 ∨ k = 7 ∨ k = 8 ∨ k = 9 ∨ k = 10 ∨ k = 11 ∨ k = 12 ∨ k = 13 ∨ k = 14 ∨ k = 15 := by omega
  all_goals rfl

theorem c_half (n : Nat) (hn : n < 256) (X : Int) (hX : X = (n : Int)) (w : World) : Calls Tryz.prog 225 #[.int .u8 X] w fun e w' => e = .returned (.int .u32 (tab (n % 16) : Nat)) ∧ Below w.heap.size w w' := by
  subst hX
  have hT := half_tab (k := n % 16) (by omega)
  generalize tab (n % 16) = tn at *
  go_enter Tryz.func225, Tryz.ntmps225
  go_wp2
  go_ret
  exact ⟨rfl, (Below.refl _ _).alloc (Nat.le_refl _) _⟩

theorem c_rStep (x c : Nat) (hx : x < 4294967296) (hc : c < 256) (w : World) : Calls Tryz.prog 213 #[.int .u32 (x : Int), .int .u8 (c : Int)] w fun e w' => e = .returned (.int .u32 (step x c : Nat)) ∧ w = w' := by
  have hxc := u32_xor_nat x c hx (by omega)
  have hlt : x ^^^ c < 4294967296 := xor_lt 32 hx (by omega)
  unfold step
  generalize x ^^^ c = z at *
  go_enter Tryz.func213, Tryz.ntmps213
  go_wp2
  go_loop [0, 5] (fun v i => ∃ k y : Nat, k ≤ 8 ∧ i = .int .i64 (k : Int) ∧ v = .int .u32 (y : Int) ∧ Hid (y = bn k z)) (fun _ i => 8 - (intOf i).toNat)
  case atStart => exact ⟨0, z, by omega, rfl, by first | rfl | rw [hxc], Lib.hid rfl⟩
  case round =>
    obtain ⟨k, y, hk, rfl, rfl, hy⟩ := hrel
    have hyl : y < 4294967296 := by rw [hy.out]; exact bn_lt hlt
    by_cases hk8 : k < 8
    · by_cases hb : y % 2 = 1
      · have hb1 : (((y : Int) % 2) == 1) = true := by simp; omega
        have hq : bits .xor .u32 ((y : Int) / 2) 3988292384 = ((y / 2 ^^^ 3988292384 : Nat) : Int) := u32_xor_nat (y / 2) 3988292384 (by omega) (by omega)
        have hstep : y / 2 ^^^ 3988292384 = b1 y := by unfold b1; rw [if_pos hb]
        rw [hstep] at hq
        have HS := hy
        go_wp2
        go_round
        case rel => exact ⟨k + 1, b1 y, by omega, by go_num, by first | rfl | rw [hq], Lib.hid (by rw [bn_succ, hy.out])⟩
        case measure => simp [intOf] <;> omega
      · have hb1 : (((y : Int) % 2) == 1) = false := by simp; omega
        have hstep : y / 2 = b1 y := by unfold b1; rw [if_neg hb]
        have Hs := Lib.hid hstep
        clear hstep
        go_wp2
        go_round
        case rel => exact ⟨k + 1, y / 2, by omega, by go_num, by first | rfl | simp, Lib.hid (by rw [bn_succ, ← hy.out, Hs.out])⟩
        case measure => simp [intOf] <;> omega
    · go_wp2
      go_ret
      have h8 : y = bn 8 z := by have h := hy.out; rwa [show k = 8 from by omega] at h
      exact ⟨by rw [← h8]; rfl, rfl⟩

theorem c_Step (x c : Nat) (hx : x < 4294967296) (hc : c < 256) (w : World) : Calls Tryz.prog 224 #[.int .u32 (x : Int), .int .u8 (c : Int)] w fun e w' => e = .returned (.int .u32 (step x c : Nat)) ∧ Below w.heap.size w w' := by
  have hxc := u32_xor_nat x c hx (by omega)
  have hlt : x ^^^ c < 4294967296 := xor_lt 32 hx (by omega)
  unfold step
  generalize x ^^^ c = z at *
  go_enter Tryz.func224, Tryz.ntmps224
  go_wp2_with fail
  go_loopw [0, 9] (fun v i wr => ∃ k y : Nat, k ≤ 2 ∧ i = .int .i64 (k : Int) ∧ v = .int .u32 (y : Int) ∧ Hid (y = bn (4 * k) z) ∧ Below w.heap.size w wr) (fun _ i _ => 2 - (intOf i).toNat)
  case atStart => exact ⟨0, z, by omega, rfl, by first | rfl | rw [hxc], Lib.hid rfl, Below.refl _ _⟩
  case round =>
    obtain ⟨k, y, hk, rfl, rfl, hy, hB⟩ := hrel
    have hyl : y < 4294967296 := by rw [hy.out]; exact bn_lt hlt
    by_cases hk2 : k < 2
    · have htl : tab (y % 256 % 16) < 4294967296 := bn_lt (by omega)
      rw [show y % 256 % 16 = y % 16 from by omega] at htl
      have hq : bits .xor .u32 ((y : Int) / 16) (tab (y % 16) : Nat) = ((y / 16 ^^^ tab (y % 16) : Nat) : Int) := u32_xor_nat (y / 16) _ (by omega) htl
      have hstep : y / 16 ^^^ tab (y % 16) = bn 4 y := by rw [four]
      rw [hstep] at hq
      go_wp2_with (first
        | (go_at_call 225
           (with_reducible refine (c_half (y % 256) (by omega) _ (by omega) _).mono ?_)
           rintro e w1 ⟨rfl, hb1⟩))
      go_roundw
      case rel => exact ⟨k + 1, bn 4 y, by omega, by go_num, by first | rfl | rw [hq], Lib.hid (by rw [show 4 * (k + 1) = 4 * k + 4 from by omega, bn_add, hy.out]), hB.trans ⟨hb1.os, hb1.tape, hb1.output, hb1.size, fun i hi => hb1.block i (Nat.lt_of_lt_of_le hi hB.size)⟩⟩
      case measure => simp [intOf] <;> omega
    · go_wp2_with fail
      go_ret
      have h8 : y = bn 8 z := by have h := hy.out; rwa [show k = 2 from by omega] at h
      exact ⟨by rw [← h8]; rfl, hB⟩

theorem run_snoc (x : Nat) (l : List UInt8) (c : UInt8) : run x (l ++ [c]) = step (run x l) c.toNat := by simp [run]

theorem take_snoc {l : List UInt8} {k : Nat} {z : UInt8} (h : l[k]? = some z) : l.take (k + 1) = l.take k ++ [z] := by
  obtain ⟨hl, rfl⟩ := List.getElem?_eq_some_iff.1 h
  rw [List.take_succ_eq_append_getElem hl]
theorem c_More (s : Nat) (hs : s < 4294967296) (A : Option Addr) (n c : Nat) (b : List UInt8) (w : World) (hb : Byt w A n c b) : Calls Tryz.prog 222 #[.int .u32 (s : Int), .slice A n c] w fun e w' => e = .returned (.int .u32 (run (s ^^^ 4294967295) b ^^^ 4294967295 : Nat)) ∧ Below w.heap.size w w' := by
  have hn := hb.le
  have hc := hb.cap
  have hbl := hb.blen
  unfold maxLen at hc
  have hxs : bits .xor .u32 (s : Int) 4294967295 = ((s ^^^ 4294967295 : Nat) : Int) := u32_xor_nat s 4294967295 hs (by omega)
  have hsl : s ^^^ 4294967295 < 4294967296 := xor_lt 32 hs (by omega)
  generalize s ^^^ 4294967295 = s0 at *
  have Hb := Lib.hid hb
  clear hb
  go_enter Tryz.func222, Tryz.ntmps222
  go_wp2_with fail
  go_loopw [5, 11] (fun v i wr => ∃ k y : Nat, k ≤ n ∧ i = .int .i64 (k : Int) ∧ v = .int .u32 (y : Int) ∧ Hid (y = run s0 (b.take k)) ∧ Below w.heap.size w wr) (fun _ i _ => n - (intOf i).toNat)
  case atStart => exact ⟨0, s0, by omega, rfl, by first | rfl | rw [hxs], Lib.hid rfl, Below.refl _ _⟩
  case round =>
    obtain ⟨k, y, hk, rfl, rfl, hy, hB⟩ := hrel
    have hyl : y < 4294967296 := by rw [hy.out]; exact run_lt hsl _
    by_cases hkn : k < n
    · obtain ⟨ad, q, rfl, hq, hcell, hq256⟩ := (Hb.out.below hB (Nat.le_refl _)).atB hkn
      go_wp2_with (first
        | (go_at_call 224
           (with_reducible refine (c_Step y q.toNat hyl hq256 _).mono ?_)
           rintro e w1 ⟨rfl, hb1⟩
           have hB2 := hB.trans ⟨hb1.os, hb1.tape, hb1.output, hb1.size, fun i hi => hb1.block i (Nat.lt_of_lt_of_le hi hB.size)⟩))
      go_roundw
      case rel => exact ⟨k + 1, _, by omega, by go_num, rfl, Lib.hid (by rw [take_snoc hq.out, run_snoc, ← hy.out]), hB2⟩
      case measure => simp [intOf] <;> omega
    · have hkn : k = n := by omega
      have hy2 : run s0 b = y := by have h := hy.out; rw [List.take_of_length_le (by omega)] at h; exact h.symm
      have hyx : bits .xor .u32 (y : Int) 4294967295 = ((y ^^^ 4294967295 : Nat) : Int) := u32_xor_nat y 4294967295 hyl (by omega)
      go_wp2_with fail
      go_ret
      exact ⟨by rw [hy2, ← hyx]; rfl, hB⟩
theorem c_rMore (s : Nat) (hs : s < 4294967296) (A : Option Addr) (n c : Nat) (b : List UInt8) (w : World) (hb : Byt w A n c b) : Calls Tryz.prog 195 #[.int .u32 (s : Int), .slice A n c] w fun e w' => e = .returned (.int .u32 (run (s ^^^ 4294967295) b ^^^ 4294967295 : Nat)) ∧ Below w.heap.size w w' := by
  have hn := hb.le
  have hc := hb.cap
  have hbl := hb.blen
  unfold maxLen at hc
  have hxs : bits .xor .u32 (s : Int) 4294967295 = ((s ^^^ 4294967295 : Nat) : Int) := u32_xor_nat s 4294967295 hs (by omega)
  have hsl : s ^^^ 4294967295 < 4294967296 := xor_lt 32 hs (by omega)
  generalize s ^^^ 4294967295 = s0 at *
  have Hb := Lib.hid hb
  clear hb
  go_enter Tryz.func195, Tryz.ntmps195
  go_wp2_with fail
  go_loopw [5, 12] (fun v i wr => ∃ k y : Nat, k ≤ n ∧ i = .int .i64 (k : Int) ∧ v = .int .u32 (y : Int) ∧ Hid (y = run s0 (b.take k)) ∧ Below w.heap.size w wr) (fun _ i _ => n - (intOf i).toNat)
  case atStart => exact ⟨0, s0, by omega, rfl, by first | rfl | rw [hxs], Lib.hid rfl, Below.refl _ _⟩
  case round =>
    obtain ⟨k, y, hk, rfl, rfl, hy, hB⟩ := hrel
    have hyl : y < 4294967296 := by rw [hy.out]; exact run_lt hsl _
    by_cases hkn : k < n
    · obtain ⟨ad, q, rfl, hq, hcell, hq256⟩ := (Hb.out.below hB (Nat.le_refl _)).atB hkn
      go_wp2_with (first
        | (go_at_call 213
           (with_reducible refine (c_rStep y q.toNat hyl hq256 _).mono ?_)
           rintro e w1 ⟨rfl, hb1⟩
           have hB2 := hB.trans (show Below w.heap.size wr w1 from hb1 ▸ Below.refl _ _)))
      go_roundw
      case rel => exact ⟨k + 1, _, by omega, by go_num, rfl, Lib.hid (by rw [take_snoc hq.out, run_snoc, ← hy.out]), hB2⟩
      case measure => simp [intOf] <;> omega
    · have hkn : k = n := by omega
      have hy2 : run s0 b = y := by have h := hy.out; rw [List.take_of_length_le (by omega)] at h; exact h.symm
      have hyx : bits .xor .u32 (y : Int) 4294967295 = ((y ^^^ 4294967295 : Nat) : Int) := u32_xor_nat y 4294967295 hyl (by omega)
      go_wp2_with fail
      go_ret
      exact ⟨by rw [hy2, ← hyx]; rfl, hB⟩

theorem c_Sum (A : Option Addr) (n c : Nat) (b : List UInt8) (w : World) (hb : Byt w A n c b) : Calls Tryz.prog 211 #[.slice A n c] w fun e w' => e = .returned (.int .u32 (sum b : Nat)) ∧ Below w.heap.size w w' := by
  have h := c_More 0 (by omega) A n c b w hb
  rw [Nat.zero_xor, show ((0 : Nat) : Int) = 0 from rfl] at h
  have H := Lib.hid h
  clear h
  go_enter Tryz.func211, Tryz.ntmps211
  go_wp2_with (first
    | (go_at_call 222
       (with_reducible refine H.out.mono ?_)
       rintro e w1 ⟨rfl, hb1⟩))
  go_ret
  exact ⟨rfl, hb1⟩
theorem c_rSum (A : Option Addr) (n c : Nat) (b : List UInt8) (w : World) (hb : Byt w A n c b) : Calls Tryz.prog 182 #[.slice A n c] w fun e w' => e = .returned (.int .u32 (sum b : Nat)) ∧ Below w.heap.size w w' := by
  have h := c_rMore 0 (by omega) A n c b w hb
  rw [Nat.zero_xor, show ((0 : Nat) : Int) = 0 from rfl] at h
  have H := Lib.hid h
  clear h
  go_enter Tryz.func182, Tryz.ntmps182
  go_wp2_with (first
    | (go_at_call 195
       (with_reducible refine H.out.mono ?_)
       rintro e w1 ⟨rfl, hb1⟩))
  go_ret
  exact ⟨rfl, hb1⟩
end Go.Proofs.YtaldlapnhhhclaaGreat.Crc
