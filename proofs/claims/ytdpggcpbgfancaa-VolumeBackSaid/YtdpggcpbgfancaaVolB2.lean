/- Contract of the law's read: the pieces' bytes told by a disk. Conditions: the disk is fine, each piece lies in its area. -/
import Derived.Test.YtdpggcpbgfancaaVolJ5
import Derived.Test.YtdpggcpbgfancaaData4
set_option linter.unusedVariables false
set_option linter.unusedSimpArgs false
namespace Go.Proofs.Ytdpggcpbgfancaa.Vol
open Go.RowKit Tw Disk
set_option maxHeartbeats 8000000
set_option maxRecDepth 100000
theorem info_sl : (Try.prog.info? 23).map (fun i => (i.zero, i.size, i.bytes)) = some (some (.slice none 0 0), 1, 24) := by kernel_rfl
/-- what stands at each place of the row vs -/
def SlAll (w : World) (A : Option Addr) (vs : List Value) (l : List (List UInt8)) : Prop :=
  ∀ (i : Nat) (t : List UInt8), l[i]? = some t → ∃ A' n' c', vs[i]? = some (.slice A' n' c') ∧ Byt w A' n' c' t ∧ ∀ ad', A' = some ad' → ad'.block < w.heap.size ∧ ∀ ad, A = some ad → ad'.block ≠ ad.block
/-- rows of bytes that the call owns -/
structure SlOwn (w : World) (base : Nat) (A : Option Addr) (n c : Nat) (l : List (List UInt8)) (vs : List Value) : Prop where
  own : Tw.Own w base 23 1 A n c vs
  len : l.length = n
  all : SlAll w A vs l
theorem SlOwn.nil (w : World) (base : Nat) : SlOwn w base none 0 0 [] [] := ⟨World.ownsRow_nil _ _ _ _, rfl, fun i r h => by simp at h⟩
theorem SlAll.grown {w w' : World} {A A' : Option Addr} {vs : List Value} {l : List (List UInt8)} {row : Option Nat} (h : SlAll w A vs l) (hg : w.grownBy w' row) (hr : ∀ k, some k = row → w.heap.size ≤ k ∨ ∃ ad, A = some ad ∧ k = ad.block)
    (hA : ∀ ad', A' = some ad' → w.heap.size ≤ ad'.block ∨ ∃ ad, A = some ad ∧ ad'.block = ad.block) : SlAll w' A' vs l := fun i r hi => by
  obtain ⟨B, n', c', h1, h2, h3⟩ := h i r hi
  refine ⟨B, n', c', h1, h2.grown hg (fun ad e hk => ?_), fun ad' e => ⟨Nat.lt_of_lt_of_le (h3 ad' e).1 hg.size, fun ad e2 hk => ?_⟩⟩
  · obtain ⟨q1, q2⟩ := h3 ad e
    rcases hr _ hk with h4 | ⟨ad2, h4, h5⟩
    · omega
    · exact q2 ad2 h4 h5
  · obtain ⟨q1, q2⟩ := h3 ad' e
    rcases hA ad e2 with h4 | ⟨ad2, h4, h5⟩
    · omega
    · exact q2 ad2 h4 (hk.trans h5)
theorem SlOwn.bel {w w' : World} {base : Nat} {A : Option Addr} {n c : Nat} {l : List (List UInt8)} {vs : List Value} (h : SlOwn w base A n c l vs) (hb : Below w.heap.size w w') : SlOwn w' base A n c l vs :=
  ⟨Tw.Own.bel h.own hb, h.len, h.all.grown (row := none) (grown_bel hb) (fun k e => by cases e) (fun ad e => .inr ⟨ad, e, rfl⟩)⟩
theorem SlOwn.slIn {w : World} {base : Nat} {A : Option Addr} {n c : Nat} {l : List (List UInt8)} {vs : List Value} (h : SlOwn w base A n c l vs) : SlIn w A n c l := by
  have hr := h.own.rd
  refine ⟨h.len, hr.le, hr.cap, fun i r hi => ?_⟩
  obtain ⟨B, n', c', h1, h2, h3⟩ := h.all i r hi
  have hin := (List.getElem?_eq_some_iff.1 hi).1
  have hl := h.len
  obtain ⟨ad, rfl⟩ : ∃ ad, A = some ad := by
    cases A with
    | none => have := hr.nil rfl; have := hr.le; omega
    | some ad => exact ⟨ad, rfl⟩
  exact ⟨ad, B, n', c', rfl, hr.cell ad rfl _ _ h1, h2⟩
/-- one row more, appended -/
theorem SlOwn.snoc {w w' : World} {base k c c5 : Nat} {A A5 : Option Addr} {vs : List Value} {l : List (List UInt8)} (hl : l.length = k) (hv : vs.length = k) (hat : SlAll w A vs l)
    {r : List UInt8} {AD : Option Addr} {nd cd : Nat} (hd : Byt w AD nd cd r) (hdb : ∀ ad', AD = some ad' → ad'.block < w.heap.size ∧ ∀ ad, A = some ad → ad'.block ≠ ad.block)
    (h5 : Tw.Own w' base 23 1 A5 (k + 1) c5 (vs ++ [.slice AD nd cd])) (hg : w.grownBy w' (Value.slice A k c).ownBlock)
    (ho : (Value.slice A5 (k + 1) c5).ownBlock = (Value.slice A k c).ownBlock ∨ (Value.slice A5 (k + 1) c5).ownBlock = some w.heap.size) :
    SlOwn w' base A5 (k + 1) c5 (l ++ [r]) (vs ++ [.slice AD nd cd]) := by
  have hr : ∀ b, some b = (Value.slice A k c).ownBlock → w.heap.size ≤ b ∨ ∃ ad, A = some ad ∧ b = ad.block := fun b e => .inr (addr_row e)
  have hA : ∀ ad', A5 = some ad' → w.heap.size ≤ ad'.block ∨ ∃ ad, A = some ad ∧ ad'.block = ad.block := fun ad' e => by
    subst e
    rcases ho with ho | ho
    · exact .inr (addr_row (n := k) (c := c) (by simpa [Value.ownBlock] using ho))
    · left
      simp only [Value.ownBlock, Option.some.injEq] at ho
      omega
  refine ⟨h5, by simp [hl], fun i r' hi => ?_⟩
  rcases Nat.lt_or_ge i k with hlt | hge
  · rw [List.getElem?_append_left (by omega)] at hi
    obtain ⟨B, n', c', q1, q2, q3⟩ := (hat.grown hg hr hA) i r' hi
    exact ⟨B, n', c', by rw [List.getElem?_append_left (by omega)]; exact q1, q2, q3⟩
  · have hk : i = k := by
      have := (List.getElem?_eq_some_iff.1 hi).1
      simp at this
      omega
    subst hk
    rw [List.getElem?_append_right (by omega)] at hi
    simp [hl] at hi
    subst hi
    refine ⟨AD, nd, cd, by rw [List.getElem?_append_right (by omega)]; simp [hv], hd.grown hg (fun ad e hk => ?_), fun ad' e => ⟨Nat.lt_of_lt_of_le (hdb ad' e).1 hg.size, fun ad e2 hk => ?_⟩⟩
    · obtain ⟨q1, q2⟩ := hdb ad e
      rcases hr _ hk with h4 | ⟨ad2, h4, h5⟩
      · omega
      · exact q2 ad2 h4 h5
    · obtain ⟨q1, q2⟩ := hdb ad' e
      rcases hA ad e2 with h4 | ⟨ad2, h4, h5⟩
      · omega
      · exact q2 ad2 h4 (hk.trans h5)
def told (d : Dsk) (l : List Pc) : List (List UInt8) := l.map fun p => (Data.dRead d (p.1 : Int) (p.2.1 : Int)).1
theorem c_read {w : World} {p g mb cd : Nat} {d : Dsk} (hd : Dk w p g mb cd d) (A : Option Addr) (n c : Nat) (l : List Pc) (h : Rd w 4 A n c (pcsV l)) (hn : n ≤ 64)
    (hok : ∀ q ∈ l, (Data.dRead d (q.1 : Int) (q.2.1 : Int)).2 = 0) (hsm : ∀ q ∈ l, (Data.dRead d (q.1 : Int) (q.2.1 : Int)).1.length ≤ 128) :
    Calls Try.prog 59 #[.pointer (some ⟨p, 0, none⟩), .slice A n c] w fun e w' => ∃ A2 c2 vs, e = .returned (.tuple #[.slice A2 n c2, .bool true]) ∧ SlOwn w' w.heap.size A2 n c2 (told d l) vs ∧ Below w.heap.size w w' := by
  have hl : l.length = n := by have := h.len; rw [pcsV_length] at this; omega
  have Hd := Lib.hid hd
  have Hh := Lib.hid h
  clear h hd
  go_enter Try.func59, Try.ntmps59
  go_wp2_with (first
    | (go_at_call 120
       (with_reducible refine (c_Reads _ _ _ l _ Hh.out hn).mono ?_)
       rintro e w1 ⟨A1, c1, rfl, ho1, hb1⟩
       have HR := Lib.hid ho1.rd
       have HB1 := Lib.hid hb1
       clear ho1 hb1))
  go_loopw [6, 14] (fun v i wr => ∃ (k : Nat) (A2 : Option Addr) (c2 : Nat) (vs : List Value), k ≤ n ∧ i = .int .i64 (k : Int) ∧ v = .slice A2 k c2 ∧ Hid (SlOwn wr w1.heap.size A2 k c2 (told d (l.take k)) vs) ∧ Hid (Below w1.heap.size w1 wr)) (fun _ i _ => n - (intOf i).toNat)
  case atStart => exact ⟨0, none, 0, [], Nat.zero_le _, rfl, rfl, Lib.hid (SlOwn.nil _ _), Lib.hid (Below.refl _ _)⟩
  case round =>
    obtain ⟨k, A2, c2, vs, hk, rfl, rfl, hown, hB1⟩ := hrel
    have hB := Lib.hid (HB1.out.trans (hB1.out.mono HB1.out.size))
    by_cases hkn : k < n
    · obtain ⟨⟨x1, x2, x3, x4⟩, hp⟩ : ∃ p, l[k]? = some p := ⟨_, List.getElem?_eq_getElem (by omega)⟩
      have hmem := List.mem_of_getElem? hp
      have hle := HR.out.le
      obtain ⟨ad, rfl⟩ : ∃ ad, A1 = some ad := by
        cases A1 with
        | none => have := HR.out.nil rfl; omega
        | some ad => exact ⟨ad, rfl⟩
      have Hcs : Hid (∀ j v, (rqV (x1, x2, x3, x4))[j]? = some v → wr.cell? ((ad.add (k * 4)).add j) = some v) := Lib.hid fun j v hv => by
        rw [add_add]
        exact (HR.out.below hB1.out (Nat.le_refl _)).cell ad rfl _ _ (rqsV_get hp hv)
      have Htk := Lib.hid (take_next hp)
      have hrd := fun w' (hb : Below w.heap.size w w') => Data.c_Read (Hd.out.bel hb) (x1 : Int) (x2 : Int)
      have e0 := hok _ hmem
      have es := hsm _ hmem
      simp only at e0 es
      rw [e0] at hrd
      obtain ⟨T, hT⟩ : ∃ T, (Data.dRead d (x1 : Int) (x2 : Int)).1 = T := ⟨_, rfl⟩
      rw [hT] at hrd es
      have HT := Lib.hid hT
      clear hp hT e0 hmem
      go_wp2_with (first
        | (refine wpL_load_rd rfl 86 (.tmp 16) rfl (ad.add (k * 4)) rfl (rqV (x1, x2, x3, x4)) _ Hcs.out Try.underlying86 rfl (by kernel_rfl) ?_
           simp only [rqV])
        | (go_at_call 117
           (with_reducible refine (hrd _ (bel_alloc hB.out hB.out.size _)).mono ?_)
           rintro e w5 ⟨A4, c4, rfl, ho4, hb4⟩
           have ba := (Below.refl wr.heap.size wr).alloc (Nat.le_refl _) (.cells #[.int .i64 0, .int .i64 (x1 : Int), .int .i64 (x2 : Int), .slice none 0 0] 86)
           have b5 : Below wr.heap.size wr w5 := ba.trans (hb4.mono ba.size)
           have S5 := Lib.hid (hown.out.bel b5)
           have HB5 := Lib.hid (hB.out.trans (b5.mono hB.out.size))
           have HB15 := Lib.hid (hB1.out.trans (b5.mono hB1.out.size))
           have O4 := Lib.hid (Tw.Own.mono ho4 (size_alloc_le (Nat.le_refl _) _))
           clear ho4 hb4 ba b5 hrd)
        | (refine wpL_append _ rfl (.tmp 27) (.tmp 29) _ rfl w1 w1.heap.size (bel_alloc HB15.out HB15.out.size _) (size_alloc_le HB15.out.size _) 23 _ 1 24 Try.underlying79 info_sl rfl (by omega) _ _ _ _ rfl (Tw.Own.bel S5.out.own ((Below.refl _ _).alloc (Nat.le_refl _) _)) _ _ _ _ rfl (rd_one _ _ _) (by simp [Value.oneCell']) (k + 1) _ rfl rfl (by unfold maxLen; omega) (by omega) ?_
           intro A6 c6 w6 ho6 hb6 hg6 hl6
           have HO6 := Lib.hid ho6
           have HB6 := Lib.hid hb6
           have HG6 := Lib.hid hg6
           have HL6 := Lib.hid hl6
           clear ho6 hb6 hg6 hl6))
      have hvl : vs.length = k := by have := S5.out.own.1; omega
      have bl := (Below.refl w5.heap.size w5).alloc (Nat.le_refl _) (.cells #[.slice A4 T.length c4] 23)
      have S6 := Lib.hid (SlOwn.snoc (w := w5.alloc (.cells #[.slice A4 T.length c4] 23)) (l := told d (l.take k)) S5.out.len hvl (S5.out.bel bl).all (r := T) ((O4.out.rd).bel bl) (fun ad' e => ⟨by have := (O4.out.at0 ad' e).2; simp; omega, fun ad e2 => by have h1 := (O4.out.at0 ad' e).1; have h2 := (hown.out.own.at0 ad e2).2; omega⟩) HO6.out HG6.out HL6.out)
      go_roundw
      case rel => exact ⟨k + 1, A6, c6, _, by omega, by go_num, rfl, Lib.hid (by rw [Htk.out]; simp only [told, List.map_append, List.map_cons, List.map_nil]; rw [HT.out]; exact S6.out), HB6⟩
      case measure => simp [intOf] <;> omega
    · obtain rfl : k = n := by omega
      have htk : l.take k = l := List.take_of_length_le (by omega)
      rw [htk] at hown
      go_wp2_with fail
      go_ret2
      exact ⟨A2, c2, vs, rfl, ⟨Tw.Own.mono hown.out.own HB1.out.size, hown.out.len, hown.out.all⟩, hB.out⟩
end Go.Proofs.Ytdpggcpbgfancaa.Vol
