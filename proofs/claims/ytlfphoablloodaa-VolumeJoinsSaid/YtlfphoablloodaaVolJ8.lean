/- The law VolumeJoins, walked; its arguments opened. Conditions: none. -/
import Derived.Test.YtlfphoablloodaaVolJ7
import Derived.Test.YtlfphoablloodaaFlat
namespace Go.Proofs.Ytlfphoablloodaa.Vol
open Go.RowKit Tw
set_option maxHeartbeats 4000000
set_option maxRecDepth 100000

section
open Go.ChangeShapes Go.WideShapes Go.Deep
variable {H : Type} {enc : TypeId × Value → H} {P : Program} {W : World} {base : Nat} {spare : Nat → Bool} {held : Bool}
theorem open_pis {t e : TypeId} {A : Option Addr} {n c : Nat} {d : DataW H} {ps : List MemPlace} (ht : P.underlying t = some (.slice e)) (hL : flat P 4 e = some [.int .i64, .int .i64, .int .i64, .int .i64]) (hc : P.cellsOf e = 4)
    (h : DataW.Trod enc P W base spare held t (.slice A n c) d ps) : ∃ l : List Pi, Rd W 4 A n c (pisV l) := by
  obtain ⟨rows, hl, hn, hm, hr, h0, hcell⟩ := open_rows 4 ht hL hc h
  obtain ⟨l, hll, hp⟩ := all_choose (n := n) (p := fun (i : Nat) (p : Pi) => rows[i]? = some (piV p)) (fun i hi => by
    have hri : rows[i]? = some rows[i] := List.getElem?_eq_getElem (by omega)
    have h1 := hr i _ hri
    obtain ⟨v1, r1, e1, k1, h1⟩ := rowOk_cons h1
    obtain ⟨v2, r2, e2, k2, h1⟩ := rowOk_cons h1
    obtain ⟨v3, r3, e3, k3, h1⟩ := rowOk_cons h1
    obtain ⟨v4, r4, e4, k4, h1⟩ := rowOk_cons h1
    have e5 := rowOk_nil h1
    obtain ⟨z1, rfl, _⟩ := leaf_i64 k1
    obtain ⟨z2, rfl, _⟩ := leaf_i64 k2
    obtain ⟨z3, rfl, _⟩ := leaf_i64 k3
    obtain ⟨z4, rfl, _⟩ := leaf_i64 k4
    refine ⟨(z1, z2, z3, z4), ?_⟩
    rw [hri, e1, e2, e3, e4, e5]
    rfl)
  refine ⟨l, by rw [pisV_length, hll], hn, hm, h0, fun ad e j u hu => ?_⟩
  have hj := (List.getElem?_eq_some_iff.1 hu).1
  rw [pisV_length] at hj
  have hk : j / 4 < l.length := by omega
  have hlk : l[j / 4]? = some l[j / 4] := List.getElem?_eq_getElem hk
  have hv : (piV l[j / 4])[j % 4]? = some ((piV l[j / 4])[j % 4]'(by simp [piV]; omega)) := List.getElem?_eq_getElem _
  have h3 := pisV_get hlk hv
  rw [show j / 4 * 4 + j % 4 = j from by omega] at h3
  rw [hu] at h3
  have h4 := hcell ad e (j / 4) _ (hp _ _ hlk) (j % 4) _ hv
  simp only [List.length_cons, List.length_nil] at h4
  rw [show j / 4 * (0 + 1 + 1 + 1 + 1) + j % 4 = j from by omega] at h4
  rw [h3]
  exact h4
theorem open_told {t e : TypeId} {A : Option Addr} {n c : Nat} {d : DataW H} {ps : List MemPlace} (ht : P.underlying t = some (.slice e)) (hL : flat P 2 e = some [.bytes]) (hc : P.cellsOf e = 1)
    (h : DataW.Trod enc P W base spare held t (.slice A n c) d ps) : ∃ l : List (List UInt8), SlIn W A n c l := by
  obtain ⟨rows, hl, hn, hm, hr, h0, hcell⟩ := open_rows 2 ht hL hc h
  cases A with
  | none =>
    have := h0 rfl
    obtain rfl : c = 0 := this
    obtain rfl : n = 0 := by omega
    exact ⟨[], rfl, Nat.le_refl _, Nat.zero_le _, fun i t h => by simp at h⟩
  | some ad =>
    obtain ⟨l, hll, hp⟩ := all_choose (n := n) (p := fun (i : Nat) (t : List UInt8) => ∃ A' n' c', rows[i]? = some [.slice A' n' c'] ∧ Byt W A' n' c' t) (fun i hi => by
      have hri : rows[i]? = some rows[i] := List.getElem?_eq_getElem (by omega)
      have h1 := hr i _ hri
      obtain ⟨v1, r1, e1, k1, h1⟩ := rowOk_cons h1
      have e5 := rowOk_nil h1
      obtain ⟨A', n', c', b, rfl, hb⟩ := k1
      exact ⟨b, A', n', c', by rw [hri, e1, e5], hb⟩)
    refine ⟨l, hll, hn, hm, fun i t hi => ?_⟩
    obtain ⟨A', n', c', h3, h4⟩ := hp i t hi
    refine ⟨ad, A', n', c', rfl, ?_, h4⟩
    have h5 := hcell ad rfl i _ h3 0 _ rfl
    simpa using h5
end

open Classical in
noncomputable def gatR (l : List Pi) (tl : List (List UInt8)) : List UInt8 × Nat := if Fits l tl then (gat l tl, 0) else ([], 2)
open Classical in
noncomputable def wrsR (l : List Pi) (tl : List (List UInt8)) (b : List UInt8) : List Rq × Nat := if Fits l tl ∧ b.length = ato l l.length then (wrs l tl b l.length, 0) else ([], 2)
theorem RqIn.nil (w : World) : RqIn w none 0 0 [] := ⟨rfl, Nat.le_refl _, Nat.zero_le _, fun i r h => by simp at h⟩
theorem c_GatherR (A A' : Option Addr) (n m c c' : Nat) (l : List Pi) (tl : List (List UInt8)) (x : List UInt8) (er : Nat) (w : World) (hx : gatR l tl = (x, er)) (h : Rd w 4 A n c (pisV l)) (h2 : SlIn w A' m c' tl) (hn : n ≤ 64) (hm : m ≤ 64) :
    Calls Try.prog 66 #[.slice A n c, .slice A' m c'] w fun e w' => ∃ A2 c2, e = .returned (.tuple #[.slice A2 x.length c2, .int .i64 (er : Int)]) ∧ Byt w' A2 x.length c2 x ∧ Below w.heap.size w w' := by
  unfold gatR at hx
  by_cases hF : Fits l tl
  · rw [if_pos hF] at hx
    injection hx with h3 h4
    subst h3 h4
    exact (c_Gather A A' n m c c' l tl w h h2 hn hm hF).mono fun e w' ⟨A2, c2, he, ho, hb⟩ => ⟨A2, c2, he, ho.rd, hb⟩
  · rw [if_neg hF] at hx
    injection hx with h3 h4
    subst h3 h4
    exact (c_Gather_no A A' n m c c' l tl w h h2 hn hm hF).mono fun e w' ⟨he, hb⟩ => ⟨none, 0, he, Rd.nil_, hb⟩
theorem c_rGatherR (A A' : Option Addr) (n m c c' : Nat) (l : List Pi) (tl : List (List UInt8)) (x : List UInt8) (er : Nat) (w : World) (hx : gatR l tl = (x, er)) (h : Rd w 4 A n c (pisV l)) (h2 : SlIn w A' m c' tl) (hn : n ≤ 64) (hm : m ≤ 64) :
    Calls Try.prog 68 #[.slice A n c, .slice A' m c'] w fun e w' => ∃ A2 c2, e = .returned (.tuple #[.slice A2 x.length c2, .int .i64 (er : Int)]) ∧ Byt w' A2 x.length c2 x ∧ Below w.heap.size w w' := by
  unfold gatR at hx
  by_cases hF : Fits l tl
  · rw [if_pos hF] at hx
    injection hx with h3 h4
    subst h3 h4
    exact (c_rGather A A' n m c c' l tl w h h2 hn hm hF).mono fun e w' ⟨A2, c2, he, ho, hb⟩ => ⟨A2, c2, he, ho.rd, hb⟩
  · rw [if_neg hF] at hx
    injection hx with h3 h4
    subst h3 h4
    exact (c_rGather_no A A' n m c c' l tl w h h2 hn hm hF).mono fun e w' ⟨he, hb⟩ => ⟨none, 0, he, Rd.nil_, hb⟩
theorem c_WritesR (A A' AB : Option Addr) (n m nb c c' cb : Nat) (l : List Pi) (tl : List (List UInt8)) (b : List UInt8) (x : List Rq) (er : Nat) (w : World) (hx : wrsR l tl b = (x, er)) (h : Rd w 4 A n c (pisV l)) (h2 : SlIn w A' m c' tl) (h3 : Byt w AB nb cb b) (hn : n ≤ 64) (hm : m ≤ 64) :
    Calls Try.prog 69 #[.slice A n c, .slice A' m c', .slice AB nb cb] w fun e w' => ∃ A2 c2, e = .returned (.tuple #[.slice A2 x.length c2, .int .i64 (er : Int)]) ∧ RqIn w' A2 x.length c2 x ∧ Below w.heap.size w w' := by
  have hbl := h3.blen
  have hl : l.length = n := by have := h.len; rw [pisV_length] at this; omega
  unfold wrsR at hx
  by_cases hF : Fits l tl
  · by_cases hb : nb = ato l l.length
    · rw [if_pos ⟨hF, by omega⟩] at hx
      injection hx with h4 h5
      subst h4 h5
      refine (c_Writes A A' AB n m nb c c' cb l tl b w h h2 h3 hn hm hF hb).mono fun e w' ⟨A2, c2, vs, he, ho, hb⟩ => ?_
      rw [hl, wrs_length]
      exact ⟨A2, c2, he, ho.rqIn, hb⟩
    · rw [if_neg (fun hh => hb (by omega))] at hx
      injection hx with h4 h5
      subst h4 h5
      exact (c_Writes_no2 A A' AB n m nb c c' cb l tl w h h2 hn hm hF hb).mono fun e w' ⟨he, hb⟩ => ⟨none, 0, he, RqIn.nil _, hb⟩
  · rw [if_neg (fun hh => hF hh.1)] at hx
    injection hx with h4 h5
    subst h4 h5
    exact (c_Writes_no1 A A' AB n m nb c c' cb l tl w h h2 hn hm hF).mono fun e w' ⟨he, hb⟩ => ⟨none, 0, he, RqIn.nil _, hb⟩
theorem c_rWritesR (A A' AB : Option Addr) (n m nb c c' cb : Nat) (l : List Pi) (tl : List (List UInt8)) (b : List UInt8) (x : List Rq) (er : Nat) (w : World) (hx : wrsR l tl b = (x, er)) (h : Rd w 4 A n c (pisV l)) (h2 : SlIn w A' m c' tl) (h3 : Byt w AB nb cb b) (hn : n ≤ 64) (hm : m ≤ 64) :
    Calls Try.prog 70 #[.slice A n c, .slice A' m c', .slice AB nb cb] w fun e w' => ∃ A2 c2, e = .returned (.tuple #[.slice A2 x.length c2, .int .i64 (er : Int)]) ∧ RqIn w' A2 x.length c2 x ∧ Below w.heap.size w w' := by
  have hbl := h3.blen
  have hl : l.length = n := by have := h.len; rw [pisV_length] at this; omega
  unfold wrsR at hx
  by_cases hF : Fits l tl
  · by_cases hb : nb = ato l l.length
    · rw [if_pos ⟨hF, by omega⟩] at hx
      injection hx with h4 h5
      subst h4 h5
      refine (c_rWrites A A' AB n m nb c c' cb l tl b w h h2 h3 hn hm hF hb).mono fun e w' ⟨A2, c2, vs, he, ho, hb⟩ => ?_
      rw [hl, wrs_length]
      exact ⟨A2, c2, he, ho.rqIn, hb⟩
    · rw [if_neg (fun hh => hb (by omega))] at hx
      injection hx with h4 h5
      subst h4 h5
      exact (c_rWrites_no2 A A' AB n m nb c c' cb l tl w h h2 hn hm hF hb).mono fun e w' ⟨he, hb⟩ => ⟨none, 0, he, RqIn.nil _, hb⟩
  · rw [if_neg (fun hh => hF hh.1)] at hx
    injection hx with h4 h5
    subst h4 h5
    exact (c_rWrites_no1 A A' AB n m nb c c' cb l tl w h h2 hn hm hF).mono fun e w' ⟨he, hb⟩ => ⟨none, 0, he, RqIn.nil _, hb⟩

theorem w_VolumeJoins (A A' AB : Option Addr) (n m nb c c' cb : Nat) (l : List Pi) (tl : List (List UInt8)) (b : List UInt8) (w : World) (h : Rd w 4 A n c (pisV l)) (h2 : SlIn w A' m c' tl) (h3 : Byt w AB nb cb b) :
    Calls Try.prog 13 #[.slice A n c, .slice A' m c', .slice AB nb cb] w fun e w' => e = .returned (.bool true) ∧ Below w.heap.size w w' := by
  have Hh := Lib.hid h
  have Hh2 := Lib.hid h2
  have Hh3 := Lib.hid h3
  obtain ⟨⟨x, er⟩, hg⟩ : ∃ q, gatR l tl = q := ⟨_, rfl⟩
  obtain ⟨⟨y, es⟩, hw⟩ : ∃ q, wrsR l tl b = q := ⟨_, rfl⟩
  have Hg := Lib.hid hg
  have Hw := Lib.hid hw
  clear h h2 h3 hg hw
  go_enter Try.func13, Try.ntmps13
  go_wp2_with fail
  refine (c_few _ _ n c m c' tl _ Hh2.out).mono ?_
  rintro e w1 ⟨hfr, hb1⟩
  have HB := Lib.hid hb1
  clear hb1
  rcases hfr with rfl | ⟨rfl, hfew⟩
  · go_wp2_with (first
      | (go_at_call 40
         (with_reducible refine (c_lives _).mono ?_)
         rintro e w9 ⟨rfl, hb9⟩))
    go_ret
    exact ⟨rfl, HB.out.trans (hb9.mono HB.out.size)⟩
  · obtain ⟨hn, hm, -⟩ := hfew
    by_cases hnb : 6000 < nb
    · go_wp2_with (first
        | (go_at_call 40
           (with_reducible refine (c_lives _).mono ?_)
           rintro e w9 ⟨rfl, hb9⟩))
      go_ret
      exact ⟨rfl, HB.out.trans (hb9.mono HB.out.size)⟩
    · go_wp2_with (first
        | (go_at_call 67
           (with_reducible refine (c_raw _ n c l _ (Hh.out.bel HB.out) (by omega)).mono ?_)
           rintro e w2 ⟨A2, c2, rfl, ho2, hb2⟩
           have HB := Lib.hid (HB.out.trans (hb2.mono HB.out.size))
           have HR := Lib.hid ho2.rd
           (try have HX := Lib.hid (HX.out.bel hb2))
           (try have HY := Lib.hid (HY.out.bel hb2))
           clear ho2 hb2)
        | (go_at_call 66
           (with_reducible refine (c_GatherR _ _ n m _ _ l tl x er _ Hg.out HR.out (Hh2.out.bel HB.out) (by omega) (by omega)).mono ?_)
           rintro e w3 ⟨A3, c3, rfl, hx3, hb3⟩
           have HB := Lib.hid (HB.out.trans (hb3.mono HB.out.size))
           have HX := Lib.hid hx3
           clear hx3 hb3 HR)
        | (go_at_call 68
           (with_reducible refine (c_rGatherR _ _ n m _ _ l tl x er _ Hg.out (Hh.out.bel HB.out) (Hh2.out.bel HB.out) (by omega) (by omega)).mono ?_)
           rintro e w4 ⟨A4, c4, rfl, hx4, hb4⟩
           have HB := Lib.hid (HB.out.trans (hb4.mono HB.out.size))
           have HX := Lib.hid (HX.out.bel hb4)
           have HY := Lib.hid hx4
           clear hx4 hb4)
        | (go_at_call 69
           (with_reducible refine (c_WritesR _ _ _ n m nb _ _ _ l tl b y es _ Hw.out HR.out (Hh2.out.bel HB.out) (Hh3.out.bel HB.out) (by omega) (by omega)).mono ?_)
           rintro e w5 ⟨A5, c5, rfl, hx5, hb5⟩
           have HB := Lib.hid (HB.out.trans (hb5.mono HB.out.size))
           have HX := Lib.hid (HX.out.bel hb5)
           have HY := Lib.hid (HY.out.bel hb5)
           have HP := Lib.hid hx5
           clear hx5 hb5 HR)
        | (go_at_call 70
           (with_reducible refine (c_rWritesR _ _ _ n m nb _ _ _ l tl b y es _ Hw.out (Hh.out.bel HB.out) (Hh2.out.bel HB.out) (Hh3.out.bel HB.out) (by omega) (by omega)).mono ?_)
           rintro e w6 ⟨A6, c6, rfl, hx6, hb6⟩
           have HB := Lib.hid (HB.out.trans (hb6.mono HB.out.size))
           have HX := Lib.hid (HX.out.bel hb6)
           have HY := Lib.hid (HY.out.bel hb6)
           have HP := Lib.hid (HP.out.below hb6 (Nat.le_refl _))
           have HQ := Lib.hid hx6
           have e1 := run_str (P := Try.prog) w6 22 9 5 A3 x.length c3 x Try.underlying22 Try.underlying5 Try.underlying9 HX.out
           have e2 := run_str (P := Try.prog) w6 22 9 5 A4 x.length c4 x Try.underlying22 Try.underlying5 Try.underlying9 HY.out
           clear hx6 hb6 HX HY)
        | (go_at_call 37
           (with_reducible refine (c_same _ _ _ _ _ y _ HP.out HQ.out).mono ?_)
           rintro e w7 ⟨rfl, hb7⟩
           have HB := Lib.hid (HB.out.trans (hb7.mono HB.out.size))
           clear hb7)
        | (go_at_call 40
           (with_reducible refine (c_lives _).mono ?_)
           rintro e w9 ⟨rfl, hb9⟩))
      go_ret
      exact ⟨rfl, HB.out.trans (hb9.mono HB.out.size)⟩
end Go.Proofs.Ytlfphoablloodaa.Vol
