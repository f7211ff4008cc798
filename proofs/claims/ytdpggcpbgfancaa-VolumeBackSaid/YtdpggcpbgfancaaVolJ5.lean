/- The plain law of the writes; requests that the call owns; contract of length. Conditions: at most 64 pieces. -/
import Derived.Test.YtdpggcpbgfancaaVolJ4
set_option linter.unusedVariables false
set_option linter.unusedSimpArgs false
namespace Go.Proofs.Ytdpggcpbgfancaa.Vol
open Go.RowKit Tw
set_option maxHeartbeats 4000000
set_option maxRecDepth 100000

/-- how many bytes a piece has -/
def pl (p : Pi) : Nat := (p.2.2.2 - p.2.2.1).toNat
/-- where the k-th piece's bytes begin -/
def ato (l : List Pi) (k : Nat) : Nat := ((l.take k).map pl).sum
theorem ato_next {l : List Pi} {k : Nat} {p : Pi} (hp : l[k]? = some p) : ato l (k + 1) = ato l k + pl p := by
  simp [ato, take_next hp]
theorem ato_zero (l : List Pi) : ato l 0 = 0 := by simp [ato]
theorem pl_le {p : Pi} (h : Good p) : pl p ≤ 128 := by
  unfold Good at h
  unfold pl
  omega
theorem ato_le {l : List Pi} (h : ∀ (i : Nat) (p : Pi), l[i]? = some p → Good p) (k : Nat) (hk : k ≤ l.length) : ato l k ≤ 128 * k := by
  induction k with
  | zero => simp [ato]
  | succ k ih =>
    have hp : l[k]? = some l[k] := List.getElem?_eq_getElem (by omega)
    rw [ato_next hp]
    have := ih (by omega)
    have := pl_le (h k _ hp)
    omega
theorem ato_mono {l : List Pi} {j k : Nat} (h : j ≤ k) : ato l j ≤ ato l k := by
  obtain ⟨d, rfl⟩ : ∃ d, k = j + d := ⟨k - j, by omega⟩
  unfold ato
  rw [List.take_add]
  simp
theorem gat_ato {l : List Pi} {tl : List (List UInt8)} (hF : Fits l tl) (k : Nat) (hk : k ≤ l.length) : (gat (l.take k) (tl.take k)).length = ato l k := by
  have h0 := hF.1
  induction k with
  | zero => simp [gat, ato]
  | succ k ih =>
    have hp : l[k]? = some l[k] := List.getElem?_eq_getElem (by omega)
    have ht : tl[k]? = some tl[k] := List.getElem?_eq_getElem (by omega)
    obtain ⟨h1, h2⟩ := hF.2 k _ _ hp ht
    rw [gat_next hp ht, ato_next hp, List.length_append, ih (by omega), gatAt_length h1 h2]
    rfl
theorem gat_all {l : List Pi} {tl : List (List UInt8)} (hF : Fits l tl) : (gat l tl).length = ato l l.length := by
  have h := gat_ato hF l.length (Nat.le_refl _)
  rw [List.take_of_length_le (Nat.le_refl _), List.take_of_length_le (by rw [hF.1]; exact Nat.le_refl _)] at h
  exact h

/-- a piece's bytes put in -/
def putAt (p : Pi) (t b : List UInt8) : List UInt8 := t.take p.2.2.1.toNat ++ (b.take (pl p) ++ t.drop p.2.2.2.toNat)
/-- the i-th write -/
def wrq (l : List Pi) (tl : List (List UInt8)) (b : List UInt8) (i : Nat) : Rq :=
  match l[i]?, tl[i]? with
  | some p, some t => (1, p.1.toNat, p.2.1.toNat, putAt p t (b.drop (ato l i)))
  | _, _ => (0, 0, 0, [])
def wrs (l : List Pi) (tl : List (List UInt8)) (b : List UInt8) (k : Nat) : List Rq := (List.range k).map (wrq l tl b)
theorem wrs_next {l : List Pi} {tl : List (List UInt8)} {b : List UInt8} {k : Nat} {p : Pi} {t : List UInt8} (hp : l[k]? = some p) (ht : tl[k]? = some t) :
    wrs l tl b (k + 1) = wrs l tl b k ++ [(1, p.1.toNat, p.2.1.toNat, putAt p t (b.drop (ato l k)))] := by
  unfold wrs
  rw [List.range_succ, List.map_append]
  simp [wrq, hp, ht]
theorem wrs_length (l : List Pi) (tl : List (List UInt8)) (b : List UInt8) (k : Nat) : (wrs l tl b k).length = k := by simp [wrs]

/-- what stands at each request of the row vs -/
def RqAll (w : World) (A : Option Addr) (vs : List Value) (l : List Rq) : Prop :=
  ∀ i r, l[i]? = some r → ∃ A' n' c', (∀ j v, (cellsOf r A' n' c')[j]? = some v → vs[i * 4 + j]? = some v) ∧ Byt w A' n' c' r.2.2.2 ∧ ∀ ad', A' = some ad' → ad'.block < w.heap.size ∧ ∀ ad, A = some ad → ad'.block ≠ ad.block
/-- requests that the call owns -/
structure RqOwn (w : World) (base : Nat) (A : Option Addr) (n c : Nat) (l : List Rq) (vs : List Value) : Prop where
  own : Tw.Own w base 86 4 A n c vs
  len : l.length = n
  all : RqAll w A vs l
theorem RqOwn.nil (w : World) (base : Nat) : RqOwn w base none 0 0 [] [] := ⟨World.ownsRow_nil _ _ _ _, rfl, fun i r h => by simp at h⟩
theorem RqAll.grown {w w' : World} {A A' : Option Addr} {vs : List Value} {l : List Rq} {row : Option Nat} (h : RqAll w A vs l) (hg : w.grownBy w' row) (hr : ∀ k, some k = row → w.heap.size ≤ k ∨ ∃ ad, A = some ad ∧ k = ad.block)
    (hA : ∀ ad', A' = some ad' → w.heap.size ≤ ad'.block ∨ ∃ ad, A = some ad ∧ ad'.block = ad.block) : RqAll w' A' vs l := fun i r hi => by
  obtain ⟨B, n', c', h1, h2, h3⟩ := h i r hi
  refine ⟨B, n', c', h1, h2.grown hg (fun ad e hk => ?_), fun ad' e => ⟨Nat.lt_of_lt_of_le (h3 ad' e).1 hg.size, fun ad e2 hk => ?_⟩⟩
  · obtain ⟨q1, q2⟩ := h3 ad e
    rcases hr _ hk with h4 | ⟨ad2, h4, h5⟩
    · omega
    · exact q2 ad2 h4 h5
  · obtain ⟨q1, q2⟩ := h3 ad' e
    rcases hA ad e2 with h4 | ⟨ad2, h4, h5⟩
    · omega
    · exact q2 ad2 h4 (hk.trans h5)
theorem RqOwn.bel {w w' : World} {base : Nat} {A : Option Addr} {n c : Nat} {l : List Rq} {vs : List Value} (h : RqOwn w base A n c l vs) (hb : Below w.heap.size w w') : RqOwn w' base A n c l vs :=
  ⟨Tw.Own.bel h.own hb, h.len, h.all.grown (row := none) (grown_bel hb) (fun k e => by cases e) (fun ad e => .inr ⟨ad, e, rfl⟩)⟩
theorem RqOwn.grown {w w' : World} {base : Nat} {A : Option Addr} {n c : Nat} {l : List Rq} {vs : List Value} (h : RqOwn w base A n c l vs) {row : Nat} (hg : w.grownBy w' (some row)) (hr : w.heap.size ≤ row) : RqOwn w' base A n c l vs :=
  ⟨h.own.kept hg (by
      cases A with
      | none => exact .inl rfl
      | some ad =>
        right
        intro he
        have h1 := (h.own.at0 ad rfl).2
        simp only [Value.ownBlock, Option.some.injEq] at he
        omega), h.len, h.all.grown hg (fun k e => by injection e with e; subst e; exact .inl hr) (fun ad e => .inr ⟨ad, e, rfl⟩)⟩
theorem RqOwn.rqIn {w : World} {base : Nat} {A : Option Addr} {n c : Nat} {l : List Rq} {vs : List Value} (h : RqOwn w base A n c l vs) : RqIn w A n c l := by
  have hr := h.own.rd
  refine ⟨h.len, hr.le, hr.cap, fun i r hi => ?_⟩
  obtain ⟨B, n', c', h1, h2, h3⟩ := h.all i r hi
  have hin := (List.getElem?_eq_some_iff.1 hi).1
  have hl := h.len
  obtain ⟨ad, rfl⟩ : ∃ ad, A = some ad := by
    cases A with
    | none => have := hr.nil rfl; have := hr.le; omega
    | some ad => exact ⟨ad, rfl⟩
  refine ⟨ad, B, n', c', rfl, fun j v hv => ?_, h2⟩
  rw [add_add]
  exact hr.cell ad rfl _ _ (h1 j v hv)
/-- one request more, appended -/
theorem RqOwn.snoc {w w' : World} {base k c c5 : Nat} {A A5 : Option Addr} {vs : List Value} {l : List Rq} (hl : l.length = k) (hv : vs.length = k * 4) (hat : RqAll w A vs l)
    {r : Rq} {AD : Option Addr} {nd cd : Nat} (hd : Byt w AD nd cd r.2.2.2) (hdb : ∀ ad', AD = some ad' → ad'.block < w.heap.size ∧ ∀ ad, A = some ad → ad'.block ≠ ad.block)
    (h5 : Tw.Own w' base 86 4 A5 (k + 1) c5 (vs ++ cellsOf r AD nd cd)) (hg : w.grownBy w' (Value.slice A k c).ownBlock)
    (ho : (Value.slice A5 (k + 1) c5).ownBlock = (Value.slice A k c).ownBlock ∨ (Value.slice A5 (k + 1) c5).ownBlock = some w.heap.size) :
    RqOwn w' base A5 (k + 1) c5 (l ++ [r]) (vs ++ cellsOf r AD nd cd) := by
  have hr : ∀ b, some b = (Value.slice A k c).ownBlock → w.heap.size ≤ b ∨ ∃ ad, A = some ad ∧ b = ad.block := fun b e => .inr (addr_row e)
  have hA : ∀ ad', A5 = some ad' → w.heap.size ≤ ad'.block ∨ ∃ ad, A = some ad ∧ ad'.block = ad.block := fun ad' e => by
    subst e
    rcases ho with ho | ho
    · exact .inr (addr_row (n := k) (c := c) (by simpa [Value.ownBlock] using ho))
    · left
      simp only [Value.ownBlock, Option.some.injEq] at ho
      omega
  refine ⟨h5, by simp [hl], fun i r' hi => ?_⟩
  rcases Nat.lt_or_ge i k with hlt | hge
  · rw [List.getElem?_append_left (by omega)] at hi
    obtain ⟨B, n', c', q1, q2, q3⟩ := (hat.grown hg hr hA) i r' hi
    refine ⟨B, n', c', fun j v hj => ?_, q2, q3⟩
    have := q1 j v hj
    have hlt2 := (List.getElem?_eq_some_iff.1 this).1
    rw [List.getElem?_append_left hlt2]
    exact this
  · have hk : i = k := by
      have := (List.getElem?_eq_some_iff.1 hi).1
      simp at this
      omega
    subst hk
    rw [List.getElem?_append_right (by omega)] at hi
    simp [hl] at hi
    subst hi
    refine ⟨AD, nd, cd, fun j v hj => ?_, hd.grown hg (fun ad e hk => ?_), fun ad' e => ⟨Nat.lt_of_lt_of_le (hdb ad' e).1 hg.size, fun ad e2 hk => ?_⟩⟩
    · rw [List.getElem?_append_right (by omega), hv]
      rw [show i * 4 + j - i * 4 = j from by omega]
      exact hj
    · obtain ⟨q1, q2⟩ := hdb ad e
      rcases hr _ hk with h4 | ⟨ad2, h4, h5⟩
      · omega
      · exact q2 ad2 h4 h5
    · obtain ⟨q1, q2⟩ := hdb ad' e
      rcases hA ad e2 with h4 | ⟨ad2, h4, h5⟩
      · omega
      · exact q2 ad2 h4 (hk.trans h5)

theorem c_length (A : Option Addr) (n c : Nat) (l : List Pi) (w : World) (h : Rd w 4 A n c (pisV l)) (hn : n ≤ 64) (hg : ∀ (i : Nat) (p : Pi), l[i]? = some p → Good p) :
    Calls Try.prog 122 #[.slice A n c] w fun e w' => e = .returned (.int .i64 (ato l l.length : Nat)) ∧ Below w.heap.size w w' := by
  have hl : l.length = n := by have := h.len; rw [pisV_length] at this; omega
  have Hh := Lib.hid h
  have Hg := Lib.hid hg
  clear h hg
  go_enter Try.func122, Try.ntmps122
  go_wp2_with fail
  go_loopw [3, 8] (fun v i wr => ∃ k y : Nat, k ≤ n ∧ i = .int .i64 (k : Int) ∧ v = .int .i64 (y : Int) ∧ y ≤ 128 * k ∧ Hid (y = ato l k) ∧ Below w.heap.size w wr) (fun _ i _ => n - (intOf i).toNat)
  case atStart => exact ⟨0, 0, Nat.zero_le _, rfl, rfl, Nat.zero_le _, Lib.hid (ato_zero l).symm, Below.refl _ _⟩
  case round =>
    obtain ⟨k, y, hk, rfl, rfl, hy, Hy, hB⟩ := hrel
    by_cases hkn : k < n
    · obtain ⟨⟨x1, x2, x3, x4⟩, hp⟩ : ∃ p, l[k]? = some p := ⟨_, List.getElem?_eq_getElem (by omega)⟩
      have hg := Hg.out k _ hp
      have hpl := pl_le hg
      simp only [Good] at hg
      simp only [pl] at hpl
      obtain ⟨f, rfl⟩ : ∃ f : Nat, x3 = (f : Int) := ⟨x3.toNat, by omega⟩
      obtain ⟨g, rfl⟩ : ∃ g : Nat, x4 = (g : Int) := ⟨x4.toNat, by omega⟩
      have hle := Hh.out.le
      obtain ⟨ad, rfl, hcs⟩ := pi_at (Hh.out.below hB (Nat.le_refl _)) hp
      have Hcs := Lib.hid hcs
      have Hnx := Lib.hid (ato_next hp)
      have HB := Lib.hid (hB.alloc hB.size (.cells #[.int .i64 x1, .int .i64 x2, .int .i64 (f : Int), .int .i64 (g : Int)] 158))
      clear hcs hp
      go_wp2_with (first
        | (refine wpL_load_rd rfl 158 (.tmp 10) rfl (ad.add (k * 4)) rfl (piV (x1, x2, (f : Int), (g : Int))) _ Hcs.out Try.underlying158 rfl (by kernel_rfl) ?_
           simp only [piV]))
      go_roundw
      case rel => exact ⟨k + 1, y + (g - f), by omega, by go_num, by congr 1; omega, by omega, Lib.hid (by rw [Hnx.out, ← Hy.out]; simp only [pl]; omega), HB.out⟩
      case measure => simp [intOf] <;> omega
    · obtain rfl : k = n := by omega
      go_wp2_with fail
      go_ret
      refine ⟨?_, hB⟩
      rw [hl, ← Hy.out]
      rfl
end Go.Proofs.Ytdpggcpbgfancaa.Vol
