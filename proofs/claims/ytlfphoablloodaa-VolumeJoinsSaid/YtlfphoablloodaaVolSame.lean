/- Contracts: two requests, and two rows of requests, that are the same. Conditions: none. -/
import Derived.Test.YtlfphoablloodaaVolReads
namespace Go.Proofs.Ytlfphoablloodaa.Vol
open Go.RowKit Tw
set_option maxHeartbeats 2000000
set_option maxRecDepth 100000

abbrev Rq := Nat × Nat × Nat × List UInt8
def cellsOf (r : Rq) (A : Option Addr) (n c : Nat) : List Value := [.int .i64 (r.1 : Int), .int .i64 (r.2.1 : Int), .int .i64 (r.2.2.1 : Int), .slice A n c]
/-- the slice reads these requests -/
structure RqIn (w : World) (A : Option Addr) (n c : Nat) (l : List Rq) : Prop where
  len : l.length = n
  le : n ≤ c
  cap : c ≤ maxLen
  at_ : ∀ i r, l[i]? = some r → ∃ ad A' n' c', A = some ad ∧ (∀ j v, (cellsOf r A' n' c')[j]? = some v → w.cell? ((ad.add (i * 4)).add j) = some v) ∧ Byt w A' n' c' r.2.2.2
theorem RqIn.below {w w' : World} {A : Option Addr} {n c : Nat} {l : List Rq} (h : RqIn w A n c l) {B : Nat} (hb : Below B w w') (hB : w.heap.size ≤ B) : RqIn w' A n c l :=
  ⟨h.len, h.le, h.cap, fun i r hi => by
    obtain ⟨ad, A', n', c', h1, h2, h3⟩ := h.at_ i r hi
    refine ⟨ad, A', n', c', h1, fun j v hv => ?_, h3.below hb hB⟩
    have hc := h2 j v hv
    have := block_lt_of_cell hc
    rw [hb.cell (by omega)]
    exact hc⟩
theorem rqsV_get {l : List Pc} {k j : Nat} {p : Pc} {v : Value} (hp : l[k]? = some p) (hv : (rqV p)[j]? = some v) : (rqsV l)[k * 4 + j]? = some v := by
  induction l generalizing k with
  | nil => simp at hp
  | cons q l ih =>
    have hj : j < 4 := by have := (List.getElem?_eq_some_iff.1 hv).1; simpa [rqV] using this
    cases k with
    | zero =>
      simp at hp
      subst hp
      rw [rqsV, List.flatMap_cons, List.getElem?_append_left (by simp [rqV]; omega)]
      simpa using hv
    | succ k =>
      simp at hp
      rw [rqsV, List.flatMap_cons, List.getElem?_append_right (by simp [rqV]; omega)]
      have := ih hp
      rw [rqsV] at this
      rw [show (k + 1) * 4 + j - (rqV q).length = k * 4 + j from by simp [rqV]; omega]
      exact this
theorem RqIn.of_reads {w : World} {base : Nat} {e : TypeId} {A : Option Addr} {n c : Nat} {l : List Pc} (h : Tw.Own w base e 4 A n c (rqsV l)) (hl : l.length = n) : RqIn w A n c (l.map fun p => (0, p.1, p.2.1, [])) := by
  have hr := h.rd
  refine ⟨by simpa using hl, hr.le, hr.cap, fun i r hi => ?_⟩
  rw [List.getElem?_map] at hi
  cases hp : l[i]? with
  | none => rw [hp] at hi; cases hi
  | some p =>
    rw [hp] at hi
    simp at hi
    subst hi
    have hin := (List.getElem?_eq_some_iff.1 hp).1
    obtain ⟨ad, rfl⟩ : ∃ ad, A = some ad := by
      cases A with
      | none => have := hr.nil rfl; have := hr.le; omega
      | some ad => exact ⟨ad, rfl⟩
    refine ⟨ad, none, 0, 0, rfl, fun j v hv => ?_, Rd.nil_⟩
    rw [add_add]
    exact hr.cell ad rfl _ _ (rqsV_get hp hv)

theorem c_Same (k o l : Nat) (A A' : Option Addr) (n c n' c' : Nat) (b : List UInt8) (w : World) (h1 : Byt w A n c b) (h2 : Byt w A' n' c' b) :
    Calls Try.prog 91 #[.agg #[.int .i64 (k : Int), .int .i64 (o : Int), .int .i64 (l : Int), .slice A n c], .agg #[.int .i64 (k : Int), .int .i64 (o : Int), .int .i64 (l : Int), .slice A' n' c']] w fun e w' => e = .returned (.bool true) ∧ Below w.heap.size w w' := by
  have hB : Below w.heap.size w ((w.alloc (.cells #[.int .i64 (k : Int), .int .i64 (o : Int), .int .i64 (l : Int), .slice A n c] 68)).alloc (.cells #[.int .i64 (k : Int), .int .i64 (o : Int), .int .i64 (l : Int), .slice A' n' c'] 68)) := ((Below.refl _ _).alloc (Nat.le_refl _) _).alloc (by simp) _
  have e1 := run_str (P := Try.prog) ((w.alloc (.cells #[.int .i64 (k : Int), .int .i64 (o : Int), .int .i64 (l : Int), .slice A n c] 68)).alloc (.cells #[.int .i64 (k : Int), .int .i64 (o : Int), .int .i64 (l : Int), .slice A' n' c'] 68)) 22 9 5 A n c b Try.underlying22 Try.underlying5 Try.underlying9 (h1.bel hB)
  have e2 := run_str (P := Try.prog) ((w.alloc (.cells #[.int .i64 (k : Int), .int .i64 (o : Int), .int .i64 (l : Int), .slice A n c] 68)).alloc (.cells #[.int .i64 (k : Int), .int .i64 (o : Int), .int .i64 (l : Int), .slice A' n' c'] 68)) 22 9 5 A' n' c' b Try.underlying22 Try.underlying5 Try.underlying9 (h2.bel hB)
  have HB := Lib.hid hB
  clear hB h1 h2
  go_enter Try.func91, Try.ntmps91
  go_wp2_with fail
  go_ret
  exact ⟨rfl, HB.out⟩

theorem c_same (A A' : Option Addr) (n c c' : Nat) (l : List Rq) (w : World) (h1 : RqIn w A n c l) (h2 : RqIn w A' n c' l) :
    Calls Try.prog 37 #[.slice A n c, .slice A' n c'] w fun e w' => e = .returned (.bool true) ∧ Below w.heap.size w w' := by
  have H1 := Lib.hid h1
  have H2 := Lib.hid h2
  have hl := h1.len
  have hle := h1.le
  have hle2 := h2.le
  have hcap := h1.cap
  clear h1 h2
  go_enter Try.func37, Try.ntmps37
  go_wp2_with fail
  go_loopw [13] (fun i wr => ∃ k : Nat, k ≤ n ∧ i = .int .i64 (k : Int) ∧ Below w.heap.size w wr) (fun i _ => n - (intOf i).toNat)
  case atStart => exact ⟨0, Nat.zero_le _, rfl, Below.refl _ _⟩
  case round =>
    obtain ⟨k, hk, rfl, hB0⟩ := hrel
    unfold maxLen at hcap
    by_cases hkn : k < n
    · obtain ⟨⟨x1, x2, x3, b⟩, hp⟩ : ∃ p, l[k]? = some p := ⟨_, List.getElem?_eq_getElem (by omega)⟩
      obtain ⟨ad, Ad, nd, cd, rfl, hc1, hd1⟩ := (H1.out.below hB0 (Nat.le_refl _)).at_ k _ hp
      obtain ⟨ad', Ad', nd', cd', rfl, hc2, hd2⟩ := (H2.out.below hB0 (Nat.le_refl _)).at_ k _ hp
      have Hc1 := Lib.hid hc1
      have Hc2 := Lib.hid hc2
      have Hd1 := Lib.hid hd1
      have Hd2 := Lib.hid hd2
      clear hc1 hc2 hd1 hd2 hp
      go_wp2_with fail
      refine wp_region_phi (by kernel_rfl) 10 none (fun _ => false) (fun i_ v wz => match i_ with
        | 0 => v = .slice (some ad) n c
        | 1 => v = .int .i64 (k : Int)
        | 2 => v = .pointer (some (ad.add (k * 4)))
        | 3 => v = .agg (cellsOf (x1, x2, x3, b) Ad nd cd).toArray
        | 4 => v = .slice (some ad') n c'
        | 5 => v = .int .i64 (k : Int)
        | 6 => v = .pointer (some (ad'.add (k * 4)))
        | 7 => v = .agg (cellsOf (x1, x2, x3, b) Ad' nd' cd').toArray
        | 8 => v = .bool true
        | 9 => v = .bool false
        | _ => True) (by kernel_rfl) ?_ ?_ ?_
      · (repeat' (first | exact allLt_zero | refine allLt_succ ?_ ?_))
        · exact fun _ _ _ h _ => h
        · exact fun _ _ _ h _ => h
        · exact fun _ _ _ h _ => h
        · exact fun _ _ _ h _ => h
        · exact fun _ _ _ h _ => h
        · exact fun _ _ _ h _ => h
        · exact fun _ _ _ h _ => h
        · exact fun _ _ _ h _ => h
        · exact fun _ _ _ h _ => h
        · exact fun _ _ _ h _ => h
      · (repeat' (first | exact allLt_zero | refine allLt_succ ?_ ?_))
        · intro a w' hf he
          have k0 : a.tmps.getD 0 undef = .slice (some ad) n c := hf.var (by kernel_rfl) rfl
          refine wpOp_step rfl (fun K hK => ?_)
          go_simp
          exact hK _ _ ⟨_, rfl, rfl, World.grownBy.refl _ _⟩
        · intro a w' hf he
          have k5 : a.tmps.getD 5 undef = .int .i64 (k : Int) := hf.var (by kernel_rfl) rfl
          refine wpOp_step rfl (fun K hK => ?_)
          go_simp
          exact hK _ _ ⟨_, rfl, rfl, World.grownBy.refl _ _⟩
        · intro a w' hf he
          have f0 : a.tmps.getD 16 undef = .slice (some ad) n c := he 0 (by kernel_rfl)
          have f1 : a.tmps.getD 17 undef = .int .i64 (k : Int) := he 1 (by kernel_rfl)
          refine wpOp_step rfl (fun K hK => ?_)
          go_simp
          exact hK _ _ ⟨_, rfl, rfl, World.grownBy.refl _ _⟩
        · intro a w' hf he
          have f2 : a.tmps.getD 18 undef = .pointer (some (ad.add (k * 4))) := he 2 (by kernel_rfl)
          rw [show kindRow _ _ = none from by kernel_rfl] at hf
          refine wpOp_step rfl (fun K hK => ?_)
          refine wp_load_rd 68 (.tmp 18) rfl (ad.add (k * 4)) f2 (cellsOf (x1, x2, x3, b) Ad nd cd) _ (fun j v hv => by have hc := Hc1.out j v hv; rw [hf.bel.cell (block_lt_of_cell hc)]; exact hc) Try.underlying68 rfl (by kernel_rfl) ?_
          exact hK _ _ ⟨_, rfl, rfl, World.grownBy.refl _ _⟩
        · intro a w' hf he
          have k1 : a.tmps.getD 1 undef = .slice (some ad') n c' := hf.var (by kernel_rfl) rfl
          refine wpOp_step rfl (fun K hK => ?_)
          go_simp
          exact hK _ _ ⟨_, rfl, rfl, World.grownBy.refl _ _⟩
        · intro a w' hf he
          have k5 : a.tmps.getD 5 undef = .int .i64 (k : Int) := hf.var (by kernel_rfl) rfl
          refine wpOp_step rfl (fun K hK => ?_)
          go_simp
          exact hK _ _ ⟨_, rfl, rfl, World.grownBy.refl _ _⟩
        · intro a w' hf he
          have f4 : a.tmps.getD 20 undef = .slice (some ad') n c' := he 4 (by kernel_rfl)
          have f5 : a.tmps.getD 21 undef = .int .i64 (k : Int) := he 5 (by kernel_rfl)
          refine wpOp_step rfl (fun K hK => ?_)
          go_simp
          exact hK _ _ ⟨_, rfl, rfl, World.grownBy.refl _ _⟩
        · intro a w' hf he
          have f6 : a.tmps.getD 22 undef = .pointer (some (ad'.add (k * 4))) := he 6 (by kernel_rfl)
          rw [show kindRow _ _ = none from by kernel_rfl] at hf
          refine wpOp_step rfl (fun K hK => ?_)
          refine wp_load_rd 68 (.tmp 22) rfl (ad'.add (k * 4)) f6 (cellsOf (x1, x2, x3, b) Ad' nd' cd') _ (fun j v hv => by have hc := Hc2.out j v hv; rw [hf.bel.cell (block_lt_of_cell hc)]; exact hc) Try.underlying68 rfl (by kernel_rfl) ?_
          exact hK _ _ ⟨_, rfl, rfl, World.grownBy.refl _ _⟩
        · intro a w' hf he
          have f3 : a.tmps.getD 19 undef = .agg (cellsOf (x1, x2, x3, b) Ad nd cd).toArray := he 3 (by kernel_rfl)
          have f7 : a.tmps.getD 23 undef = .agg (cellsOf (x1, x2, x3, b) Ad' nd' cd').toArray := he 7 (by kernel_rfl)
          rw [show kindRow _ _ = none from by kernel_rfl] at hf
          refine wpOp_step rfl (fun K hK => ?_)
          go_simp
          refine (c_Same x1 x2 x3 Ad Ad' nd cd nd' cd' b _ (Hd1.out.bel hf.bel) (Hd2.out.bel hf.bel)).mono ?_
          rintro e w2 ⟨rfl, hb2⟩
          exact hK _ _ ⟨_, rfl, rfl, grown_bel hb2⟩
        · intro a w' hf he
          have f8 : a.tmps.getD 24 undef = .bool true := he 8 (by kernel_rfl)
          refine wpOp_step rfl (fun K hK => ?_)
          go_simp
          exact hK _ _ ⟨_, rfl, rfl, World.grownBy.refl _ _⟩
      · intro a w' hf he
        obtain ⟨u16, f0⟩ : ∃ u, a.tmps.getD 16 undef = u := ⟨_, rfl⟩
        obtain ⟨u17, f1⟩ : ∃ u, a.tmps.getD 17 undef = u := ⟨_, rfl⟩
        obtain ⟨u18, f2⟩ : ∃ u, a.tmps.getD 18 undef = u := ⟨_, rfl⟩
        obtain ⟨u19, f3⟩ : ∃ u, a.tmps.getD 19 undef = u := ⟨_, rfl⟩
        obtain ⟨u20, f4⟩ : ∃ u, a.tmps.getD 20 undef = u := ⟨_, rfl⟩
        obtain ⟨u21, f5⟩ : ∃ u, a.tmps.getD 21 undef = u := ⟨_, rfl⟩
        obtain ⟨u22, f6⟩ : ∃ u, a.tmps.getD 22 undef = u := ⟨_, rfl⟩
        obtain ⟨u23, f7⟩ : ∃ u, a.tmps.getD 23 undef = u := ⟨_, rfl⟩
        obtain ⟨u24, f8⟩ : ∃ u, a.tmps.getD 24 undef = u := ⟨_, rfl⟩
        have f9 : a.tmps.getD 25 undef = .bool false := he 9 (by decide)
        have hlit := hf.lit ((16, u16) :: (17, u17) :: (18, u18) :: (19, u19) :: (20, u20) :: (21, u21) :: (22, u22) :: (23, u23) :: (24, u24) :: (25, .bool false) :: []) (by kernel_rfl) ⟨f0, f1, f2, f3, f4, f5, f6, f7, f8, f9, trivial⟩
        have hB := hf.bel
        clear he hf f0 f1 f2 f3 f4 f5 f6 f7 f8 f9 
        subst hlit
        simp only [putAll_nil, putAll_cons, Act.put, List.setIfInBounds_toArray, List.set_cons_zero, List.set_cons_succ]
        simp only [List.drop_succ_cons, List.drop_zero]
        have hB2 : Below w.heap.size w w' := hB0.trans (hB.mono hB0.size)
        clear hB
        go_wp2_with fail
        go_roundw
        case rel => exact ⟨k + 1, by omega, by go_num, hB2⟩
        case measure => simp [intOf] <;> omega
    · go_wp2_with fail
      go_ret
      exact ⟨rfl, hB0⟩
end Go.Proofs.Ytlfphoablloodaa.Vol
