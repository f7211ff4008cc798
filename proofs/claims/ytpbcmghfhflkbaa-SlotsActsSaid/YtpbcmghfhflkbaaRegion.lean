/- A region that draws its order, by one fact for each operation: what it leaves in its slot, said of whatever world comes behind; the operations behind the first N (each after all before it) are walked in the text's order. Conditions: none. -/
import Derived.Test.YtpbcmghfhflkbaaTw
import Derived.Orders
import Derived.RegionTactic
set_option linter.unusedVariables false
set_option linter.unusedSimpArgs false
namespace Go.Proofs.Ytpbcmghfhflkbaa.Tw
open Go.RowKit

def dstOf (ops : Array Oper) (i : Nat) : Option Tmp := (ops[i]?).bind (·.dst)
def slotV (ops : Array Oper) (a : Act) (i : Nat) : Value := match dstOf ops i with | some d => a.tmps.getD d undef | none => undef

/-- does operation i stand behind operation j, by a chain of edges? -/
def ancB (ops : Array Oper) : Nat → Nat → Nat → Bool
  | 0, _, _ => false
  | n + 1, i, j => match ops[i]? with | some o => o.after.any fun e => Region.binds .any e && (e.on == j || ancB ops n e.on j) | none => false
def chkR (ops : Array Oper) (N sz : Nat) : Bool :=
  ((List.range ops.size).all fun i => match ops[i]? with | none => true | some o => o.after.all fun e => !Region.binds .any e || decide (e.on < i)) &&
  ((List.range N).all fun i => (List.range i).all fun j => dstOf ops i == none || dstOf ops i != dstOf ops j) &&
  ((List.range N).all fun i => match dstOf ops i with | some d => decide (d < sz) | none => false) &&
  ((List.range ops.size).all fun k => decide (k < N) || (List.range k).all fun j => ancB ops ops.size k j) &&
  decide (N ≤ ops.size)

/-- every operation that turns the row stands ahead of i, or is i -/
def clsB (ops : Array Oper) (N : Nat) (kind : Nat → Bool) (i : Nat) : Bool := (List.range N).all fun j => !kind j || j == i || ancB ops ops.size i j

/-- every operation that turns the row stands behind i, or is i -/
def preB (ops : Array Oper) (N : Nat) (kind : Nat → Bool) (i : Nat) : Bool := (List.range N).all fun j => !kind j || j == i || ancB ops ops.size j i

theorem grownBy_none {w w' : World} {row : Option Nat} (h : w.grownBy w' none) : w.grownBy w' row := ⟨h.os, h.tape, h.output, h.size, fun k hk _ => h.block k hk (by simp)⟩
def kindRow (row : Option Nat) (b : Bool) : Option Nat := if b = true then row else none
theorem kindRow_row {w w' : World} {row : Option Nat} {b : Bool} (h : w.grownBy w' (kindRow row b)) : w.grownBy w' row := by
  cases b with
  | true => exact h
  | false => exact grownBy_none h

structure RFacts (ops : Array Oper) (N : Nat) (a0 : Act) (w0 : World) (row : Option Nat) (a : Act) (w : World) : Prop where
  size : a.tmps.size = a0.tmps.size
  defers : a.defers = a0.defers
  grown : w0.grownBy w row
  keep : ∀ s, (∀ i, i < N → dstOf ops i ≠ some s) → a.tmps.getD s undef = a0.tmps.getD s undef

def unl (l : Array Bool) : Nat := l.toList.countP (· == false)

theorem countP_set_false : ∀ (l : List Bool) (i : Nat), l[i]? = some false → (l.set i true).countP (· == false) + 1 = l.countP (· == false)
  | [], i, h => by simp at h
  | b :: l, 0, h => by
    simp at h
    subst h
    simp
  | b :: l, i + 1, h => by
    simp at h
    have := countP_set_false l i h
    cases b <;> simp at * <;> omega

theorem unl_set {l : Array Bool} {i : Nat} (h : l.getD i true = false) : unl (l.setIfInBounds i true) + 1 = unl l := by
  unfold unl
  rw [Array.toList_setIfInBounds]
  refine countP_set_false _ _ ?_
  by_cases hi : i < l.size
  · simp [Array.getD, hi] at h
    simp [hi, h]
  · simp [Array.getD, hi] at h

theorem unl_zero {l : Array Bool} (h : unl l = 0) {i : Nat} (hi : i < l.size) : l.getD i false = true := by
  unfold unl at h
  rw [List.countP_eq_zero] at h
  have := h l[i] (by simp)
  simp [Array.getD, hi]
  simpa using this

section
variable {P : Program} {ops : Array Oper} {Q : Exit → Act → World → Prop}

theorem getD_of_false {l : Array Bool} {i : Nat} (h : l.getD i true = false) : i < l.size ∧ l.getD i false = false := by
  by_cases hi : i < l.size
  · simp [Array.getD, hi] at h ⊢
    exact h
  · simp [Array.getD, hi] at h

/-- some operation that is not listed is ready, where edges go back alone -/
theorem ready_least (hback : ∀ i o, ops[i]? = some o → ∀ e ∈ o.after, Region.binds .any e = true → e.on < i) {l : Array Bool} (hl : l.size = ops.size) :
    ∀ n i, i ≤ n → i < ops.size → l.getD i false = false → ∃ j, j ∈ Region.ready .any ops l := by
  intro n
  induction n with
  | zero =>
    intro i hi hlt hf
    have : i = 0 := by omega
    subst this
    refine ⟨0, mem_ready.2 ⟨by simp [Array.getD, hl, hlt] at hf ⊢; exact hf, ops[0], by simp [hlt], fun e he hb => ?_⟩⟩
    have := hback 0 _ (by simp [hlt]) e he hb
    omega
  | succ n ih =>
    intro i hi hlt hf
    by_cases hall : ∀ e ∈ (ops[i]'hlt).after, Region.binds .any e = true → l.getD e.on false = true
    · exact ⟨i, mem_ready.2 ⟨by simp [Array.getD, hl, hlt] at hf ⊢; exact hf, ops[i], by simp [hlt], hall⟩⟩
    · simp only [Classical.not_forall] at hall
      obtain ⟨e, he, hb, hne⟩ := hall
      have hlt2 := hback i _ (by simp [hlt]) e he hb
      exact ih e.on (by omega) (by omega) (by simpa using hne)

theorem ready_nil_all (hback : ∀ i o, ops[i]? = some o → ∀ e ∈ o.after, Region.binds .any e = true → e.on < i) {l : Array Bool} (hl : l.size = ops.size) (h : Region.ready .any ops l = []) {i : Nat} (hi : i < ops.size) : l.getD i false = true := by
  cases hf : l.getD i false with
  | true => rfl
  | false =>
    obtain ⟨j, hj⟩ := ready_least hback hl i i (Nat.le_refl _) hi hf
    rw [h] at hj
    cases hj

theorem getD_set (l : Array Bool) (i j : Nat) : (l.setIfInBounds i true).getD j false = if i = j ∧ j < l.size then true else l.getD j false := by
  by_cases hij : i = j
  · subst hij
    by_cases hi : i < l.size
    · simp [Array.getD, hi]
    · simp [Array.getD, hi]
  · by_cases hj : j < l.size
    · simp [Array.getD, hj, hij]
    · simp [Array.getD, hj]

theorem getD_put (a : Act) (dst : Option Tmp) (v : Value) (s : Nat) : (a.put dst v).tmps.getD s undef = if dst = some s ∧ s < a.tmps.size then v else a.tmps.getD s undef := by
  cases dst with
  | none => simp [Act.put]
  | some d =>
    by_cases hd : d = s
    · subst hd
      by_cases hs : d < a.tmps.size
      · simp [Act.put, Array.getD, hs]
      · simp [Act.put, Array.getD, hs]
    · by_cases hs : s < a.tmps.size
      · simp [Act.put, Array.getD, hs, hd]
      · simp [Act.put, Array.getD, hs]

theorem size_put (a : Act) (dst : Option Tmp) (v : Value) : (a.put dst v).tmps.size = a.tmps.size := by cases dst <;> simp [Act.put]
theorem defers_put (a : Act) (dst : Option Tmp) (v : Value) : (a.put dst v).defers = a.defers := by cases dst <;> simp [Act.put]

theorem anc_listed {l : Array Bool} (hcl : ∀ i o, l.getD i false = true → ops[i]? = some o → ∀ e ∈ o.after, Region.binds .any e = true → l.getD e.on false = true) :
    ∀ n i j, l.getD i false = true → ancB ops n i j = true → l.getD j false = true := by
  intro n
  induction n with
  | zero => intro i j _ h; simp [ancB] at h
  | succ n ih =>
    intro i j hi h
    unfold ancB at h
    split at h
    · rename_i o ho
      rw [Array.any_eq_true'] at h
      obtain ⟨e, hm, hx⟩ := h
      simp at hx
      have he := hcl i o hi ho e hm hx.1
      rcases hx.2 with h | h
      · exact h ▸ he
      · exact ih e.on j he h
    · cases h

/-- what stands ahead of a ready operation is listed -/
theorem ready_anc {l : Array Bool} (hcl : ∀ i o, l.getD i false = true → ops[i]? = some o → ∀ e ∈ o.after, Region.binds .any e = true → l.getD e.on false = true) {i j n : Nat} {o : Oper} (ho : ops[i]? = some o) (he : ∀ e ∈ o.after, Region.binds .any e = true → l.getD e.on false = true) (h : ancB ops n i j = true) : l.getD j false = true := by
  cases n with
  | zero => simp [ancB] at h
  | succ n =>
    simp only [ancB, ho, Array.any_eq_true'] at h
    obtain ⟨e, hm, hx⟩ := h
    simp at hx
    rcases hx.2 with h | h
    · exact h ▸ he e hm hx.1
    · exact anc_listed hcl _ _ _ (he e hm hx.1) h

/-- the tail, in the text's order -/
theorem any_tail {N : Nat} (htail : ∀ k, N ≤ k → k < ops.size → ∀ j, j < k → ancB ops ops.size k j = true)
    (hback : ∀ i o, ops[i]? = some o → ∀ e ∈ o.after, Region.binds .any e = true → e.on < i) :
    ∀ (fuel : Nat) (l : Array Bool) (k : Nat), N ≤ k → l.size = ops.size → unl l = fuel → (∀ j, j < ops.size → (l.getD j false = true ↔ j < k)) → ∀ a w, wpList P ops Q (ops.toList.drop k) a w → wpAny P .any ops Q fuel l a w := by
  intro fuel
  induction fuel with
  | zero =>
    intro l k hk hl hu hls a w h
    have hall : ∀ i, i < ops.size → l.getD i false = true := fun i hi => unl_zero hu (by omega)
    refine ⟨?_, ?_⟩
    · cases hr : Region.ready .any ops l with
      | nil => rfl
      | cons j js =>
        have hj : j ∈ Region.ready .any ops l := by rw [hr]; exact List.mem_cons_self
        obtain ⟨h1, o, ho, _⟩ := mem_ready.1 hj
        obtain ⟨h2, h3⟩ := getD_of_false h1
        rw [hall j (by omega)] at h3
        cases h3
    · have : ops.toList.drop k = [] := by
        rw [List.drop_eq_nil_iff, Array.length_toList]
        rcases Nat.lt_or_ge k ops.size with hlt | hge
        · have := (hls k hlt).1 (hall k hlt); omega
        · exact hge
      rw [this] at h
      exact h
  | succ fuel ih =>
    intro l k hk hl hu hls a w h
    refine ⟨fun hr => ?_, fun i hi => ?_⟩
    · have : ops.toList.drop k = [] := by
        rw [List.drop_eq_nil_iff, Array.length_toList]
        rcases Nat.lt_or_ge k ops.size with hlt | hge
        · have := (hls k hlt).1 (ready_nil_all hback hl hr hlt); omega
        · exact hge
      rw [this] at h
      exact h
    · obtain ⟨h1, o, ho, he⟩ := mem_ready.1 hi
      obtain ⟨h2, h3⟩ := getD_of_false h1
      have hik : ¬ i < k := fun hlt => by rw [(hls i (by omega)).2 hlt] at h3; cases h3
      have hki : i = k := by
        rcases Nat.lt_or_ge k i with hlt | hge
        · have hcl : ∀ i o, l.getD i false = true → ops[i]? = some o → ∀ e ∈ o.after, Region.binds .any e = true → l.getD e.on false = true := by
            intro i' o' hl' ho' e' hm' hb'
            have h5 := (Array.getElem?_eq_some_iff.1 ho').1
            have h6 := (hls i' h5).1 hl'
            have h7 := hback i' o' ho' e' hm' hb'
            exact (hls e'.on (by omega)).2 (by omega)
          have := (hls k (by omega)).1 (ready_anc hcl ho he (htail i (by omega) (by omega) k hlt))
          omega
        · omega
      subst hki
      have hd : ops.toList.drop i = o :: ops.toList.drop (i + 1) := by
        rw [List.drop_eq_getElem_cons (by simp; omega)]
        congr 1
        obtain ⟨_, hx⟩ := Array.getElem?_eq_some_iff.1 ho
        simpa using hx
      rw [hd] at h
      have hih : ∀ a w, wpList P ops Q (ops.toList.drop (i + 1)) a w → wpAny P .any ops Q fuel (l.setIfInBounds i true) a w := fun a w h => by
        refine ih _ (i + 1) (by omega) (by simpa using hl) (by have := unl_set h1; omega) (fun j hj => ?_) a w h
        rw [getD_set]
        by_cases hij : i = j
        · subst hij
          rw [if_pos ⟨rfl, by omega⟩]
          simp
        · rw [if_neg (fun h => hij h.1), hls j hj]
          omega
      unfold wpOp
      rw [ho]
      simp only [wpList] at h
      by_cases hw : Region.wanted o (yielded ops a.tmps) = true
      · simp only [hw, if_true] at h ⊢
        exact h.imp (Oper.wp_mono hih) id
      · simp only [hw] at h ⊢
        exact hih _ _ h

theorem wpAny_facts {a0 : Act} {w : World} (N : Nat) (row : Option Nat) (kind : Nat → Bool) (Φ : Nat → Value → World → Prop)
    (hchk : chkR ops N a0.tmps.size = true)
    (hstab : ∀ i, i < N → ∀ v w w', Φ i v w → w.grownBy w' (kindRow row (!clsB ops N kind i)) → Φ i v w')
    (h1 : ∀ i, i < N → ∀ a w', RFacts ops N a0 w.drew (kindRow row (!preB ops N kind i)) a w' → (∀ o, ops[i]? = some o → ∀ e ∈ o.after, Region.binds .any e = true → Φ e.on (slotV ops a e.on) w') →
      wpOp P ops Q i (fun a' w2 => ∃ v, a' = a.put (dstOf ops i) v ∧ Φ i v w2 ∧ w'.grownBy w2 (kindRow row (kind i))) a w')
    (h2 : ∀ a w', RFacts ops N a0 w.drew row a w' → (∀ i, i < N → Φ i (slotV ops a i) w') → wpList P ops Q (ops.toList.drop N) a w') :
    wpAny P .any ops Q ops.size (Array.replicate ops.size false) a0 { w with drawn := w.drawn + 1 } := by
  have hcls : ∀ i, clsB ops N kind i = true → ∀ j, j < N → kind j = true → j = i ∨ ancB ops ops.size i j = true := by
    intro i hc j hj hk
    simp only [clsB, List.all_eq_true, List.mem_range] at hc
    have := hc j hj
    simp [hk] at this
    exact this
  have hpreB : ∀ i, preB ops N kind i = true → ∀ j, j < N → kind j = true → j = i ∨ ancB ops ops.size j i = true := by
    intro i hc j hj hk
    simp only [preB, List.all_eq_true, List.mem_range] at hc
    have := hc j hj
    simp [hk] at this
    exact this
  simp only [chkR, Bool.and_eq_true, List.all_eq_true, List.mem_range, decide_eq_true_eq] at hchk
  obtain ⟨⟨⟨⟨hb0, hd0⟩, hs0⟩, ht0⟩, hN⟩ := hchk
  have hback : ∀ i o, ops[i]? = some o → ∀ e ∈ o.after, Region.binds .any e = true → e.on < i := by
    intro i o ho e he hb
    have hi : i < ops.size := (Array.getElem?_eq_some_iff.1 ho).1
    have := hb0 i hi
    simp only [ho, Array.all_eq_true_iff_forall_mem] at this
    have := this e he
    simpa [hb] using this
  have hdist : ∀ i, i < N → ∀ j, j < N → i ≠ j → ∀ d, dstOf ops i = some d → dstOf ops j ≠ some d := by
    intro i hi j hj hij d hd hd2
    rcases Nat.lt_or_gt_of_ne hij with hlt | hgt
    · have := hd0 j hj i hlt
      simp [hd, hd2] at this
    · have := hd0 i hi j hgt
      simp [hd, hd2] at this
  have hsz : ∀ i, i < N → ∀ d, dstOf ops i = some d → d < a0.tmps.size := by
    intro i hi d hd
    have := hs0 i hi
    simpa [hd] using this
  have hnn : ∀ i, i < N → dstOf ops i ≠ none := by
    intro i hi hd
    have := hs0 i hi
    simp [hd] at this
  have htail : ∀ k, N ≤ k → k < ops.size → ∀ j, j < k → ancB ops ops.size k j = true := by
    intro k hk hkl j hj
    have := ht0 k hkl
    simp only [Bool.or_eq_true, decide_eq_true_eq, List.all_eq_true, List.mem_range] at this
    rcases this with h | h
    · omega
    · exact h j hj
  have main : ∀ (fuel : Nat) (l : Array Bool), l.size = ops.size → unl l = fuel → (∀ k, N ≤ k → k < ops.size → l.getD k false = false) → (∀ i o, l.getD i false = true → ops[i]? = some o → ∀ e ∈ o.after, Region.binds .any e = true → l.getD e.on false = true) →
      ∀ a w', RFacts ops N a0 w.drew row a w' → ((∀ j, j < N → kind j = true → l.getD j false = false) → w.drew.grownBy w' none) → (∀ i, i < N → l.getD i false = true → Φ i (slotV ops a i) w') → wpAny P .any ops Q fuel l a w' := by
    intro fuel
    induction fuel with
    | zero =>
      intro l hl hu hnt hcl a w' hf hg0 hΦ
      have hall : ∀ i, i < ops.size → l.getD i false = true := fun i hi => unl_zero hu (by omega)
      have hNe : N = ops.size := by
        rcases Nat.lt_or_ge N ops.size with hlt | hge
        · have := hnt N (Nat.le_refl _) hlt
          rw [hall N hlt] at this
          cases this
        · omega
      refine any_tail htail hback 0 l N (Nat.le_refl _) hl hu (fun j hj => ⟨fun _ => by omega, fun _ => hall j hj⟩) a w' (h2 a w' hf fun i hi => hΦ i hi (hall i (by omega)))
    | succ fuel ih =>
      intro l hl hu hnt hcl a w' hf hg0 hΦ
      by_cases hpre : ∀ i, i < N → l.getD i false = true
      · refine any_tail htail hback (fuel + 1) l N (Nat.le_refl _) hl hu (fun j hj => ⟨fun hlj => ?_, fun hj => hpre j hj⟩) a w' (h2 a w' hf fun i hi => hΦ i hi (hpre i hi))
        rcases Nat.lt_or_ge j N with hlt | hge
        · exact hlt
        · rw [hnt j hge hj] at hlj; cases hlj
      · refine ⟨fun hr => ?_, fun i hi => ?_⟩
        · exact (hpre fun i hi => ready_nil_all hback hl hr (by omega)).elim
        · obtain ⟨g1, o, ho, he⟩ := mem_ready.1 hi
          obtain ⟨g2, g3⟩ := getD_of_false g1
          have hiN : i < N := by
            rcases Nat.lt_or_ge i N with hlt | hge
            · exact hlt
            · refine (hpre fun j hj => ?_).elim
              exact ready_anc hcl ho he (htail i hge (by omega) j (by omega))
          have hedge : ∀ o', ops[i]? = some o' → ∀ e ∈ o'.after, Region.binds .any e = true → Φ e.on (slotV ops a e.on) w' := by
            intro o' ho' e he' hb
            rw [ho] at ho'
            injection ho' with ho'
            subst ho'
            have hlt := hback i o ho e he' hb
            exact hΦ e.on (by omega) (he e he' hb)
          have hf' : RFacts ops N a0 w.drew (kindRow row (!preB ops N kind i)) a w' := by
            refine ⟨hf.size, hf.defers, ?_, hf.keep⟩
            cases hp : preB ops N kind i with
            | false => exact hf.grown
            | true =>
              refine hg0 fun j hj hk => ?_
              cases hlj : l.getD j false with
              | false => rfl
              | true =>
                rcases hpreB i hp j hj hk with h | h
                · subst h; rw [g3] at hlj; cases hlj
                · have := anc_listed hcl _ _ _ hlj h
                  rw [g3] at this
                  cases this
          refine wpOp_mono ?_ (h1 i hiN a w' hf' hedge)
          rintro a' w2 ⟨v, rfl, hv, hg⟩
          refine ih _ (by simpa using hl) (by have := unl_set g1; omega) (fun k hk hks => ?_) (fun k ok hlk hok e hem hb => ?_) _ w2 ?_ (fun hno => ?_) ?_
          · rw [getD_set, if_neg (by omega)]
            exact hnt k hk hks
          · rw [getD_set] at hlk ⊢
            by_cases hik : i = k
            · subst hik
              rw [ho] at hok
              injection hok with hok
              subst hok
              split
              · rfl
              · exact he e hem hb
            · rw [if_neg (fun h => hik h.1)] at hlk
              split
              · rfl
              · exact hcl k ok hlk hok e hem hb
          · refine ⟨by rw [size_put]; exact hf.size, by rw [defers_put]; exact hf.defers, hf.grown.trans (kindRow_row hg), fun s hs => ?_⟩
            rw [getD_put, if_neg (fun h => hs i hiN h.1)]
            exact hf.keep s hs
          · have hki : kind i = false := by
              cases hk : kind i with
              | false => rfl
              | true =>
                have := hno i hiN hk
                rw [getD_set, if_pos ⟨rfl, by omega⟩] at this
                cases this
            refine (hg0 fun j hj hk => ?_).trans (by rw [hki] at hg; exact hg)
            have := hno j hj hk
            rw [getD_set] at this
            split at this
            · cases this
            · exact this
          · intro j hj hlj
            unfold slotV
            by_cases hij : i = j
            · subst hij
              cases hd : dstOf ops i with
              | none => exact (hnn i hiN hd).elim
              | some d =>
                dsimp only
                rw [getD_put, if_pos ⟨rfl, by rw [hf.size]; exact hsz i hiN d hd⟩]
                exact hv
            · rw [getD_set, if_neg (fun h => hij h.1)] at hlj
              have hanc : ancB ops ops.size j i = false := by
                cases hb : ancB ops ops.size j i with
                | false => rfl
                | true =>
                  have := anc_listed hcl _ _ _ hlj hb
                  rw [g3] at this
                  cases this
              have hg' : w'.grownBy w2 (kindRow row (!clsB ops N kind j)) := by
                cases hc : clsB ops N kind j with
                | false => exact kindRow_row hg
                | true =>
                  cases hk : kind i with
                  | false => rw [hk] at hg; exact hg
                  | true =>
                    rcases hcls j hc i hiN hk with h | h
                    · exact (hij h).elim
                    · rw [hanc] at h; cases h
              have hold := hstab j hj _ _ _ (hΦ j hj hlj) hg'
              unfold slotV at hold
              cases hd : dstOf ops j with
              | none => simp only [hd] at hold ⊢; exact hold
              | some d =>
                simp only [hd] at hold ⊢
                rw [getD_put, if_neg (fun h => hdist j hj i hiN (fun e => hij e.symm) d hd h.1)]
                exact hold
  refine main ops.size _ (by simp) ?_ (fun k _ _ => ?_) (fun i o h => ?_) a0 _ ⟨rfl, rfl, World.grownBy.refl _ _, fun _ _ => rfl⟩ (fun _ => World.grownBy.refl _ _) (fun i _ h => ?_)
  · show (Array.replicate ops.size false).toList.countP _ = _
    rw [Array.toList_replicate, List.countP_replicate]
    simp
  · simp [Array.getD]
  · simp [Array.getD] at h
  · simp [Array.getD] at h

theorem allLt_zero {p : Nat → Prop} : ∀ i, i < 0 → p i := fun i h => by omega
theorem allLt_succ {N : Nat} {p : Nat → Prop} (h : ∀ i, i < N → p i) (h1 : p N) : ∀ i, i < N + 1 → p i := fun i hi => by
  rcases Nat.lt_succ_iff_lt_or_eq.1 hi with h2 | h2
  · exact h i h2
  · exact h2 ▸ h1

def depB (ops : Array Oper) (i j : Nat) : Bool := match ops[i]? with | some o => o.after.any fun e => Region.binds .any e && e.on == j | none => false
def keepB (ops : Array Oper) (N s : Nat) : Bool := (List.range N).all fun i => dstOf ops i != some s

theorem RFacts.var {N : Nat} {a0 a : Act} {w0 w : World} {row : Option Nat} (h : RFacts ops N a0 w0 row a w) {s : Nat} {v : Value} (hk : keepB ops N s = true) (hv : a0.tmps.getD s undef = v) : a.tmps.getD s undef = v := by
  rw [← hv]
  refine h.keep s fun i hi hd => ?_
  simp only [keepB, List.all_eq_true, List.mem_range] at hk
  have := hk i hi
  simp [hd] at this

theorem wpAny_phi {a0 : Act} {w : World} (N : Nat) (row : Option Nat) (kind : Nat → Bool) (Φ : Nat → Value → World → Prop)
    (hchk : chkR ops N a0.tmps.size = true)
    (hstab : ∀ i, i < N → ∀ v w w', Φ i v w → w.grownBy w' (kindRow row (!clsB ops N kind i)) → Φ i v w')
    (h1 : ∀ i, i < N → ∀ a w', RFacts ops N a0 w.drew (kindRow row (!preB ops N kind i)) a w' → (∀ j, depB ops i j = true → Φ j (slotV ops a j) w') →
      wpOp P ops Q i (fun a' w2 => ∃ v, a' = a.put (dstOf ops i) v ∧ Φ i v w2 ∧ w'.grownBy w2 (kindRow row (kind i))) a w')
    (h2 : ∀ a w', RFacts ops N a0 w.drew row a w' → (∀ i, i < N → Φ i (slotV ops a i) w') → wpList P ops Q (ops.toList.drop N) a w') :
    wpAny P .any ops Q ops.size (Array.replicate ops.size false) a0 { w with drawn := w.drawn + 1 } := by
  have hN : N ≤ ops.size := by
    simp only [chkR, Bool.and_eq_true, decide_eq_true_eq] at hchk
    exact hchk.2
  have hb0 : ∀ i, i < ops.size → ∀ o, ops[i]? = some o → ∀ e ∈ o.after, Region.binds .any e = true → e.on < i := by
    simp only [chkR, Bool.and_eq_true, List.all_eq_true, List.mem_range] at hchk
    intro i hi o ho e he hb
    have := hchk.1.1.1.1 i hi
    simp only [ho, Array.all_eq_true_iff_forall_mem] at this
    have := this e he
    simpa [hb] using this
  refine wpAny_facts N row kind (fun i v w => i < N → Φ i v w) hchk (fun i _ v w w' h hg hi => hstab i hi v w w' (h hi) hg) (fun i hi a w' hf he => ?_) (fun a w' hf h => h2 a w' hf fun i hi => h i hi hi)
  refine wpOp_mono ?_ (h1 i hi a w' hf fun j hj => ?_)
  · rintro a' w2 ⟨v, h1, h2, h3⟩
    exact ⟨v, h1, fun _ => h2, h3⟩
  · unfold depB at hj
    split at hj
    · rename_i o ho
      rw [Array.any_eq_true'] at hj
      obtain ⟨e, hm2, hx⟩ := hj
      simp at hx
      obtain ⟨hx1, rfl⟩ := hx
      exact he o ho e hm2 hx1 (by have := hb0 i (by omega) o ho e hm2 hx1; omega)
    · cases hj
theorem wp_region_phi {id : Nat} {a0 : Act} {w : World} (hm : P.follows .mixedOrders = true) (N : Nat) (row : Option Nat) (kind : Nat → Bool) (Φ : Nat → Value → World → Prop)
    (hchk : chkR ops N a0.tmps.size = true)
    (hstab : ∀ i, i < N → ∀ v w w', Φ i v w → w.grownBy w' (kindRow row (!clsB ops N kind i)) → Φ i v w')
    (h1 : ∀ i, i < N → ∀ a w', RFacts ops N a0 w.drew (kindRow row (!preB ops N kind i)) a w' → (∀ j, depB ops i j = true → Φ j (slotV ops a j) w') →
      wpOp P ops Q i (fun a' w2 => ∃ v, a' = a.put (dstOf ops i) v ∧ Φ i v w2 ∧ w'.grownBy w2 (kindRow row (kind i))) a w')
    (h2 : ∀ a w', RFacts ops N a0 w.drew row a w' → (∀ i, i < N → Φ i (slotV ops a i) w') → wpList P ops Q (ops.toList.drop N) a w') :
    (Code.region id ops true).wp P Q a0 w :=
  wp_region_any hm (wpAny_phi N row kind Φ hchk hstab h1 h2)
/-- slots laid one by one -/
def putAll : List (Nat × Value) → Act → Act
  | [], a => a
  | p :: l, a => putAll l (a.put (some p.1) p.2)
theorem putAll_nil (a : Act) : putAll [] a = a := rfl
theorem putAll_cons (p : Nat × Value) (l : List (Nat × Value)) (a : Act) : putAll (p :: l) a = putAll l (a.put (some p.1) p.2) := rfl
def AllAt (a : Act) : List (Nat × Value) → Prop
  | [] => True
  | p :: l => a.tmps.getD p.1 undef = p.2 ∧ AllAt a l
theorem putAll_size (l : List (Nat × Value)) : ∀ a : Act, (putAll l a).tmps.size = a.tmps.size := by
  induction l with
  | nil => intro a; rfl
  | cons p l ih => intro a; rw [putAll_cons, ih, size_put]
theorem putAll_defers (l : List (Nat × Value)) : ∀ a : Act, (putAll l a).defers = a.defers := by
  induction l with
  | nil => intro a; rfl
  | cons p l ih => intro a; rw [putAll_cons, ih, defers_put]
theorem putAll_get (a : Act) (l : List (Nat × Value)) : ∀ a0 : Act, a0.tmps.size = a.tmps.size → AllAt a l → ∀ s, (a.tmps.getD s undef = a0.tmps.getD s undef ∨ ∃ p ∈ l, p.1 = s) → (putAll l a0).tmps.getD s undef = a.tmps.getD s undef := by
  induction l with
  | nil => intro a0 _ _ s h; rcases h with h | ⟨p, hp, _⟩; · exact h.symm
           · cases hp
  | cons p l ih =>
    intro a0 hs hall s h
    rw [putAll_cons]
    refine ih _ (by rw [size_put]; exact hs) hall.2 s ?_
    rw [getD_put]
    by_cases hps : p.1 = s
    · left
      subst hps
      by_cases hlt : p.1 < a0.tmps.size
      · rw [if_pos ⟨rfl, hlt⟩]; exact hall.1
      · rw [if_neg (fun h => hlt h.2)]
        simp [Array.getD, show ¬ p.1 < a.tmps.size by omega, hlt]
    · rw [if_neg (fun h => hps (by injection h.1))]
      rcases h with h | ⟨q, hq, he⟩
      · exact .inl h
      · rcases List.mem_cons.1 hq with rfl | hq
        · exact (hps he).elim
        · exact .inr ⟨q, hq, he⟩
theorem RFacts.lit {N : Nat} {a0 a : Act} {w0 w : World} {row : Option Nat} (h : RFacts ops N a0 w0 row a w) (l : List (Nat × Value))
    (hc : ((List.range N).all fun i => (l.map (·.1)).any fun s => dstOf ops i == some s) = true) (hl : AllAt a l) : a = putAll l a0 := by
  have hsz : a.tmps.size = (putAll l a0).tmps.size := by rw [putAll_size, h.size]
  have ht : a.tmps = (putAll l a0).tmps := by
    refine Array.ext hsz fun i hi hi2 => ?_
    have := putAll_get a l a0 h.size.symm hl i ?_
    · simp [Array.getD, hi, hi2] at this
      exact this.symm
    · by_cases hk : ∀ k, k < N → dstOf ops k ≠ some i
      · exact .inl (h.keep i hk)
      · simp only [Classical.not_forall] at hk
        obtain ⟨k, hk, hd⟩ := hk
        have hd : dstOf ops k = some i := Classical.not_not.1 hd
        right
        simp only [List.all_eq_true, List.mem_range, List.any_eq_true, List.mem_map] at hc
        obtain ⟨s, ⟨p, hp, rfl⟩, hs⟩ := hc k hk
        rw [hd] at hs
        exact ⟨p, hp, Option.some.inj (beq_iff_eq.1 hs).symm⟩
  have hd : a.defers = (putAll l a0).defers := by rw [putAll_defers, h.defers]
  cases a
  cases hp : putAll l a0
  simp_all
theorem RFacts.bel {N : Nat} {a0 a : Act} {w w' : World} (h : RFacts ops N a0 w.drew none a w') : Below w.heap.size w w' :=
  ⟨h.grown.os, h.grown.tape, h.grown.output, h.grown.size, fun k hk => h.grown.block k hk (by simp)⟩
theorem wanted_eq {o : Oper} {a : Act} {j : Nat} {want b : Bool} {d : Tmp} (hg : o.guard = some (j, want)) (hd : dstOf ops j = some d) (hv : a.tmps.getD d undef = .bool b) : Region.wanted o (yielded ops a.tmps) = (b == want) := by
  unfold dstOf at hd
  by_cases hlt : d < a.tmps.size
  · have : a.tmps[d]? = some (.bool b) := by
      rw [← hv]
      simp [Array.getD, hlt]
    cases b <;> cases want <;> simp [Region.wanted, hg, yielded, hd, this]
  · simp [Array.getD, hlt, undef] at hv
theorem wpOp_run {i : Nat} {o : Oper} {K : Act → World → Prop} {a : Act} {w : World} {j : Nat} {want : Bool} {d : Tmp} (ho : ops[i]? = some o) (hg : o.guard = some (j, want)) (hd : dstOf ops j = some d) (hv : a.tmps.getD d undef = .bool want)
    (h : ∀ K' : Act → World → Prop, (∀ a w, K a w → K' a w) → Oper.wp P o a w K' Q) : wpOp P ops Q i K a w :=
  wpOp_step ho fun K' hK => by
    rw [wanted_eq hg hd hv, beq_self_eq_true, if_pos rfl]
    exact h K' hK
theorem wpOp_pass {i : Nat} {o : Oper} {K : Act → World → Prop} {a : Act} {w : World} {j : Nat} {want b : Bool} {d : Tmp} (ho : ops[i]? = some o) (hg : o.guard = some (j, want)) (hd : dstOf ops j = some d) (hv : a.tmps.getD d undef = .bool b) (hne : (b == want) = false)
    (h : K (a.put o.dst undef) w) : wpOp P ops Q i K a w :=
  wpOp_step ho fun K' hK => by
    rw [wanted_eq hg hd hv, hne, if_neg (by simp)]
    exact hK _ _ h
theorem grown_bel {w w' : World} {row : Option Nat} (h : Below w.heap.size w w') : w.grownBy w' row := ⟨h.os, h.tape, h.output, h.size, fun k hk _ => h.block k hk⟩
theorem bel_grown {w w' : World} (h : w.grownBy w' none) : Below w.heap.size w w' := ⟨h.os, h.tape, h.output, h.size, fun k hk => h.block k hk (by simp)⟩
end
end Go.Proofs.Ytpbcmghfhflkbaa.Tw
