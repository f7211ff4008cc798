/- A rule for regions in which some operations (stores, allocations, calls) turn what a relation allows, and all others leave the heap as it was. Conditions: none. -/
import Derived.Test.YtplemdgihlabgaaRegion
import Derived.Test.YtplemdgihlabgaaFrame
set_option linter.unusedVariables false
set_option linter.unusedSimpArgs false
namespace Go.Proofs.Ytplemdgihlabgaa.Tw
open Go.RowKit
variable {P : Program} {ops : Array Oper} {Q : Exit → Act → World → Prop}
structure RelOk (G : Bool → World → World → Prop) : Prop where
  refl : ∀ b w, G b w w
  trans : ∀ b u v w, G b u v → G b v w → G b u w
  up : ∀ u v, G false u v → G true u v
theorem RelOk.any {G : Bool → World → World → Prop} (h : RelOk G) {b : Bool} {u v : World} (hg : G b u v) : G true u v := by
  cases b with
  | true => exact hg
  | false => exact h.up _ _ hg
def outV (ops : Array Oper) (i : Nat) (v : Value) : Value := match dstOf ops i with | some _ => v | none => undef
structure RFactsG (ops : Array Oper) (N : Nat) (a0 : Act) (w0 : World) (G : World → World → Prop) (a : Act) (w : World) : Prop where
  size : a.tmps.size = a0.tmps.size
  defers : a.defers = a0.defers
  rel : G w0 w
  keep : ∀ s, (∀ i, i < N → dstOf ops i ≠ some s) → a.tmps.getD s undef = a0.tmps.getD s undef
def chkG (ops : Array Oper) (N sz : Nat) : Bool :=
  ((List.range ops.size).all fun i => match ops[i]? with | none => true | some o => o.after.all fun e => !Region.binds .any e || decide (e.on < i)) &&
  ((List.range N).all fun i => (List.range i).all fun j => dstOf ops i == none || dstOf ops i != dstOf ops j) &&
  ((List.range N).all fun i => match dstOf ops i with | some d => decide (d < sz) | none => true) &&
  ((List.range ops.size).all fun k => decide (k < N) || (List.range k).all fun j => ancB ops ops.size k j) &&
  decide (N ≤ ops.size)

theorem wpAny_factsG {a0 : Act} {w : World} (N : Nat) {G : Bool → World → World → Prop} (hG : RelOk G) (kind : Nat → Bool) (Φ : Nat → Value → World → Prop)
    (hchk : chkG ops N a0.tmps.size = true)
    (hstab : ∀ i, i < N → ∀ v w w', Φ i v w → G (!clsB ops N kind i) w w' → Φ i v w')
    (h1 : ∀ i, i < N → ∀ a w', RFactsG ops N a0 w.drew (G (!preB ops N kind i)) a w' → (∀ o, ops[i]? = some o → ∀ e ∈ o.after, Region.binds .any e = true → Φ e.on (slotV ops a e.on) w') →
      wpOp P ops Q i (fun a' w2 => ∃ v, a' = a.put (dstOf ops i) v ∧ Φ i (outV ops i v) w2 ∧ G (kind i) w' w2) a w')
    (h2 : ∀ a w', RFactsG ops N a0 w.drew (G true) a w' → (∀ i, i < N → Φ i (slotV ops a i) w') → wpList P ops Q (ops.toList.drop N) a w') :
    wpAny P .any ops Q ops.size (Array.replicate ops.size false) a0 { w with drawn := w.drawn + 1 } := by
  have hcls : ∀ i, clsB ops N kind i = true → ∀ j, j < N → kind j = true → j = i ∨ ancB ops ops.size i j = true := by
    intro i hc j hj hk
    simp only [clsB, List.all_eq_true, List.mem_range] at hc
    have := hc j hj
    simp [hk] at this
    exact this
  have hpreB : ∀ i, preB ops N kind i = true → ∀ j, j < N → kind j = true → j = i ∨ ancB ops ops.size j i = true := by
    intro i hc j hj hk
    simp only [preB, List.all_eq_true, List.mem_range] at hc
    have := hc j hj
    simp [hk] at this
    exact this
  simp only [chkG, Bool.and_eq_true, List.all_eq_true, List.mem_range, decide_eq_true_eq] at hchk
  obtain ⟨⟨⟨⟨hb0, hd0⟩, hs0⟩, ht0⟩, hN⟩ := hchk
  have hback : ∀ i o, ops[i]? = some o → ∀ e ∈ o.after, Region.binds .any e = true → e.on < i := by
    intro i o ho e he hb
    have hi : i < ops.size := (Array.getElem?_eq_some_iff.1 ho).1
    have := hb0 i hi
    simp only [ho, Array.all_eq_true_iff_forall_mem] at this
    have := this e he
    simpa [hb] using this
  have hdist : ∀ i, i < N → ∀ j, j < N → i ≠ j → ∀ d, dstOf ops i = some d → dstOf ops j ≠ some d := by
    intro i hi j hj hij d hd hd2
    rcases Nat.lt_or_gt_of_ne hij with hlt | hgt
    · have := hd0 j hj i hlt
      simp [hd, hd2] at this
    · have := hd0 i hi j hgt
      simp [hd, hd2] at this
  have hsz : ∀ i, i < N → ∀ d, dstOf ops i = some d → d < a0.tmps.size := by
    intro i hi d hd
    have := hs0 i hi
    simpa [hd] using this
  have htail : ∀ k, N ≤ k → k < ops.size → ∀ j, j < k → ancB ops ops.size k j = true := by
    intro k hk hkl j hj
    have := ht0 k hkl
    simp only [Bool.or_eq_true, decide_eq_true_eq, List.all_eq_true, List.mem_range] at this
    rcases this with h | h
    · omega
    · exact h j hj
  have main : ∀ (fuel : Nat) (l : Array Bool), l.size = ops.size → unl l = fuel → (∀ k, N ≤ k → k < ops.size → l.getD k false = false) → (∀ i o, l.getD i false = true → ops[i]? = some o → ∀ e ∈ o.after, Region.binds .any e = true → l.getD e.on false = true) →
      ∀ a w', RFactsG ops N a0 w.drew (G true) a w' → ((∀ j, j < N → kind j = true → l.getD j false = false) → G false w.drew w') → (∀ i, i < N → l.getD i false = true → Φ i (slotV ops a i) w') → wpAny P .any ops Q fuel l a w' := by
    intro fuel
    induction fuel with
    | zero =>
      intro l hl hu hnt hcl a w' hf hg0 hΦ
      have hall : ∀ i, i < ops.size → l.getD i false = true := fun i hi => unl_zero hu (by omega)
      have hNe : N = ops.size := by
        rcases Nat.lt_or_ge N ops.size with hlt | hge
        · have := hnt N (Nat.le_refl _) hlt
          rw [hall N hlt] at this
          cases this
        · omega
      refine any_tail htail hback 0 l N (Nat.le_refl _) hl hu (fun j hj => ⟨fun _ => by omega, fun _ => hall j hj⟩) a w' (h2 a w' hf fun i hi => hΦ i hi (hall i (by omega)))
    | succ fuel ih =>
      intro l hl hu hnt hcl a w' hf hg0 hΦ
      by_cases hpre : ∀ i, i < N → l.getD i false = true
      · refine any_tail htail hback (fuel + 1) l N (Nat.le_refl _) hl hu (fun j hj => ⟨fun hlj => ?_, fun hj => hpre j hj⟩) a w' (h2 a w' hf fun i hi => hΦ i hi (hpre i hi))
        rcases Nat.lt_or_ge j N with hlt | hge
        · exact hlt
        · rw [hnt j hge hj] at hlj; cases hlj
      · refine ⟨fun hr => ?_, fun i hi => ?_⟩
        · exact (hpre fun i hi => ready_nil_all hback hl hr (by omega)).elim
        · obtain ⟨g1, o, ho, he⟩ := mem_ready.1 hi
          obtain ⟨g2, g3⟩ := getD_of_false g1
          have hiN : i < N := by
            rcases Nat.lt_or_ge i N with hlt | hge
            · exact hlt
            · refine (hpre fun j hj => ?_).elim
              exact ready_anc hcl ho he (htail i hge (by omega) j (by omega))
          have hedge : ∀ o', ops[i]? = some o' → ∀ e ∈ o'.after, Region.binds .any e = true → Φ e.on (slotV ops a e.on) w' := by
            intro o' ho' e he' hb
            rw [ho] at ho'
            injection ho' with ho'
            subst ho'
            have hlt := hback i o ho e he' hb
            exact hΦ e.on (by omega) (he e he' hb)
          have hf' : RFactsG ops N a0 w.drew (G (!preB ops N kind i)) a w' := by
            refine ⟨hf.size, hf.defers, ?_, hf.keep⟩
            cases hp : preB ops N kind i with
            | false => exact hf.rel
            | true =>
              refine hg0 fun j hj hk => ?_
              cases hlj : l.getD j false with
              | false => rfl
              | true =>
                rcases hpreB i hp j hj hk with h | h
                · subst h; rw [g3] at hlj; cases hlj
                · have := anc_listed hcl _ _ _ hlj h
                  rw [g3] at this
                  cases this
          refine wpOp_mono ?_ (h1 i hiN a w' hf' hedge)
          rintro a' w2 ⟨v, rfl, hv, hg⟩
          refine ih _ (by simpa using hl) (by have := unl_set g1; omega) (fun k hk hks => ?_) (fun k ok hlk hok e hem hb => ?_) _ w2 ?_ (fun hno => ?_) ?_
          · rw [getD_set, if_neg (by omega)]
            exact hnt k hk hks
          · rw [getD_set] at hlk ⊢
            by_cases hik : i = k
            · subst hik
              rw [ho] at hok
              injection hok with hok
              subst hok
              split
              · rfl
              · exact he e hem hb
            · rw [if_neg (fun h => hik h.1)] at hlk
              split
              · rfl
              · exact hcl k ok hlk hok e hem hb
          · refine ⟨by rw [size_put]; exact hf.size, by rw [defers_put]; exact hf.defers, hG.trans _ _ _ _ hf.rel (hG.any hg), fun s hs => ?_⟩
            rw [getD_put, if_neg (fun h => hs i hiN h.1)]
            exact hf.keep s hs
          · have hki : kind i = false := by
              cases hk : kind i with
              | false => rfl
              | true =>
                have := hno i hiN hk
                rw [getD_set, if_pos ⟨rfl, by omega⟩] at this
                cases this
            refine hG.trans _ _ _ _ (hg0 fun j hj hk => ?_) (by rw [hki] at hg; exact hg)
            have := hno j hj hk
            rw [getD_set] at this
            split at this
            · cases this
            · exact this
          · intro j hj hlj
            unfold slotV
            by_cases hij : i = j
            · subst hij
              unfold outV at hv
              cases hd : dstOf ops i with
              | none => simpa only [hd] using hv
              | some d =>
                simp only [hd] at hv
                dsimp only
                rw [getD_put, if_pos ⟨rfl, by rw [hf.size]; exact hsz i hiN d hd⟩]
                exact hv
            · rw [getD_set, if_neg (fun h => hij h.1)] at hlj
              have hanc : ancB ops ops.size j i = false := by
                cases hb : ancB ops ops.size j i with
                | false => rfl
                | true =>
                  have := anc_listed hcl _ _ _ hlj hb
                  rw [g3] at this
                  cases this
              have hg' : G (!clsB ops N kind j) w' w2 := by
                cases hc : clsB ops N kind j with
                | false => exact hG.any hg
                | true =>
                  cases hk : kind i with
                  | false => rw [hk] at hg; exact hg
                  | true =>
                    rcases hcls j hc i hiN hk with h | h
                    · exact (hij h).elim
                    · rw [hanc] at h; cases h
              have hold := hstab j hj _ _ _ (hΦ j hj hlj) hg'
              unfold slotV at hold
              cases hd : dstOf ops j with
              | none => simp only [hd] at hold ⊢; exact hold
              | some d =>
                simp only [hd] at hold ⊢
                rw [getD_put, if_neg (fun h => hdist j hj i hiN (fun e => hij e.symm) d hd h.1)]
                exact hold
  refine main ops.size _ (by simp) ?_ (fun k _ _ => ?_) (fun i o h => ?_) a0 _ ⟨rfl, rfl, hG.refl _ _, fun _ _ => rfl⟩ (fun _ => hG.refl _ _) (fun i _ h => ?_)
  · show (Array.replicate ops.size false).toList.countP _ = _
    rw [Array.toList_replicate, List.countP_replicate]
    simp
  · simp [Array.getD]
  · simp [Array.getD] at h
  · simp [Array.getD] at h


theorem RFactsG.var {N : Nat} {a0 a : Act} {w0 w : World} {G : World → World → Prop} (h : RFactsG ops N a0 w0 G a w) {s : Nat} {v : Value} (hk : keepB ops N s = true) (hv : a0.tmps.getD s undef = v) : a.tmps.getD s undef = v := by
  rw [← hv]
  refine h.keep s fun i hi hd => ?_
  simp only [keepB, List.all_eq_true, List.mem_range] at hk
  have := hk i hi
  simp [hd] at this


theorem wpAny_phiG {a0 : Act} {w : World} (N : Nat) {G : Bool → World → World → Prop} (hG : RelOk G) (kind : Nat → Bool) (Φ : Nat → Value → World → Prop)
    (hchk : chkG ops N a0.tmps.size = true)
    (hstab : ∀ i, i < N → ∀ v w w', Φ i v w → G (!clsB ops N kind i) w w' → Φ i v w')
    (h1 : ∀ i, i < N → ∀ a w', RFactsG ops N a0 w.drew (G (!preB ops N kind i)) a w' → (∀ j, depB ops i j = true → Φ j (slotV ops a j) w') →
      wpOp P ops Q i (fun a' w2 => ∃ v, a' = a.put (dstOf ops i) v ∧ Φ i (outV ops i v) w2 ∧ G (kind i) w' w2) a w')
    (h2 : ∀ a w', RFactsG ops N a0 w.drew (G true) a w' → (∀ i, i < N → Φ i (slotV ops a i) w') → wpList P ops Q (ops.toList.drop N) a w') :
    wpAny P .any ops Q ops.size (Array.replicate ops.size false) a0 { w with drawn := w.drawn + 1 } := by
  have hN : N ≤ ops.size := by
    simp only [chkG, Bool.and_eq_true, decide_eq_true_eq] at hchk
    exact hchk.2
  have hb0 : ∀ i, i < ops.size → ∀ o, ops[i]? = some o → ∀ e ∈ o.after, Region.binds .any e = true → e.on < i := by
    simp only [chkG, Bool.and_eq_true, List.all_eq_true, List.mem_range] at hchk
    intro i hi o ho e he hb
    have := hchk.1.1.1.1 i hi
    simp only [ho, Array.all_eq_true_iff_forall_mem] at this
    have := this e he
    simpa [hb] using this
  refine wpAny_factsG N hG kind (fun i v w => i < N → Φ i v w) hchk (fun i _ v w w' h hg hi => hstab i hi v w w' (h hi) hg) (fun i hi a w' hf he => ?_) (fun a w' hf h => h2 a w' hf fun i hi => h i hi hi)
  refine wpOp_mono ?_ (h1 i hi a w' hf fun j hj => ?_)
  · rintro a' w2 ⟨v, h1, h2, h3⟩
    exact ⟨v, h1, fun _ => h2, h3⟩
  · unfold depB at hj
    split at hj
    · rename_i o ho
      rw [Array.any_eq_true'] at hj
      obtain ⟨e, hm2, hx⟩ := hj
      simp at hx
      obtain ⟨hx1, rfl⟩ := hx
      exact he o ho e hm2 hx1 (by have := hb0 i (by omega) o ho e hm2 hx1; omega)
    · cases hj

theorem wp_region_rel {id : Nat} {a0 : Act} {w : World} (hm : P.follows .mixedOrders = true) (N : Nat) {G : Bool → World → World → Prop} (hG : RelOk G) (kind : Nat → Bool) (Φ : Nat → Value → World → Prop)
    (hchk : chkG ops N a0.tmps.size = true)
    (hstab : ∀ i, i < N → ∀ v w w', Φ i v w → G (!clsB ops N kind i) w w' → Φ i v w')
    (h1 : ∀ i, i < N → ∀ a w', RFactsG ops N a0 w.drew (G (!preB ops N kind i)) a w' → (∀ j, depB ops i j = true → Φ j (slotV ops a j) w') →
      wpOp P ops Q i (fun a' w2 => ∃ v, a' = a.put (dstOf ops i) v ∧ Φ i (outV ops i v) w2 ∧ G (kind i) w' w2) a w')
    (h2 : ∀ a w', RFactsG ops N a0 w.drew (G true) a w' → (∀ i, i < N → Φ i (slotV ops a i) w') → wpList P ops Q (ops.toList.drop N) a w') :
    (Code.region id ops true).wp P Q a0 w :=
  wp_region_any hm (wpAny_phiG N hG kind Φ hchk hstab h1 h2)

theorem RFactsG.lit {N : Nat} {a0 a : Act} {w0 w : World} {G : World → World → Prop} (h : RFactsG ops N a0 w0 G a w) (l : List (Nat × Value))
    (hc : ((List.range N).all fun i => dstOf ops i == none || (l.map (·.1)).any fun s => dstOf ops i == some s) = true) (hl : AllAt a l) : a = putAll l a0 := by
  have hsz : a.tmps.size = (putAll l a0).tmps.size := by rw [putAll_size, h.size]
  have ht : a.tmps = (putAll l a0).tmps := by
    refine Array.ext hsz fun i hi hi2 => ?_
    have := putAll_get a l a0 h.size.symm hl i ?_
    · simp [Array.getD, hi, hi2] at this
      exact this.symm
    · by_cases hk : ∀ k, k < N → dstOf ops k ≠ some i
      · exact .inl (h.keep i hk)
      · simp only [Classical.not_forall] at hk
        obtain ⟨k, hk, hd⟩ := hk
        have hd : dstOf ops k = some i := Classical.not_not.1 hd
        right
        simp only [List.all_eq_true, List.mem_range, Bool.or_eq_true, List.any_eq_true, List.mem_map] at hc
        have hck := hc k hk
        rw [hd] at hck
        obtain ⟨s, ⟨p, hp, rfl⟩, hs⟩ := hck.resolve_left (by simp)
        exact ⟨p, hp, Option.some.inj (beq_iff_eq.1 hs).symm⟩
  have hd : a.defers = (putAll l a0).defers := by rw [putAll_defers, h.defers]
  cases a
  cases hp : putAll l a0
  simp_all

/-- nothing but draws -/
structure Still (w w' : World) : Prop where
  os : w'.os = w.os
  tape : w'.tape = w.tape
  output : w'.output = w.output
  heap : w'.heap = w.heap
theorem Still.refl (w : World) : Still w w := ⟨rfl, rfl, rfl, rfl⟩
theorem Still.trans {u v w : World} (h : Still u v) (k : Still v w) : Still u w := ⟨k.os.trans h.os, k.tape.trans h.tape, k.output.trans h.output, k.heap.trans h.heap⟩
/-- From block B on what is there may turn; the block B itself, once it is as R says, stays so. -/
structure BoxRel (B : Nat) (R : Option Obj → Prop) (w w' : World) : Prop where
  fr : Fr (fun k => B ≤ k) w w'
  box : R (w.heap[B]?) → R (w'.heap[B]?)
def boxG (B : Nat) (R : Option Obj → Prop) : Bool → World → World → Prop
  | false => Still
  | true => BoxRel B R
theorem boxG_ok (B : Nat) (R : Option Obj → Prop) : RelOk (boxG B R) where
  refl b w := by
    cases b with
    | false => exact Still.refl w
    | true => exact ⟨Fr.refl _ _, fun h => h⟩
  trans b u v w h k := by
    cases b with
    | false => exact Still.trans h k
    | true => exact ⟨h.fr.trans k.fr (fun _ _ e => e), fun hr => k.box (h.box hr)⟩
  up u v h := ⟨⟨h.os, h.tape, h.output, by rw [h.heap]; exact Nat.le_refl _, fun k _ _ => by rw [h.heap]⟩, fun hr => by rw [h.heap]; exact hr⟩
end Go.Proofs.Ytplemdgihlabgaa.Tw
