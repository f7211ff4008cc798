/- A region that draws its order, whose operations turn blocks of several sets: by one fact for each operation, as in Region; each operation has a class, each class a set of blocks that it may turn. Conditions: none. -/
import Derived.Test.YtpbcmghfhflkbaaRegion
import Derived.Test.YtpbcmghfhflkbaaFrame
import Derived.Orders
import Derived.RegionTactic
set_option linter.unusedVariables false
set_option linter.unusedSimpArgs false
namespace Go.Proofs.Ytpbcmghfhflkbaa.Tw
open Go.RowKit

def setOf (Sc : Nat → Nat → Prop) : List Nat → Nat → Prop
  | [], _ => False
  | c :: l, k => Sc c k ∨ setOf Sc l k
theorem setOf_mem {Sc : Nat → Nat → Prop} {c k : Nat} (h : Sc c k) : ∀ {l : List Nat}, c ∈ l → setOf Sc l k
  | d :: l, hm => by
    rcases List.mem_cons.1 hm with rfl | hm
    · exact .inl h
    · exact .inr (setOf_mem h hm)
  | [], hm => by cases hm
def clsL (c : Nat) : List Nat := if c = 0 then [] else [c]
theorem setOf_cls {Sc : Nat → Nat → Prop} {c k : Nat} (h : setOf Sc (clsL c) k) : c ≠ 0 ∧ Sc c k := by
  unfold clsL at h
  split at h
  · exact h.elim
  · rename_i hc
    rcases h with h | h
    · exact ⟨hc, h⟩
    · exact h.elim
def chkC (ops : Array Oper) (N : Nat) (cls : Nat → Nat) (tl ul : Nat → List Nat) (al : List Nat) : Bool :=
  ((List.range N).all fun i => (List.range N).all fun j => decide (cls j = 0) || j == i || ((ancB ops ops.size i j || (tl i).contains (cls j)) && (ancB ops ops.size j i || (ul i).contains (cls j)))) &&
  (List.range N).all fun j => decide (cls j = 0) || al.contains (cls j)

structure RFactsF (ops : Array Oper) (N : Nat) (a0 : Act) (w0 : World) (S : Nat → Prop) (a : Act) (w : World) : Prop where
  size : a.tmps.size = a0.tmps.size
  defers : a.defers = a0.defers
  fr : Fr S w0 w
  keep : ∀ s, (∀ i, i < N → dstOf ops i ≠ some s) → a.tmps.getD s undef = a0.tmps.getD s undef

theorem Fr.un1 {S : Nat → Prop} {w w' : World} (h : Fr (fun k => S k ∨ False) w w') : Fr S w w' := h.mono fun _ _ h => by
  rcases h with h | h
  · exact h
  · exact h.elim
theorem Fr.cls1 {S : Nat → Prop} {w w' : World} (h : Fr S w w') : Fr (fun k => S k ∨ False) w w' := h.mono fun _ _ h => .inl h

section
variable {P : Program} {ops : Array Oper} {Q : Exit → Act → World → Prop}
theorem wp_region_factsF {id : Nat} {a0 : Act} {w : World} (hm : P.follows .mixedOrders = true) (N : Nat) (cls : Nat → Nat) (Sc : Nat → Nat → Prop) (tl ul : Nat → List Nat) (al : List Nat) (Φ : Nat → Value → World → Prop)
    (hchk : chkR ops N a0.tmps.size = true) (hcc : chkC ops N cls tl ul al = true)
    (hstab : ∀ i, i < N → ∀ v w w', Φ i v w → Fr (setOf Sc (tl i)) w w' → Φ i v w')
    (h1 : ∀ i, i < N → ∀ a w', RFactsF ops N a0 w.drew (setOf Sc (ul i)) a w' → (∀ o, ops[i]? = some o → ∀ e ∈ o.after, Region.binds .any e = true → Φ e.on (slotV ops a e.on) w') →
      wpOp P ops Q i (fun a' w2 => ∃ v, a' = a.put (dstOf ops i) v ∧ Φ i v w2 ∧ Fr (setOf Sc (clsL (cls i))) w' w2) a w')
    (h2 : ∀ a w', RFactsF ops N a0 w.drew (setOf Sc al) a w' → (∀ i, i < N → Φ i (slotV ops a i) w') → wpList P ops Q (ops.toList.drop N) a w') :
    (Code.region id ops true).wp P Q a0 w := by
  simp only [chkC, Bool.and_eq_true, List.all_eq_true, List.mem_range] at hcc
  obtain ⟨hcc1, hcc2⟩ := hcc
  have htl : ∀ i, i < N → ∀ j, j < N → j ≠ i → cls j ≠ 0 → ancB ops ops.size i j = false → cls j ∈ tl i := by
    intro i hi j hj hij hc ha
    have := hcc1 i hi j hj
    simp [hc, hij, ha] at this
    exact this.1
  have hul : ∀ i, i < N → ∀ j, j < N → j ≠ i → cls j ≠ 0 → ancB ops ops.size j i = false → cls j ∈ ul i := by
    intro i hi j hj hij hc ha
    have := hcc1 i hi j hj
    simp [hc, hij, ha] at this
    exact this.2
  have hal : ∀ j, j < N → cls j ≠ 0 → cls j ∈ al := by
    intro j hj hc
    have := hcc2 j hj
    simp [hc] at this
    exact this
  simp only [chkR, Bool.and_eq_true, List.all_eq_true, List.mem_range, decide_eq_true_eq] at hchk
  obtain ⟨⟨⟨⟨hb0, hd0⟩, hs0⟩, ht0⟩, hN⟩ := hchk
  have hback : ∀ i o, ops[i]? = some o → ∀ e ∈ o.after, Region.binds .any e = true → e.on < i := by
    intro i o ho e he hb
    have hi : i < ops.size := (Array.getElem?_eq_some_iff.1 ho).1
    have := hb0 i hi
    simp only [ho, Array.all_eq_true_iff_forall_mem] at this
    have := this e he
    simpa [hb] using this
  have hdist : ∀ i, i < N → ∀ j, j < N → i ≠ j → ∀ d, dstOf ops i = some d → dstOf ops j ≠ some d := by
    intro i hi j hj hij d hd hd2
    rcases Nat.lt_or_gt_of_ne hij with hlt | hgt
    · have := hd0 j hj i hlt
      simp [hd, hd2] at this
    · have := hd0 i hi j hgt
      simp [hd, hd2] at this
  have hsz : ∀ i, i < N → ∀ d, dstOf ops i = some d → d < a0.tmps.size := by
    intro i hi d hd
    have := hs0 i hi
    simpa [hd] using this
  have hnn : ∀ i, i < N → dstOf ops i ≠ none := by
    intro i hi hd
    have := hs0 i hi
    simp [hd] at this
  have htail : ∀ k, N ≤ k → k < ops.size → ∀ j, j < k → ancB ops ops.size k j = true := by
    intro k hk hkl j hj
    have := ht0 k hkl
    simp only [Bool.or_eq_true, decide_eq_true_eq, List.all_eq_true, List.mem_range] at this
    rcases this with h | h
    · omega
    · exact h j hj
  have main : ∀ (fuel : Nat) (l : Array Bool), l.size = ops.size → unl l = fuel → (∀ k, N ≤ k → k < ops.size → l.getD k false = false) → (∀ i o, l.getD i false = true → ops[i]? = some o → ∀ e ∈ o.after, Region.binds .any e = true → l.getD e.on false = true) →
      ∀ a w', RFactsF ops N a0 w.drew (setOf Sc al) a w' → Fr (fun k => ∃ j, j < N ∧ l.getD j false = true ∧ cls j ≠ 0 ∧ Sc (cls j) k) w.drew w' → (∀ i, i < N → l.getD i false = true → Φ i (slotV ops a i) w') → wpAny P .any ops Q fuel l a w' := by
    intro fuel
    induction fuel with
    | zero =>
      intro l hl hu hnt hcl a w' hf hg0 hΦ
      have hall : ∀ i, i < ops.size → l.getD i false = true := fun i hi => unl_zero hu (by omega)
      have hNe : N = ops.size := by
        rcases Nat.lt_or_ge N ops.size with hlt | hge
        · have := hnt N (Nat.le_refl _) hlt
          rw [hall N hlt] at this
          cases this
        · omega
      refine any_tail htail hback 0 l N (Nat.le_refl _) hl hu (fun j hj => ⟨fun _ => by omega, fun _ => hall j hj⟩) a w' (h2 a w' hf fun i hi => hΦ i hi (hall i (by omega)))
    | succ fuel ih =>
      intro l hl hu hnt hcl a w' hf hg0 hΦ
      by_cases hpre : ∀ i, i < N → l.getD i false = true
      · refine any_tail htail hback (fuel + 1) l N (Nat.le_refl _) hl hu (fun j hj => ⟨fun hlj => ?_, fun hj => hpre j hj⟩) a w' (h2 a w' hf fun i hi => hΦ i hi (hpre i hi))
        rcases Nat.lt_or_ge j N with hlt | hge
        · exact hlt
        · rw [hnt j hge hj] at hlj; cases hlj
      · refine ⟨fun hr => ?_, fun i hi => ?_⟩
        · exact (hpre fun i hi => ready_nil_all hback hl hr (by omega)).elim
        · obtain ⟨g1, o, ho, he⟩ := mem_ready.1 hi
          obtain ⟨g2, g3⟩ := getD_of_false g1
          have hiN : i < N := by
            rcases Nat.lt_or_ge i N with hlt | hge
            · exact hlt
            · refine (hpre fun j hj => ?_).elim
              exact ready_anc hcl ho he (htail i hge (by omega) j (by omega))
          have hedge : ∀ o', ops[i]? = some o' → ∀ e ∈ o'.after, Region.binds .any e = true → Φ e.on (slotV ops a e.on) w' := by
            intro o' ho' e he' hb
            rw [ho] at ho'
            injection ho' with ho'
            subst ho'
            have hlt := hback i o ho e he' hb
            exact hΦ e.on (by omega) (he e he' hb)
          have hf' : RFactsF ops N a0 w.drew (setOf Sc (ul i)) a w' := by
            refine ⟨hf.size, hf.defers, hg0.mono (fun k _ hk => ?_), hf.keep⟩
            obtain ⟨j, hj, hlj, hcj, hs⟩ := hk
            refine setOf_mem hs (hul i hiN j hj (fun e => by subst e; rw [g3] at hlj; cases hlj) hcj ?_)
            cases hb : ancB ops ops.size j i with
            | false => rfl
            | true =>
              have := anc_listed hcl _ _ _ hlj hb
              rw [g3] at this
              cases this
          refine wpOp_mono ?_ (h1 i hiN a w' hf' hedge)
          rintro a' w2 ⟨v, rfl, hv, hg⟩
          refine ih _ (by simpa using hl) (by have := unl_set g1; omega) (fun k hk hks => ?_) (fun k ok hlk hok e hem hb => ?_) _ w2 ?_ ?_ ?_
          · rw [getD_set, if_neg (by omega)]
            exact hnt k hk hks
          · rw [getD_set] at hlk ⊢
            by_cases hik : i = k
            · subst hik
              rw [ho] at hok
              injection hok with hok
              subst hok
              split
              · rfl
              · exact he e hem hb
            · rw [if_neg (fun h => hik h.1)] at hlk
              split
              · rfl
              · exact hcl k ok hlk hok e hem hb
          · refine ⟨by rw [size_put]; exact hf.size, by rw [defers_put]; exact hf.defers, hf.fr.trans hg (fun k _ hk => by obtain ⟨hc, hs⟩ := setOf_cls hk; exact setOf_mem hs (hal i hiN hc)), fun s hs => ?_⟩
            rw [getD_put, if_neg (fun h => hs i hiN h.1)]
            exact hf.keep s hs
          · refine (hg0.mono (fun k _ hk => ?_)).trans hg (fun k _ hk => ?_)
            · obtain ⟨j, hj, hlj, hcj, hs⟩ := hk
              refine ⟨j, hj, ?_, hcj, hs⟩
              rw [getD_set]
              split
              · rfl
              · exact hlj
            · obtain ⟨hc, hs⟩ := setOf_cls hk
              exact ⟨i, hiN, by rw [getD_set, if_pos ⟨rfl, by omega⟩], hc, hs⟩
          · intro j hj hlj
            unfold slotV
            by_cases hij : i = j
            · subst hij
              cases hd : dstOf ops i with
              | none => exact (hnn i hiN hd).elim
              | some d =>
                dsimp only
                rw [getD_put, if_pos ⟨rfl, by rw [hf.size]; exact hsz i hiN d hd⟩]
                exact hv
            · rw [getD_set, if_neg (fun h => hij h.1)] at hlj
              have hanc : ancB ops ops.size j i = false := by
                cases hb : ancB ops ops.size j i with
                | false => rfl
                | true =>
                  have := anc_listed hcl _ _ _ hlj hb
                  rw [g3] at this
                  cases this
              have hg' : Fr (setOf Sc (tl j)) w' w2 := hg.mono (fun k _ hk => by
                obtain ⟨hc, hs⟩ := setOf_cls hk
                exact setOf_mem hs (htl j hj i hiN hij hc hanc))
              have hold := hstab j hj _ _ _ (hΦ j hj hlj) hg'
              unfold slotV at hold
              cases hd : dstOf ops j with
              | none => simp only [hd] at hold ⊢; exact hold
              | some d =>
                simp only [hd] at hold ⊢
                rw [getD_put, if_neg (fun h => hdist j hj i hiN (fun e => hij e.symm) d hd h.1)]
                exact hold
  refine wp_region_any hm ?_
  refine main ops.size _ (by simp) ?_ (fun k _ _ => ?_) (fun i o h => ?_) a0 _ ⟨rfl, rfl, Fr.refl _ _, fun _ _ => rfl⟩ (Fr.refl _ _) (fun i _ h => ?_)
  · show (Array.replicate ops.size false).toList.countP _ = _
    rw [Array.toList_replicate, List.countP_replicate]
    simp
  · simp [Array.getD]
  · simp [Array.getD] at h
  · simp [Array.getD] at h

theorem wp_region_fr {id : Nat} {a0 : Act} {w : World} (hm : P.follows .mixedOrders = true) (N : Nat) (cls : Nat → Nat) (Sc : Nat → Nat → Prop) (tl ul : Nat → List Nat) (al : List Nat) (Φ : Nat → Value → World → Prop)
    (hchk : chkR ops N a0.tmps.size = true) (hcc : chkC ops N cls tl ul al = true)
    (hstab : ∀ i, i < N → ∀ v w w', Φ i v w → Fr (setOf Sc (tl i)) w w' → Φ i v w')
    (h1 : ∀ i, i < N → ∀ a w', RFactsF ops N a0 w.drew (setOf Sc (ul i)) a w' → (∀ j, depB ops i j = true → Φ j (slotV ops a j) w') →
      wpOp P ops Q i (fun a' w2 => ∃ v, a' = a.put (dstOf ops i) v ∧ Φ i v w2 ∧ Fr (setOf Sc (clsL (cls i))) w' w2) a w')
    (h2 : ∀ a w', RFactsF ops N a0 w.drew (setOf Sc al) a w' → (∀ i, i < N → Φ i (slotV ops a i) w') → wpList P ops Q (ops.toList.drop N) a w') :
    (Code.region id ops true).wp P Q a0 w := by
  have hN : N ≤ ops.size := by
    simp only [chkR, Bool.and_eq_true, decide_eq_true_eq] at hchk
    exact hchk.2
  have hb0 : ∀ i, i < ops.size → ∀ o, ops[i]? = some o → ∀ e ∈ o.after, Region.binds .any e = true → e.on < i := by
    simp only [chkR, Bool.and_eq_true, List.all_eq_true, List.mem_range] at hchk
    intro i hi o ho e he hb
    have := hchk.1.1.1.1 i hi
    simp only [ho, Array.all_eq_true_iff_forall_mem] at this
    have := this e he
    simpa [hb] using this
  refine wp_region_factsF hm N cls Sc tl ul al (fun i v w => i < N → Φ i v w) hchk hcc (fun i _ v w w' h hg hi => hstab i hi v w w' (h hi) hg) (fun i hi a w' hf he => ?_) (fun a w' hf h => h2 a w' hf fun i hi => h i hi hi)
  refine wpOp_mono ?_ (h1 i hi a w' hf fun j hj => ?_)
  · rintro a' w2 ⟨v, h1, h2, h3⟩
    exact ⟨v, h1, fun _ => h2, h3⟩
  · unfold depB at hj
    split at hj
    · rename_i o ho
      rw [Array.any_eq_true'] at hj
      obtain ⟨e, hm2, hx⟩ := hj
      simp at hx
      obtain ⟨hx1, rfl⟩ := hx
      exact he o ho e hm2 hx1 (by have := hb0 i (by omega) o ho e hm2 hx1; omega)
    · cases hj
theorem RFactsF.var {N : Nat} {a0 a : Act} {w0 w : World} {S : Nat → Prop} (h : RFactsF ops N a0 w0 S a w) {s : Nat} {v : Value} (hk : keepB ops N s = true) (hv : a0.tmps.getD s undef = v) : a.tmps.getD s undef = v := by
  rw [← hv]
  refine h.keep s fun i hi hd => ?_
  simp only [keepB, List.all_eq_true, List.mem_range] at hk
  have := hk i hi
  simp [hd] at this
theorem RFactsF.lit {N : Nat} {a0 a : Act} {w0 w : World} {S : Nat → Prop} (h : RFactsF ops N a0 w0 S a w) (l : List (Nat × Value))
    (hc : ((List.range N).all fun i => (l.map (·.1)).any fun s => dstOf ops i == some s) = true) (hl : AllAt a l) : a = putAll l a0 := by
  have hsz : a.tmps.size = (putAll l a0).tmps.size := by rw [putAll_size, h.size]
  have ht : a.tmps = (putAll l a0).tmps := by
    refine Array.ext hsz fun i hi hi2 => ?_
    have := putAll_get a l a0 h.size.symm hl i ?_
    · simp [Array.getD, hi, hi2] at this
      exact this.symm
    · by_cases hk : ∀ k, k < N → dstOf ops k ≠ some i
      · exact .inl (h.keep i hk)
      · simp only [Classical.not_forall] at hk
        obtain ⟨k, hk, hd⟩ := hk
        have hd : dstOf ops k = some i := Classical.not_not.1 hd
        right
        simp only [List.all_eq_true, List.mem_range, List.any_eq_true, List.mem_map] at hc
        obtain ⟨s, ⟨p, hp, rfl⟩, hs⟩ := hc k hk
        rw [hd] at hs
        exact ⟨p, hp, Option.some.inj (beq_iff_eq.1 hs).symm⟩
  have hd : a.defers = (putAll l a0).defers := by rw [putAll_defers, h.defers]
  cases a
  cases hp : putAll l a0
  simp_all
theorem RFactsF.of_start {N : Nat} {a0 a : Act} {w w' : World} {S : Nat → Prop} (h : RFactsF ops N a0 w.drew S a w') : Fr S w w' := ⟨h.fr.os, h.fr.tape, h.fr.output, h.fr.size, fun k hk hn => h.fr.block k hk hn⟩
end
end Go.Proofs.Ytpbcmghfhflkbaa.Tw
