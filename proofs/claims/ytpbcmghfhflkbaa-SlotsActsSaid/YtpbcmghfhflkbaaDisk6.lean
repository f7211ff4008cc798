/- Contracts of the package disk: Flush. Conditions: at most 10^9 operations. -/
import Derived.Test.YtpbcmghfhflkbaaDisk5
set_option linter.unusedVariables false
set_option linter.unusedSimpArgs false
namespace Go.Proofs.Ytpbcmghfhflkbaa.Disk
open Go.RowKit Tw Go.Maps Go.ChangeMaps
set_option maxHeartbeats 4000000
set_option maxRecDepth 100000

theorem ranges_fr {w w' : World} {S : Nat → Prop} {mb r m cnt : Nat} {D : DataW Value} {left : Lit → Bool} (h : w.ranges Try.prog 3 R mb r m D left cnt) (hf : Fr S w w') (h1 : ¬ S mb) (h2 : ¬ S r) : w'.ranges Try.prog 3 R mb r m D left cnt := by
  obtain ⟨es, clock, since, seen, c0, q1, q2, q3, q4, q5, q6⟩ := h
  exact ⟨es, clock, since, seen, c0, heap_fr q1 hf h1, q2, q3, q4, heap_fr q5 hf h2, q6⟩
/-- the step of a range over a map of sectors -/
theorem wpL_next {ops : Array Oper} {rest : List Oper} {w : World} {o : Oper} {a : Act} {Q : Exit → Act → World → Prop} (hg : o.guard = none) (it : Operand) (hop : o.op = Op.next it false) (b r n : Nat) (D : DataW Value) (left : Lit → Bool) (cnt : Nat)
    (hit : a.eval it = .pointer (some ⟨r, 0, none⟩)) (h : w.ranges Try.prog 3 R b r n D left cnt)
    (hDone : (∀ z, left z = false) → wpList Try.prog ops Q rest (a.put o.dst (.tuple #[.bool false])) w)
    (hMore : ∀ (x : Int) (v : Value) (w' : World) (cnt' : Nat), left (kl x) = true → (∀ zd, D.atKey (kl x) zd = .held v) → w'.ranges Try.prog 3 R b r n D (fun z => left z && !z.sameKey (kl x)) cnt' → cnt' < w.rangeLeft b r → w.grownBy w' (some r) → w'.heap.size = w.heap.size →
      (Instr.entry (.pointer (some ⟨r, 0, none⟩))).run Try.prog w' = .ok (.tuple #[.int .i64 x, v]) w' → wpList Try.prog ops Q rest (a.put o.dst (.tuple #[.bool true, .int .i64 x, v])) w') :
    wpList Try.prog ops Q (o :: rest) a w :=
  wpList_next_ranges w hg it hop 3 law R (Value.int .i64) (fun v : Value => v) (fun key k hkey => by obtain ⟨x, rfl, _⟩ := Maps.keyOf_int_inv Try.underlying3 hkey; exact ⟨x, rfl⟩) (fun v y hv => ⟨v, rfl⟩)
    b r n D left cnt hit h (fun _ hl => hDone hl) (fun x c k y w' cnt' hkey hlk hv hat hrg hlt hgr hsz hen => by
      obtain ⟨x', ex, rfl, hwx⟩ := Maps.keyOf_int_inv Try.underlying3 hkey
      cases ex
      simp only [R, Option.some.injEq] at hv
      subst hv
      exact hMore x c w' cnt' hlk hat hrg (by rw [h.left_eq]; exact hlt) hgr hsz hen)

/-- what is written of the sectors, as long as some are still to come -/
def mix (d : Dsk) (left : Lit → Bool) (i : Nat) : Sec := if left (kl (i : Int)) then (cellAt d i).1 else view (cellAt d i)
theorem cellAt_cell (d : Dsk) (i : Nat) : d.cell (i : Int) = cellAt d i := rfl
theorem fresh_at {d : Dsk} {i : Nat} (h : i < d.cells.length) : d.fresh (i : Int) = (cellAt d i).2 := by
  unfold Dsk.fresh
  rw [if_pos ((has_iff d _).2 (by omega))]
  rfl
theorem cellAt_mem {d : Dsk} {i : Nat} (h : i < d.cells.length) : cellAt d i ∈ d.cells := cell_mem (d := d) (at_ := (i : Int)) ((has_iff d _).2 (by omega))
theorem mix_len {d : Dsk} (h : d.Ok) (left : Lit → Bool) {i : Nat} (hi : i < d.cells.length) : (mix d left i).length = 16 := by
  unfold mix
  split
  · exact h.safe _ (cellAt_mem hi)
  · exact h.view (cellAt_mem hi)
theorem mix_start {d : Dsk} {D : DataW Value} (h : MapIs D d) : catS (mix d (Maps.has D)) d.cells.length = durable d := by
  unfold durable
  rw [flat_catS]
  refine catS_congr fun i hi => ?_
  unfold mix
  rw [(h i).1, fresh_at hi]
  split
  · rfl
  · rename_i hn
    have : (cellAt d i).2 = none := by simpa using hn
    unfold view
    rw [this]
    rfl
theorem mix_done {d : Dsk} {left : Lit → Bool} (h : ∀ z, left z = false) : catS (mix d left) d.cells.length = durable d.allSafe := by
  unfold durable Dsk.allSafe
  simp only [List.flatMap_map]
  rw [flat_catS]
  refine catS_congr fun i hi => ?_
  unfold mix
  rw [h]
  rfl
theorem sameKey_kl {x y : Int} : (kl y).sameKey (kl x) = decide (y = x) := by
  by_cases h : y = x
  · subst h
    rw [WideAt.sameKey_self (klKey _), decide_eq_true rfl]
  · rw [decide_eq_false h]
    cases hs : (kl y).sameKey (kl x)
    · rfl
    · exact absurd (WideAt.sameKey_eq hs) (kl_ne h)
theorem mix_step {d : Dsk} (hd : d.Ok) {D : DataW Value} (h : MapIs D d) {left : Lit → Bool} (hl : ∀ z, left z = true → Maps.has D z = true) {x : Int} (hx : left (kl x) = true) {v : Value} (hv : ∀ zd, D.atKey (kl x) zd = .held v) :
    ∃ (i : Nat) (s : Sec), x = (i : Int) ∧ i < d.cells.length ∧ v = .agg (bytesV s).toArray ∧ s.length = 16 ∧ splice (bytesV (catS (mix d left) d.cells.length)) (i * 16) (bytesV s) = bytesV (catS (mix d (fun z => left z && !z.sameKey (kl x))) d.cells.length) := by
  have h1 := hl _ hx
  obtain ⟨h2, h3⟩ := h x
  rw [h2] at h1
  obtain ⟨s, hs⟩ := Option.isSome_iff_exists.1 h1
  have hhas : d.has x := by
    unfold Dsk.fresh at hs
    split at hs
    · assumption
    · cases hs
  obtain ⟨i, rfl⟩ : ∃ i : Nat, x = (i : Int) := ⟨x.toNat, by have := (has_iff d x).1 hhas; omega⟩
  have hi : i < d.cells.length := by have := (has_iff d (i : Int)).1 hhas; omega
  have h4 := h3 (.held v)
  rw [hv, hs] at h4
  simp only [atOf, DataW.held.injEq] at h4
  rw [fresh_at hi] at hs
  have hsl : s.length = 16 := hd.fresh _ (cellAt_mem hi) s hs
  have hm : mix d (fun z => left z && !z.sameKey (kl (i : Int))) i = s := by
    unfold mix
    simp only [sameKey_kl]
    simp [view, hs]
  refine ⟨i, s, rfl, hi, h4, hsl, ?_⟩
  have := catS_put (f := mix d left) (g := mix d (fun z => left z && !z.sameKey (kl (i : Int)))) hi (fun j hj => mix_len hd left hj) (by rw [hm]; exact hsl) (fun j hj hne => by
    unfold mix
    simp only [sameKey_kl]
    rw [decide_eq_false (by omega)]
    simp)
  rw [hm] at this
  exact this
theorem mapIs_safe (d : Dsk) : MapIs (.map []) d.allSafe := fun x => by
  have h : d.allSafe.fresh x = none := by
    unfold Dsk.fresh
    split
    · rename_i hx
      have h1 := cell_mem hx
      obtain ⟨c, _, hc⟩ := List.mem_map.1 h1
      rw [← hc]
    · rfl
  rw [h]
  exact ⟨rfl, fun z => rfl⟩

section
variable {w w' : World} {p g mb c : Nat} {d : Dsk}
theorem c_Flush (h : Dk w p g mb c d) (ho : d.ops < 1000000000) : Calls Try.prog 55 #[.pointer (some ⟨p, 0, none⟩)] w fun e w' => e = .returned (.int .i64 (d.flush.2 : Int)) ∧ Dk w' p g mb c d.flush.1 ∧ Fr (fun k => k = p ∨ k = g ∨ k = mb) w w' := by
  have H := Lib.hid h
  have hlt := h.lts
  have hne := h.ne
  clear h
  by_cases he : d.spend.2 = 0
  · have hw : Hid (d.flush = (d.spend.1.allSafe, 0)) := Lib.hid (by unfold Dsk.flush; rw [if_pos he])
    have He := Lib.hid he
    have Hok := Lib.hid (spend_ok H.out.ok ho)
    obtain ⟨d1, hd1⟩ : ∃ x, d.spend.1 = x := ⟨_, rfl⟩
    have Hd1 := Lib.hid hd1
    rw [hd1] at hw Hok
    clear he hd1
    go_enter Try.func55, Try.ntmps55
    go_upto_region 6 with (first
      | (go_at_call 90
         (with_reducible refine (c_Made H.out).mono ?_)
         rintro e w' ⟨rfl, rfl⟩)
      | (go_at_call 103
         (with_reducible refine (c_spend H.out ho).mono ?_)
         rintro e w2 ⟨rfl, h2, f2⟩
         rw [He.out]
         rw [Hd1.out] at h2
         have hlt2 := h2.lts
         have hcl := h2.cells
         have H2 := Lib.hid h2
         have F2 := Lib.hid f2
         clear h2 f2))
    obtain ⟨D, m, hm, hle, hi⟩ := H2.out.map
    obtain ⟨k0, k1, k2, k3, k4⟩ := hcl
    have Hm := Lib.hid hm
    have Hi := Lib.hid hi
    have Hle := Lib.hid hle
    clear hm hle hi
    go_wp2_with (first
      | (at_range
         refine wpList_range_own _ rfl _ 176 rfl 3 35 law Try.underlying176 R mb m D rfl Hm.out ?_
         intro w3 hrg0 hg0 hs0))
    obtain ⟨n, hn⟩ : ∃ n, d1.cells.length = n := ⟨_, rfl⟩
    have Hn := Lib.hid hn
    rw [hn] at k0
    obtain ⟨r, hr⟩ : ∃ r, w2.heap.size = r := ⟨_, rfl⟩
    have hblk := H2.out.blk
    have hown := H2.out.own
    rw [hn] at hblk hown
    rw [← mix_start Hi.out, hn] at hown
    have Hblk3 := Lib.hid (heap_grown hblk hg0 (by simp))
    have Hown3 := Lib.hid (hown.kept hg0 (by right; simp [Value.ownBlock]))
    have F3 := Lib.hid ((F2.out.mono (S1 := fun k => k = p ∨ k = g ∨ k = mb) (fun _ _ e => .inl e)).trans (Fr.grown (S := fun _ => False) hg0 (by simp)) (fun _ _ e => e.elim))
    rw [hr] at hrg0 hs0 ⊢
    have Hrg3 := Lib.hid hrg0
    have Hlt3 : Hid (p < r ∧ g < r ∧ mb < r ∧ w.heap.size ≤ r) := Lib.hid (by have := F2.out.size; omega)
    clear hblk hown hg0 hn hrg0 hs0 k1 k2 k3 k4 hlt2 hr
    go_frame
    go_loopw [4] (fun v wr => ∃ (left : Lit → Bool) (cnt : Nat), Hid (wr.ranges Try.prog 3 R mb r m D left cnt) ∧ Hid (∀ z, left z = true → Maps.has D z = true) ∧ Hid (Tw.Own wr 0 35 16 (some ⟨g, 0, none⟩) n c (bytesV (catS (mix d1 left) n))) ∧ Hid (wr.heap[p]? = some (.cells #[.slice (some ⟨g, 0, none⟩) n c, .map (some mb), .int .i64 d1.fuse, .bool d1.broken, .int .i64 (d1.ops : Int)] 178 (0, 0))) ∧ Hid (Fr (fun k => k = p ∨ k = g ∨ k = mb) w wr)) (fun _ wr => wr.rangeLeft mb r)
    case atStart => exact ⟨_, _, Hrg3, Lib.hid (fun _ h => h), Hown3, Hblk3, F3⟩
    case round =>
      clear Hrg3 Hown3 Hblk3 F3 H2 F2 Hm k0
      obtain ⟨left, cnt, Hrg, Hl, Hown, Hblk, HF⟩ := hrel
      go_wp2_with (first
        | (at_next
           refine wpL_next rfl _ rfl mb r m D left cnt rfl Hrg.out ?_ ?_))
      · intro hl0
        obtain ⟨w9, hrun, hown9, hg9⟩ := run_clear_map Hrg.out.owns Try.underlying176 0
        have k1 : wr.cell? ⟨p, 1, none⟩ = some (.map (some mb)) := by simp [World.cell?, Hblk.out]
        have Hown9 := Lib.hid hown9
        have Hg9 := Lib.hid hg9
        have HO := Lib.hid (mix_done (d := d1) hl0)
        clear hl0 hown9 hg9
        go_wp2_with fail
        go_ret
        rw [hw.out]
        have hw2 : ∀ (l : List Cl), l.length = n → (l.map fun c => (view c, (none : Option Sec))).length = n := fun l h => by simpa using h
        have hl : d1.allSafe.cells.length = n := hw2 _ Hn.out
        refine ⟨rfl, ⟨allSafe_ok Hok.out, ?_, ?_, ⟨.map [], 0, Hown9.out, Nat.zero_le _, mapIs_safe d1⟩, hne⟩, HF.out.trans (Fr.grown (S := fun k => k = mb) Hg9.out (by simp)) (fun _ _ e => .inr (.inr e))⟩
        · rw [hl]
          exact heap_grown Hblk.out Hg9.out (by simp; omega)
        · rw [hl]
          have h9 := Hown.out.kept Hg9.out (by right; simp [Value.ownBlock]; omega)
          rw [← Hn.out, HO.out, Hn.out] at h9
          exact h9
      · intro x v w4 cnt4 hx hv hrg4 hlt4 hg4 hs4 hen
        obtain ⟨i, s, rfl, hi, rfl, hs, hput⟩ := mix_step Hok.out Hi.out Hl.out hx hv
        rw [Hn.out] at hi hput
        have hrlt := hrg4.lt
        have hrp := Hlt3.out
        have Hrg4 := Lib.hid hrg4
        have Hown4 := Lib.hid (Hown.out.kept hg4 (by right; simp [Value.ownBlock]; omega))
        have Hblk4 := Lib.hid (heap_grown Hblk.out hg4 (by simp; omega))
        have F4 := Lib.hid (Fr.grown (S := fun k => k = r) hg4 (by simp))
        have Hlt4 := Lib.hid hlt4
        have Hput := Lib.hid hput
        have Hs := Lib.hid hs
        have hsz : Hid ((bytesV s).toArray.size = 16) := Lib.hid (by rw [List.size_toArray, bytesV_length]; exact hs)
        have HX4 := Lib.hid (heap_alloc_new w4 (.cells #[.int .u8 0, .int .u8 0, .int .u8 0, .int .u8 0, .int .u8 0, .int .u8 0, .int .u8 0, .int .u8 0, .int .u8 0, .int .u8 0, .int .u8 0, .int .u8 0, .int .u8 0, .int .u8 0, .int .u8 0, .int .u8 0] 35))
        have Hl4 : Hid (∀ z, (left z && !z.sameKey (kl (i : Int))) = true → Maps.has D z = true) := Lib.hid (fun z h => Hl.out z (by simp at h; exact h.1))
        have hkl : kl (i : Int) = .int .i64 (i : Int) := rfl
        have Hs4 := Lib.hid hs4
        clear hs4 hx hv hrg4 hlt4 hg4 hput hs Hl Hrg Hown Hblk hkl
        go_wp2_with (first
          | (refine wpL_store_all rfl rfl 35 (.tmp 5) (.tmp 23) rfl _ rfl _ rfl _ _ HX4.out (by rw [hsz.out]; kernel_rfl) hsz.out (fun v hv => bytesV_one v (by simpa using hv)) ?_
             intro w5 x5 g5
             have HX5 := Lib.hid x5
             have F5 := Lib.hid ((Fr.alloc (S := fun k => False) (w := w4) (.cells #[.int .u8 0, .int .u8 0, .int .u8 0, .int .u8 0, .int .u8 0, .int .u8 0, .int .u8 0, .int .u8 0, .int .u8 0, .int .u8 0, .int .u8 0, .int .u8 0, .int .u8 0, .int .u8 0, .int .u8 0, .int .u8 0] 35)).trans (Fr.grown (S := fun k => k = w4.heap.size) g5 (by simp)) (fun b hb e => absurd e (by omega)))
             clear x5 g5))
        refine wp_region_phi (by kernel_rfl) 7 none (fun _ => false) (fun i_ v wz => match i_ with
          | 0 => v = .pointer (some ⟨p, 0, none⟩)
          | 1 => v = .pointer (some ⟨p, 0, none⟩)
          | 2 => v = .pointer (some ⟨p, 0, none⟩)
          | 3 => v = .slice (some ⟨g, 0, none⟩) n c
          | 4 => v = .int .i64 (i : Int)
          | 5 => v = .agg (bytesV s).toArray
          | 6 => v = .pointer (some ⟨g, i * 16, none⟩)
          | _ => True) (by kernel_rfl) ?_ ?_ ?_
        · (repeat' (first | exact allLt_zero | refine allLt_succ ?_ ?_))
          · exact fun _ _ _ h _ => h
          · exact fun _ _ _ h _ => h
          · exact fun _ _ _ h _ => h
          · exact fun _ _ _ h _ => h
          · exact fun _ _ _ h _ => h
          · exact fun _ _ _ h _ => h
          · exact fun _ _ _ h _ => h
        · (repeat' (first | exact allLt_zero | refine allLt_succ ?_ ?_))
          · intro a w' hf he
            have k0 : a.tmps.getD 0 undef = .pointer (some ⟨p, 0, none⟩) := hf.var (by kernel_rfl) rfl
            refine wpOp_step rfl (fun K hK => ?_)
            go_simp
            exact hK _ _ ⟨_, rfl, rfl, World.grownBy.refl _ _⟩
          · intro a w' hf he
            have f0 : a.tmps.getD 24 undef = .pointer (some ⟨p, 0, none⟩) := he 0 (by kernel_rfl)
            refine wpOp_step rfl (fun K hK => ?_)
            go_simp
            exact hK _ _ ⟨_, rfl, rfl, World.grownBy.refl _ _⟩
          · intro a w' hf he
            have f1 : a.tmps.getD 25 undef = .pointer (some ⟨p, 0, none⟩) := he 1 (by kernel_rfl)
            refine wpOp_step rfl (fun K hK => ?_)
            go_simp
            exact hK _ _ ⟨_, rfl, rfl, World.grownBy.refl _ _⟩
          · intro a w' hf he
            have f2 : a.tmps.getD 26 undef = .pointer (some ⟨p, 0, none⟩) := he 2 (by kernel_rfl)
            rw [show kindRow _ _ = none from by kernel_rfl] at hf
            have d0 := heap_fr (heap_fr Hblk4.out F5.out (fun e => e)) (Fr.of_bel (S := fun _ => False) hf.bel) (fun e => e)
            have dd : w'.cell? ⟨p, 0, none⟩ = some (.slice (some ⟨g, 0, none⟩) n c) := by simp [World.cell?, d0]
            clear d0
            refine wpOp_step rfl (fun K hK => ?_)
            go_simp
            exact hK _ _ ⟨_, rfl, rfl, World.grownBy.refl _ _⟩
          · intro a w' hf he
            have k4 : a.tmps.getD 4 undef = .int .i64 (i : Int) := hf.var (by kernel_rfl) rfl
            refine wpOp_step rfl (fun K hK => ?_)
            go_simp
            exact hK _ _ ⟨_, rfl, rfl, World.grownBy.refl _ _⟩
          · intro a w' hf he
            have k5 : a.tmps.getD 5 undef = .pointer (some ⟨w4.heap.size, 0, none⟩) := hf.var (by kernel_rfl) rfl
            rw [show kindRow _ _ = none from by kernel_rfl] at hf
            refine wpOp_step rfl (fun K hK => ?_)
            refine wp_load_rd 35 (.tmp 5) rfl ⟨w4.heap.size, 0, none⟩ k5 (bytesV s) _ ((rd_of_heap (n := 16) ((hf.bel.block _ (heap_lt HX5.out)).trans HX5.out) (by rw [bytesV_length, Hs.out]) (by simp [maxLen])).cell _ rfl) Try.underlying35 rfl (by rw [bytesV_length, Hs.out]; kernel_rfl) ?_
            exact hK _ _ ⟨_, rfl, rfl, World.grownBy.refl _ _⟩
          · intro a w' hf he
            have f3 : a.tmps.getD 27 undef = .slice (some ⟨g, 0, none⟩) n c := he 3 (by kernel_rfl)
            have f4 : a.tmps.getD 28 undef = .int .i64 (i : Int) := he 4 (by kernel_rfl)
            rw [show kindRow _ _ = none from by kernel_rfl] at hf
            refine wpOp_step rfl (fun K hK => ?_)
            go_simp
            exact hK _ _ ⟨_, rfl, rfl, World.grownBy.refl _ _⟩
        · intro a w' hf he
          obtain ⟨u24, f0⟩ : ∃ u, a.tmps.getD 24 undef = u := ⟨_, rfl⟩
          obtain ⟨u25, f1⟩ : ∃ u, a.tmps.getD 25 undef = u := ⟨_, rfl⟩
          obtain ⟨u26, f2⟩ : ∃ u, a.tmps.getD 26 undef = u := ⟨_, rfl⟩
          obtain ⟨u27, f3⟩ : ∃ u, a.tmps.getD 27 undef = u := ⟨_, rfl⟩
          obtain ⟨u28, f4⟩ : ∃ u, a.tmps.getD 28 undef = u := ⟨_, rfl⟩
          have f5 : a.tmps.getD 29 undef = .agg (bytesV s).toArray := he 5 (by decide)
          have f6 : a.tmps.getD 30 undef = .pointer (some ⟨g, i * 16, none⟩) := he 6 (by decide)
          have hlit := hf.lit ((24, u24) :: (25, u25) :: (26, u26) :: (27, u27) :: (28, u28) :: (29, .agg (bytesV s).toArray) :: (30, .pointer (some ⟨g, i * 16, none⟩)) :: []) (by kernel_rfl) ⟨f0, f1, f2, f3, f4, f5, f6, trivial⟩
          have hB := hf.bel
          clear he hf f0 f1 f2 f3 f4 f5 f6 
          subst hlit
          simp only [putAll_nil, putAll_cons, Act.put, List.setIfInBounds_toArray, List.set_cons_zero, List.set_cons_succ]
          simp only [List.drop_succ_cons, List.drop_zero]
          have Hsb := Lib.hid hB.size
          have F6 := Lib.hid (F5.out.trans (Fr.of_bel (S := fun _ => False) hB) (fun _ _ e => e))
          have Hown6 := Lib.hid (Tw.Own.fr (S := fun _ => False) Hown4.out F6.out (fun _ _ e => e))
          clear hB
          go_wp2_with (first
            | (refine wpL_store_elem rfl rfl 35 (.tmp 30) (.tmp 29) rfl 0 35 16 g i n c rfl (bytesV s) (by rw [bytesV_length, Hs.out]) rfl (by kernel_rfl) _ Hown6.out (by omega) bytesV_one _ Hput.out ?_
               intro w7 hown7 hg7
               have Hown7 := Lib.hid hown7
               have F7 := Lib.hid ((F6.out.mono (S1 := fun k => k = g) (fun _ _ e => e.elim)).trans (Fr.grown (S := fun k => k = g) hg7 (by simp)) (fun _ _ e => e))
               clear hown7 hg7))
          go_roundw
          case rel => exact ⟨_, cnt4, Lib.hid (ranges_fr Hrg4.out F7.out (fun e => hne.2.2 e.symm) (by omega)), Hl4, Hown7, Lib.hid (heap_fr Hblk4.out F7.out hne.1), Lib.hid ((HF.out.trans F4.out (fun b hb e => by omega)).trans F7.out (fun _ _ e => .inr (.inl e)))⟩
          case measure =>
            rw [(ranges_fr Hrg4.out F7.out (fun e => hne.2.2 e.symm) (by omega)).left_eq]
            exact Hlt4.out
  · have He := Lib.hid ((spend_err d).resolve_left he)
    have hw : Hid (d.flush = d.spend) := Lib.hid (by unfold Dsk.flush; rw [if_neg he])
    clear he
    go_enter Try.func55, Try.ntmps55
    go_wp2_with (first
      | (go_at_call 90
         (with_reducible refine (c_Made H.out).mono ?_)
         rintro e w' ⟨rfl, rfl⟩)
      | (go_at_call 103
         (with_reducible refine (c_spend H.out ho).mono ?_)
         rintro e w2 ⟨rfl, h2, f2⟩
         rw [He.out]
         have H2 := Lib.hid h2
         have F2 := Lib.hid f2
         clear h2 f2))
    go_ret
    rw [hw.out]
    exact ⟨by rw [He.out]; rfl, H2.out, F2.out.mono (fun _ _ e => .inl e)⟩
end
end Go.Proofs.Ytpbcmghfhflkbaa.Disk
