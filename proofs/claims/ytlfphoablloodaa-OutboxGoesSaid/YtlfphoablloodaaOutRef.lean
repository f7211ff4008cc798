/- Contracts of the outbox's reference, and of the comparison of two lists of numbers. Conditions: at most 2^20 bodies. -/
import Derived.Test.YtlfphoablloodaaOutbox
import Derived.IntWalk
namespace Go.Proofs.Ytlfphoablloodaa.Outbox
open Go.RowKit Tw
set_option maxHeartbeats 400000

theorem intsV_get {l : List Int} {j : Nat} {z : Int} (h : l[j]? = some z) : (intsV l)[j]? = some (Value.int .i64 z) := by simp [intsV, h]
theorem intsV_length (l : List Int) : (intsV l).length = l.length := by simp [intsV]
theorem intsV_one {l : List Int} : ∀ u ∈ intsV l, u.oneCell' = true := by
  intro u hu
  obtain ⟨_, _, rfl⟩ := List.mem_map.1 hu
  rfl
theorem rd_ints_len {w : World} {A : Option Addr} {n c : Nat} {l : List Int} (h : Rd w 1 A n c (intsV l)) : l.length = n := by have := h.len; simpa [intsV] using this
theorem rd_ints_at {w : World} {A : Option Addr} {n c : Nat} {l : List Int} (h : Rd w 1 A n c (intsV l)) {k : Nat} (hk : k < n) : ∃ ad z, A = some ad ∧ Hid (l[k]? = some z) ∧ w.cell? (ad.add k) = some (.int .i64 z) := by
  obtain ⟨ad, u, hA, hu, hc⟩ := h.at1 hk
  have hl := rd_ints_len h
  have : l[k]? = some (l[k]'(by omega)) := List.getElem?_eq_getElem (by omega)
  rw [intsV_get this] at hu
  injection hu with hu
  subst hu
  exact ⟨ad, _, hA, this, hc⟩

theorem take_step {α : Type} {l : List α} {k : Nat} {z : α} (h : l[k]? = some z) : l.take (k + 1) = l.take k ++ [z] := by
  obtain ⟨hl, rfl⟩ := List.getElem?_eq_some_iff.1 h
  rw [List.take_succ_eq_append_getElem hl]

theorem c_Ints (A A' : Option Addr) (n c m c' : Nat) (l l' : List Int) (w : World) (hl : Rd w 1 A n c (intsV l)) (hl' : Rd w 1 A' m c' (intsV l')) :
    Calls Try.prog 51 #[.slice A n c, .slice A' m c'] w fun e w' => e = .returned (.bool (l == l')) ∧ ∃ k, w' = w.drewN k := by
  have e1 := rd_ints_len hl
  have e2 := rd_ints_len hl'
  have hc1 := hl.cap
  have hc2 := hl'.cap
  have hn1 := hl.le
  have hn2 := hl'.le
  unfold maxLen at hc1 hc2
  have Hl := Lib.hid hl
  have Hl' := Lib.hid hl'
  clear hl hl'
  by_cases hnm : n = m
  · subst hnm
    have E1 := Lib.hid e1
    have E2 := Lib.hid e2
    clear e1 e2
    go_enter Try.func51, Try.ntmps51
    go_wp2_with fail
    go_loopw [5, 13] (fun _ i wr => ∃ k q : Nat, k ≤ n ∧ i = .int .i64 (k : Int) ∧ wr = w.drewN q ∧ Hid (l.take k = l'.take k)) (fun _ i _ => n - (intOf i).toNat)
    case atStart => exact ⟨0, 0, by omega, rfl, rfl, Lib.hid rfl⟩
    case round =>
      obtain ⟨k, q, hk, rfl, rfl, hT⟩ := hrel
      by_cases hlt : k < n
      · obtain ⟨ad, z, rfl, hz, hcell⟩ := rd_ints_at Hl.out hlt
        obtain ⟨ad', z', rfl, hz', hcell'⟩ := rd_ints_at Hl'.out hlt
        cases hb : z == z' with
        | true =>
          go_wp2_with fail
          go_quiet (fail)
          go_wp2_with fail
          go_roundw
          case rel => exact ⟨k + 1, q + nq, by omega, by go_num, rfl, Lib.hid (by rw [take_step hz.out, take_step hz'.out, hT.out, eq_of_beq hb])⟩
          case measure => simp [intOf] <;> omega
        | false =>
          go_wp2_with fail
          go_quiet (fail)
          go_wp2_with fail
          go_ret
          refine ⟨?_, q + nq, by rw [World.drewN_drewN]⟩
          have : (l == l') = false := by
            cases h : l == l' with
            | false => rfl
            | true =>
              have h1 := eq_of_beq h
              subst h1
              have h2 := hz.out
              rw [hz'.out] at h2
              injection h2 with h2
              rw [h2] at hb
              simp at hb
          rw [this]
          rfl
      · have hk : k = n := by omega
        subst hk
        go_wp2_with fail
        go_ret
        refine ⟨?_, _, rfl⟩
        have h1 := hT.out
        rw [List.take_of_length_le (by rw [E1.out]; omega), List.take_of_length_le (by rw [E2.out]; omega)] at h1
        simp [h1]
  · have hne : ((n : Int) != (m : Int)) = true := by simp; omega
    have hf : (l == l') = false := by
      cases h : l == l' with
      | false => rfl
      | true => have := eq_of_beq h; subst this; omega
    have Hf := Lib.hid hf
    clear hf
    clear e1 e2
    go_enter Try.func51, Try.ntmps51
    go_wp2_with fail
    go_ret
    exact ⟨by rw [Hf.out]; rfl, 0, rfl⟩

theorem c_rNew_no (k : Int) (w : World) (h : k < 1 ∨ 64 < k) : Calls Try.prog 50 #[.int .i64 k] w fun e w' => e = .returned (.tuple #[.pointer none, .int .i64 2]) ∧ w = w' := by
  rcases h with h | h
  · go_enter Try.func50, Try.ntmps50
    go_wp2
    go_ret2
    exact ⟨rfl, rfl⟩
  · have h1 : decide (k < 1) = false := by simp; omega
    go_enter Try.func50, Try.ntmps50
    go_wp2
    go_ret2
    exact ⟨rfl, rfl⟩
theorem c_rNew (k : Int) (w : World) (h1 : 1 ≤ k) (h2 : k ≤ 64) : Calls Try.prog 50 #[.int .i64 k] w fun e w' =>
    e = .returned (.tuple #[.pointer (some ⟨w.heap.size, 0, none⟩), .int .i64 0]) ∧ RefR w' w.heap.size (fun b => b = w.heap.size) w.heap.size k 1 [] ∧ Below w.heap.size w w' := by
  go_enter Try.func50, Try.ntmps50
  go_wp2
  go_ret2
  refine ⟨rfl, ⟨none, 0, [], ⟨heap_alloc_new _ _, ?_, rfl, .inl (World.ownsRow_nil _ _ _ _), fun ad e => (by cases e), rfl, fun i b hi => by simp at hi⟩⟩, (Below.refl _ _).alloc (Nat.le_refl _) _⟩
  intro b hb
  subst hb
  simp

section
variable {w : World} {B : Nat} {F : Nat → Prop} {p : Nat} {win first : Int} {bs : List (List UInt8)}
theorem RefR.c0 (h : RefR w B F p win first bs) : ∃ A c, w.cell? ⟨p, 0, none⟩ = some (.slice A bs.length c) := by
  obtain ⟨A, c, vs, h⟩ := h
  have c1 := cell_of_row w p 0 _ _ _ h.blk
  exact ⟨A, c, by simpa using c1⟩
theorem RefR.c1 (h : RefR w B F p win first bs) : w.cell? ⟨p, 1, none⟩ = some (.int .i64 first) := by
  obtain ⟨A, c, vs, h⟩ := h
  have c1 := cell_of_row w p 1 _ _ _ h.blk
  simpa using c1
theorem RefR.c2 (h : RefR w B F p win first bs) : w.cell? ⟨p, 2, none⟩ = some (.int .i64 win) := by
  obtain ⟨A, c, vs, h⟩ := h
  have c1 := cell_of_row w p 2 _ _ _ h.blk
  simpa using c1

theorem c_rFull (ho : RefR w B F p win first bs) (hb : bs.length ≤ 1048576) : Calls Try.prog 57 #[.pointer (some ⟨p, 0, none⟩)] w fun e w' => e = .returned (.bool (decide (win ≤ (bs.length : Int)))) ∧ ∃ m, w' = w.drewN m := by
  obtain ⟨A, c, c0⟩ := ho.c0
  have c2 := ho.c2
  clear ho
  go_enter Try.func57, Try.ntmps57
  go_wp2_with fail
  go_quiet (fail)
  go_wp2
  go_ret
  exact ⟨rfl, _, rfl⟩

theorem c_rNumbers (ho : RefR w B F p win first bs) (hb : bs.length ≤ 1048576) (hw : 0 < win) (hw2 : win ≤ 64) (hf0 : 0 ≤ first) (hf1 : first ≤ 2199023255552) (N : Nat) (hN : (N : Int) = min (bs.length : Int) win) :
    Calls Try.prog 59 #[.pointer (some ⟨p, 0, none⟩)] w fun e w' => ∃ A2 c2, e = .returned (.slice A2 N c2) ∧ Own w' w.heap.size 3 1 A2 N c2 (intsV (from_ first N)) ∧ Below w.heap.size w w' := by
  have Ho := Lib.hid ho
  have HN := Lib.hid hN
  have hN64 : N ≤ 64 := by omega
  clear ho hN
  go_enter Try.func59, Try.ntmps59
  go_wp2_with fail
  go_loopw [3, 4] (fun v x wr => ∃ (k : Nat) (A2 : Option Addr) (c2 : Nat), k ≤ N ∧ x = .int .i64 (k : Int) ∧ v = .slice A2 k c2 ∧ Own wr w.heap.size 3 1 A2 k c2 (intsV (from_ first k)) ∧ Below w.heap.size w wr) (fun _ x _ => N - (intOf x).toNat)
  case atStart => exact ⟨0, none, 0, by omega, rfl, rfl, World.ownsRow_nil _ _ _ _, Below.refl _ _⟩
  case round =>
    obtain ⟨k, A2, c2, hk, rfl, rfl, hown, hbr⟩ := hrel
    have hr := Ho.out.bel hbr
    have c1 := hr.c1
    have c2' := hr.c2
    obtain ⟨A, c, c0⟩ := hr.c0
    clear hr
    by_cases hlt : k < N
    · have t1 : k < bs.length := by have := HN.out; omega
      have t2 : (k : Int) < win := by have := HN.out; omega
      go_wp2_with (first
        | (at_builtin
           refine wpL_append _ rfl (.tmp 22) (.tmp 29) _ rfl w w.heap.size (bel_alloc hbr hbr.size _) (size_alloc_le hbr.size _) 3 _ 1 8 Try.underlying78 info_int rfl (by omega) _ _ _ _ rfl (hown.alloc _) _ _ _ _ rfl (rd_one _ _ _) (by simp [Value.oneCell']) (k + 1) (intsV (from_ first (k + 1))) rfl (by rw [from_succ, intsV_append]; rfl) (by unfold maxLen; omega) (by omega) ?_
           intro A3 c3 w3 hown3 hb3 hg3 ho3))
      clear hg3 ho3
      go_wp2
      go_roundw
      case rel => exact ⟨k + 1, A3, c3, by omega, by go_num, rfl, hown3, hb3⟩
      case measure => simp [intOf] <;> omega
    · have hkN : k = N := by omega
      by_cases t1 : k < bs.length
      · have t2 : ¬ (k : Int) < win := by have := HN.out; omega
        subst hkN
        go_wp2_with fail
        go_ret
        exact ⟨A2, c2, rfl, hown, hbr⟩
      · subst hkN
        go_wp2_with fail
        go_ret
        exact ⟨A2, c2, rfl, hown, hbr⟩

set_option maxRecDepth 100000 in
theorem c_rPush (ho : RefR w B F p win first bs) (hb : bs.length < 1048576) (hf0 : 0 ≤ first) (hf1 : first ≤ 1099511627776)
    (A' : Option Addr) (n' c' : Nat) (body : List UInt8) (hbody : Byt w A' n' c' body) (hn' : n' ≤ 140737488351232) (hBw : B ≤ w.heap.size) :
    Calls Try.prog 53 #[.pointer (some ⟨p, 0, none⟩), .slice A' n' c'] w fun e w' =>
      e = .returned (.tuple #[.int .i64 (first + bs.length), .bool (decide ((bs.length : Int) + 1 ≤ win))]) ∧ ∃ F', RefR w' B F' p win first (bs ++ [body]) ∧ Fr F w w' ∧ ∀ k, F' k → F k ∨ w.heap.size ≤ k := by
  obtain ⟨A, c, vs, h⟩ := ho
  have c0 := cell_of_row w p 0 _ _ _ h.blk
  simp at c0
  have hplt := heap_lt h.blk
  have hlen : vs.length = bs.length := h.bod.1
  have hrow : ∀ k, some k = (Value.slice A bs.length c).ownBlock → k < w.heap.size := by
    intro k hk
    obtain ⟨ad, hA, rfl⟩ := addr_row hk
    exact (h.inF _ (h.rowF ad hA).1).2
  have hblen : bs.length + 1 ≤ maxLen := by unfold maxLen; omega
  have Hlen := Lib.hid hlen
  clear hlen
  go_enter Try.func53, Try.ntmps53
  go_wp2_with fail
  refine wp_region_phi (by kernel_rfl) 12 ((Value.slice A bs.length c).ownBlock) (fun i_ => match i_ with | 9 => true | _ => false) (fun i_ v wz => match i_ with
    | 0 => v = .pointer (some ⟨p, 0, none⟩)
    | 1 => v = .pointer (some ⟨p, 0, none⟩)
    | 2 => v = .pointer (some ⟨p, 0, none⟩)
    | 3 => v = .pointer (some ⟨p, 0, none⟩)
    | 4 => v = .slice A bs.length c
    | 5 => ∃ g, v = .slice (some ⟨g, 0, none⟩) 0 0 ∧ w.heap.size ≤ g ∧ wz.heap[g]? = some (.cells #[] 5 (0, 0))
    | 6 => v = .slice A' n' c'
    | 7 => ∃ A3 c3, v = .slice A3 n' c3 ∧ Own wz w.heap.size 5 1 A3 n' c3 (bytesV body)
    | 8 => ∃ A3 c3 g, v = .slice (some ⟨g, 0, none⟩) 1 1 ∧ w.heap.size ≤ g ∧ Own wz w.heap.size 22 1 (some ⟨g, 0, none⟩) 1 1 [.slice A3 n' c3] ∧ Own wz w.heap.size 5 1 A3 n' c3 (bytesV body)
    | 9 => ∃ A4 c4 A3 c3, v = .slice A4 (bs.length + 1) c4 ∧ Own wz B 22 1 A4 (bs.length + 1) c4 (vs ++ [.slice A3 n' c3]) ∧ Own wz w.heap.size 5 1 A3 n' c3 (bytesV body) ∧ (∀ ad, A4 = some ad → (∃ ad0, A = some ad0 ∧ ad.block = ad0.block) ∨ w.heap.size ≤ ad.block ∧ ∀ ad3, A3 = some ad3 → ad3.block ≠ ad.block)
    | 10 => v = .pointer (some ⟨p, 0, none⟩)
    | 11 => v = .pointer (some ⟨p, 0, none⟩)
    | _ => True) (by kernel_rfl) ?_ ?_ ?_
  · (repeat' (first | exact allLt_zero | refine allLt_succ ?_ ?_))
    · exact fun _ _ _ h _ => h
    · exact fun _ _ _ h _ => h
    · exact fun _ _ _ h _ => h
    · exact fun _ _ _ h _ => h
    · exact fun _ _ _ h _ => h
    · intro v w1 w2 h hg
      rw [show kindRow _ _ = ((Value.slice A bs.length c).ownBlock) from by kernel_rfl] at hg
      obtain ⟨g, rfl, hg0, hr⟩ := h
      exact ⟨g, rfl, hg0, heap_grown hr hg (fun e => by have := hrow _ e; omega)⟩
    · exact fun _ _ _ h _ => h
    · intro v w1 w2 h hg
      rw [show kindRow _ _ = ((Value.slice A bs.length c).ownBlock) from by kernel_rfl] at hg
      obtain ⟨A3, c3, rfl, hr⟩ := h
      exact ⟨A3, c3, rfl, hr.kept hg (own_apart hr hrow)⟩
    · intro v w1 w2 h hg
      rw [show kindRow _ _ = ((Value.slice A bs.length c).ownBlock) from by kernel_rfl] at hg
      obtain ⟨A3, c3, g, rfl, hg0, hr, hr2⟩ := h
      exact ⟨A3, c3, g, rfl, hg0, hr.kept hg (own_apart hr hrow), hr2.kept hg (own_apart hr2 hrow)⟩
    · intro v w1 w2 h hg
      rw [show kindRow _ _ = none from by kernel_rfl] at hg
      obtain ⟨A4, c4, A3, c3, rfl, hr, hb, ha⟩ := h
      exact ⟨A4, c4, A3, c3, rfl, hr.bel (bel_grown hg), hb.bel (bel_grown hg), ha⟩
    · exact fun _ _ _ h _ => h
    · exact fun _ _ _ h _ => h
  · (repeat' (first | exact allLt_zero | refine allLt_succ ?_ ?_))
    · intro a w' hf he
      have k0 : a.tmps.getD 0 undef = .pointer (some ⟨p, 0, none⟩) := hf.var (by kernel_rfl) rfl
      refine wpOp_step rfl (fun K hK => ?_)
      go_simp
      exact hK _ _ ⟨_, rfl, rfl, World.grownBy.refl _ _⟩
    · intro a w' hf he
      have k0 : a.tmps.getD 0 undef = .pointer (some ⟨p, 0, none⟩) := hf.var (by kernel_rfl) rfl
      refine wpOp_step rfl (fun K hK => ?_)
      go_simp
      exact hK _ _ ⟨_, rfl, rfl, World.grownBy.refl _ _⟩
    · intro a w' hf he
      have f1 : a.tmps.getD 7 undef = .pointer (some ⟨p, 0, none⟩) := he 1 (by kernel_rfl)
      refine wpOp_step rfl (fun K hK => ?_)
      go_simp
      exact hK _ _ ⟨_, rfl, rfl, World.grownBy.refl _ _⟩
    · intro a w' hf he
      have f2 : a.tmps.getD 8 undef = .pointer (some ⟨p, 0, none⟩) := he 2 (by kernel_rfl)
      refine wpOp_step rfl (fun K hK => ?_)
      go_simp
      exact hK _ _ ⟨_, rfl, rfl, World.grownBy.refl _ _⟩
    · intro a w' hf he
      have f3 : a.tmps.getD 9 undef = .pointer (some ⟨p, 0, none⟩) := he 3 (by kernel_rfl)
      rw [show kindRow _ _ = none from by kernel_rfl] at hf
      have q := hf.bel.cell (p := ⟨p, 0, none⟩) hplt
      rw [c0] at q
      refine wpOp_step rfl (fun K hK => ?_)
      go_simp
      exact hK _ _ ⟨_, rfl, rfl, World.grownBy.refl _ _⟩
    · intro a w' hf he
      rw [show kindRow _ _ = none from by kernel_rfl] at hf
      refine wpOp_step rfl (fun K hK => ?_)
      go_simp
      exact hK _ _ ⟨_, rfl, ⟨_, rfl, hf.bel.size, heap_alloc_new _ _⟩, World.grownBy_alloc _ _ _⟩
    · intro a w' hf he
      have k1 : a.tmps.getD 1 undef = .slice A' n' c' := hf.var (by kernel_rfl) rfl
      refine wpOp_step rfl (fun K hK => ?_)
      go_simp
      exact hK _ _ ⟨_, rfl, rfl, World.grownBy.refl _ _⟩
    · intro a w' hf he
      obtain ⟨g5, hv5, hg5, hh5⟩ := he 5 (by kernel_rfl)
      have f5 : a.tmps.getD 11 undef = _ := hv5
      have f6 : a.tmps.getD 12 undef = .slice A' n' c' := he 6 (by kernel_rfl)
      rw [show kindRow _ _ = none from by kernel_rfl] at hf
      refine wpOp_step rfl (fun K hK => ?_)
      rw [if_pos (by rfl)]
      refine wp_append_lit0 w' (.tmp 11) (.tmp 12) 22 rfl _ hf.bel.size 5 _ 1 1 Try.underlying22 Num.info_u8 rfl g5 hh5 hg5 f5 A' n' c' _ f6 (hbody.bel hf.bel) (by unfold maxLen; omega) (by omega) ?_
      intro A2 c2 w2 hown2 hg2
      exact hK _ _ ⟨_, rfl, ⟨A2, c2, rfl, hown2⟩, grownBy_none hg2⟩
    · intro a w' hf he
      obtain ⟨A7, c7, hv7, hb7⟩ := he 7 (by kernel_rfl)
      have f7 : a.tmps.getD 13 undef = _ := hv7
      have e7 : a.tmps[13]?.getD undef = _ := Array.getD_eq_getD_getElem? .. ▸ f7
      rw [show kindRow _ _ = none from by kernel_rfl] at hf
      refine wpOp_step rfl (fun K hK => ?_)
      go_simp
      exact hK _ _ ⟨_, rfl, ⟨A7, c7, _, rfl, hf.bel.size, own_lit w' _ _ 1 #[.slice A7 n' c7] 1 hf.bel.size (by simp [maxLen]) (by simp), hb7.alloc _⟩, World.grownBy_alloc _ _ _⟩
    · intro a w' hf he
      have f4 : a.tmps.getD 10 undef = .slice A bs.length c := he 4 (by kernel_rfl)
      obtain ⟨A8, c8, g8, hv8, hg8, hr8, hb8⟩ := he 8 (by kernel_rfl)
      have f8 : a.tmps.getD 14 undef = _ := hv8
      rw [show kindRow _ _ = none from by kernel_rfl] at hf
      refine wpOp_step rfl (fun K hK => ?_)
      rw [if_pos (by rfl)]
      refine wp_append_in w' (.tmp 10) (.tmp 14) 88 rfl B (Nat.le_trans hBw hf.bel.size) 22 _ 1 24 Try.underlying88 info_bs rfl (by omega) A bs.length c vs f4 (h.row.fr (S := fun _ => False) (Fr.of_bel hf.bel) (fun _ _ h => h)) _ 1 1 _ f8 hr8.rd (oneCell_slice _ _ _) (by omega) (bs.length + 1) _ rfl rfl hblen (by omega) ?_
      intro A2 c2 w2 hown2 hg2 ho2
      exact hK _ _ ⟨_, rfl, ⟨A2, c2, A8, c8, rfl, hown2, hb8.kept hg2 (own_apart hb8 hrow), app_block ho2 hf.bel.size (fun ad3 e => (hb8.at0 ad3 e).2)⟩, hg2⟩
    · intro a w' hf he
      have f0 : a.tmps.getD 6 undef = .pointer (some ⟨p, 0, none⟩) := he 0 (by kernel_rfl)
      refine wpOp_step rfl (fun K hK => ?_)
      go_simp
      exact hK _ _ ⟨_, rfl, rfl, World.grownBy.refl _ _⟩
    · intro a w' hf he
      have f10 : a.tmps.getD 16 undef = .pointer (some ⟨p, 0, none⟩) := he 10 (by kernel_rfl)
      refine wpOp_step rfl (fun K hK => ?_)
      go_simp
      exact hK _ _ ⟨_, rfl, rfl, World.grownBy.refl _ _⟩
  · intro a w' hf he
    obtain ⟨u6, f0⟩ : ∃ u, a.tmps.getD 6 undef = u := ⟨_, rfl⟩
    obtain ⟨u7, f1⟩ : ∃ u, a.tmps.getD 7 undef = u := ⟨_, rfl⟩
    obtain ⟨u8, f2⟩ : ∃ u, a.tmps.getD 8 undef = u := ⟨_, rfl⟩
    obtain ⟨u9, f3⟩ : ∃ u, a.tmps.getD 9 undef = u := ⟨_, rfl⟩
    obtain ⟨u10, f4⟩ : ∃ u, a.tmps.getD 10 undef = u := ⟨_, rfl⟩
    obtain ⟨u11, f5⟩ : ∃ u, a.tmps.getD 11 undef = u := ⟨_, rfl⟩
    obtain ⟨u12, f6⟩ : ∃ u, a.tmps.getD 12 undef = u := ⟨_, rfl⟩
    obtain ⟨u13, f7⟩ : ∃ u, a.tmps.getD 13 undef = u := ⟨_, rfl⟩
    obtain ⟨u14, f8⟩ : ∃ u, a.tmps.getD 14 undef = u := ⟨_, rfl⟩
    obtain ⟨A9, c9, B9, d9, hv9, hr9, hb9, ha9⟩ := he 9 (by decide)
    have f9 : a.tmps.getD 15 undef = _ := hv9
    obtain ⟨u16, f10⟩ : ∃ u, a.tmps.getD 16 undef = u := ⟨_, rfl⟩
    have f11 : a.tmps.getD 17 undef = .pointer (some ⟨p, 0, none⟩) := he 11 (by decide)
    have hlit := hf.lit ((6, u6) :: (7, u7) :: (8, u8) :: (9, u9) :: (10, u10) :: (11, u11) :: (12, u12) :: (13, u13) :: (14, u14) :: (15, _) :: (16, u16) :: (17, .pointer (some ⟨p, 0, none⟩)) :: []) (by kernel_rfl) ⟨f0, f1, f2, f3, f4, f5, f6, f7, f8, f9, f10, f11, trivial⟩
    have hB := hf.grown
    clear he hf f0 f1 f2 f3 f4 f5 f6 f7 f8 f9 f10 f11 hv9
    subst hlit
    simp only [putAll_nil, putAll_cons, Act.put, List.setIfInBounds_toArray, List.set_cons_zero, List.set_cons_succ]
    simp only [List.drop_succ_cons, List.drop_zero]
    obtain ⟨hdone, hfrd⟩ := RefR.push_done h hB hr9 hb9 ha9
    have hnp : some p ≠ (Value.slice A bs.length c).ownBlock := fun e => by
      obtain ⟨ad, h1, h2⟩ := addr_row e
      exact (h.rowF ad h1).2 h2.symm
    have hblk1 : w'.heap[p]? = some (.cells #[.slice A bs.length c, .int .i64 first, .int .i64 win] 90 (0, 0)) := (hB.block p hplt hnp).trans h.blk
    have c21 := cell_of_row w' p 0 _ _ _ hblk1
    simp at c21
    have f21' := frozen_of_row w' p 0 _ _ hblk1
    have Hdone := Lib.hid hdone
    have hsz1 : w.heap.size ≤ w'.heap.size := hB.size
    clear hdone hblk1 hr9 hb9 ha9 h c0
    go_wp2_with fail
    generalize w'.setCell ⟨p, 0, none⟩ (.slice A9 (bs.length + 1) c9) = W2 at *
    have c1 := cell_of_row W2 p 1 _ _ _ Hdone.out.blk
    have c22 := cell_of_row W2 p 0 _ _ _ Hdone.out.blk
    have c23 := cell_of_row W2 p 2 _ _ _ Hdone.out.blk
    simp at c1 c22 c23
    go_quiet (fail)
    go_wp2
    go_ret2
    refine ⟨?_, (fun k => F k ∨ w.heap.size ≤ k ∧ k < w'.heap.size), RefR.drewN ⟨A9, c9, _, Hdone.out⟩ _, hfrd.trans (Fr.drewN (S := F) _) (fun _ _ h => h), ?_⟩
    · refine congrArg (fun z => Ending.returned (.tuple #[.int .i64 z, .bool (decide ((bs.length : Int) + 1 ≤ win))])) ?_
      omega
    · rintro k (hk | hk)
      · exact .inl hk
      · exact .inr (by omega)

theorem c_rBody_no (ho : RefR w B F p win first bs) (hb : bs.length ≤ 1048576) (hf0 : 1 ≤ first) (hf1 : first ≤ 2199023255552) (n : Int) (hn : n < first ∨ first + bs.length - 1 < n) :
    Calls Try.prog 55 #[.pointer (some ⟨p, 0, none⟩), .int .i64 n] w fun e w' => e = .returned (.tuple #[.slice none 0 0, .bool false]) ∧ w = w' := by
  have c1 := ho.c1
  obtain ⟨A, c, vs, h⟩ := ho
  have c0 := cell_of_row w p 0 _ _ _ h.blk
  simp at c0
  have Hat := Lib.hid h
  have hcap := h.row.rd.cap
  have hle := h.row.rd.le
  unfold maxLen at hcap
  clear h
  go_enter Try.func55, Try.ntmps55
  go_wp2_with fail
  go_loop [6, 7, 13] (fun _ _ i => ∃ k : Nat, k ≤ bs.length ∧ i = .int .i64 (k : Int)) (fun _ _ i => bs.length - (intOf i).toNat)
  case atStart => exact ⟨0, by omega, rfl⟩
  case round =>
    obtain ⟨k, hk, rfl⟩ := hrel
    by_cases hlt : k < bs.length
    · obtain ⟨ad, u, rfl, hu, hcell⟩ := Hat.out.row.rd.at1 hlt
      have hne : ((first + (k : Int)) == n) = false := by simp; omega
      have Hu := Lib.hid hu
      clear hu
      go_wp2_with fail
      go_round
      case rel => exact ⟨k + 1, by omega, by go_num⟩
      case measure => simp [intOf] <;> omega
    · have hk : k = bs.length := by omega
      subst hk
      go_wp2_with fail
      go_ret2
      exact ⟨rfl, rfl⟩

theorem c_rBody (ho : RefR w B F p win first bs) (hb : bs.length ≤ 1048576) (hf0 : 1 ≤ first) (hf1 : first ≤ 2199023255552) (n : Int) (i : Nat) (body : List UInt8) (hn : n = first + i) (hi : bs[i]? = some body) (hbl : body.length ≤ 140737488351232) :
    Calls Try.prog 55 #[.pointer (some ⟨p, 0, none⟩), .int .i64 n] w fun e w' => ∃ A2 c2, e = .returned (.tuple #[.slice A2 body.length c2, .bool true]) ∧ Own w' w.heap.size 5 1 A2 body.length c2 (bytesV body) ∧ Below w.heap.size w w' := by
  subst hn
  have hil : i < bs.length := (List.getElem?_eq_some_iff.1 hi).1
  have c1 := ho.c1
  obtain ⟨A, c, vs, h⟩ := ho
  have c0 := cell_of_row w p 0 _ _ _ h.blk
  simp at c0
  have hcap := h.row.rd.cap
  have hle := h.row.rd.le
  unfold maxLen at hcap
  obtain ⟨vi, hvi, A3, n3, c3, rfl, hb3, _⟩ := h.bod.2 i body hi
  have hl3 := hb3.blen
  subst hl3
  have Hat := Lib.hid h
  have Hi := Lib.hid hi
  have Hvi := Lib.hid hvi
  clear h hi hvi
  go_enter Try.func55, Try.ntmps55
  go_wp2_with fail
  go_loop [6, 7, 13] (fun _ _ i_ => ∃ k : Nat, k ≤ i ∧ i_ = .int .i64 (k : Int)) (fun _ _ i_ => i - (intOf i_).toNat)
  case atStart => exact ⟨0, by omega, rfl⟩
  case round =>
    obtain ⟨k, hk, rfl⟩ := hrel
    have hlt : k < bs.length := by omega
    obtain ⟨ad, u, rfl, hu, hcell⟩ := Hat.out.row.rd.at1 hlt
    by_cases hki : k < i
    · have hne : ((first + (k : Int)) == (first + (i : Int))) = false := by simp; omega
      have Hu := Lib.hid hu
      clear hu
      go_wp2_with fail
      go_round
      case rel => exact ⟨k + 1, by omega, by go_num⟩
      case measure => simp [intOf] <;> omega
    · have hk : k = i := by omega
      subst hk
      rw [Hvi.out] at hu
      injection hu with hu
      subst hu
      go_wp2_with (first
        | (at_builtin
           refine wpL_append _ rfl (.tmp 26) (.tmp 27) _ rfl w w.heap.size (bel_alloc (Below.refl _ _) (Nat.le_refl _) _) (size_alloc_le (Nat.le_refl _) _) 5 _ 1 1 Try.underlying22 Num.info_u8 rfl (by omega) _ _ _ [] rfl (own_empty _ _ _ _ (Nat.le_refl _)) _ _ _ _ rfl (hb3.alloc _) bytesV_one body.length (bytesV body) (by omega) rfl (by unfold maxLen; omega) (by omega) ?_
           intro A4 c4 w4 hown4 hb4 hg4 ho4))
      go_ret2
      exact ⟨A4, c4, rfl, hown4, hb4⟩

theorem from_get {a : Int} {N k : Nat} {z : Int} (h : (from_ a N)[k]? = some z) : z = a + (k : Int) := by
  simp only [from_, List.getElem?_map] at h
  have hk : k < N := by
    rcases Nat.lt_or_ge k N with h1 | h1
    · exact h1
    · rw [List.getElem?_eq_none (by simpa using h1)] at h; cases h
  rw [List.getElem?_range hk] at h
  simp at h
  omega

set_option maxRecDepth 100000 in
theorem c_rAcked_no (ho : RefR w B F p win first bs) (hb : bs.length ≤ 1048576) (hw : 0 < win) (hw2 : win ≤ 64) (hf0 : 1 ≤ first) (hf1 : first ≤ 1099511627776) (n : Int) (hn : n < first ∨ first + min (bs.length : Int) win - 1 < n) :
    Calls Try.prog 52 #[.pointer (some ⟨p, 0, none⟩), .int .i64 n] w fun e w' => e = .returned (.slice none 0 0) ∧ Below w.heap.size w w' := by
  have Ho := Lib.hid ho
  clear ho
  obtain ⟨N0, HN0⟩ : ∃ N0 : Nat, Hid ((N0 : Int) = min (bs.length : Int) win) := ⟨(min (bs.length : Int) win).toNat, Lib.hid (by omega)⟩
  rw [← HN0.out] at hn
  have hN64 : N0 ≤ 64 := by have := HN0.out; omega
  go_enter Try.func52, Try.ntmps52
  go_wp2_with (first
    | (go_at_call 59
       (with_reducible refine (c_rNumbers Ho.out (by omega) hw hw2 (by omega) (by omega) N0 HN0.out).mono ?_)
       rintro e w1 ⟨A1, c1, rfl, hown1, hb1⟩
       have hr1 := hown1.rd
       clear hown1
       by_cases h0 : N0 = 0))
  · subst h0
    go_wp2_with fail
    go_ret
    exact ⟨rfl, hb1⟩
  · obtain ⟨ad, z0, rfl, hz0, hcell0⟩ := rd_ints_at hr1 (k := 0) (by omega)
    obtain ⟨ad', z1, hA1, hz1, hcell1⟩ := rd_ints_at hr1 (k := N0 - 1) (by omega)
    injection hA1 with hA1
    subst hA1
    have ez0 := from_get hz0.out
    have ez1 := from_get hz1.out
    clear hz0 hz1
    have hu := Lib.hid (show Try.prog.underlying 78 = some (.slice (Try.prog.elem 78)) from by kernel_rfl)
    have e1 : ((N0 : Int) == 0) = false := by simp; omega
    have hcell2 := hcell1
    rw [show N0 - 1 = ((N0 : Int) - 1).toNat from by omega] at hcell1
    rw [show ((N0 - 1 : Nat) : Int) = (N0 : Int) - 1 from by omega] at ez1
    rw [show ad.add 0 = ad from by unfold Addr.add; simp] at hcell0
    have hi0 := Lib.hid (show (0 : Int) ≤ 0 ∧ (0 : Int) < (N0 : Int) from by omega)
    have hi1 := Lib.hid (show (0 : Int) ≤ (N0 : Int) - 1 ∧ (N0 : Int) - 1 < (N0 : Int) from by omega)
    have Ez0 := Lib.hid ez0
    have Ez1 := Lib.hid ez1
    clear ez0 ez1
    by_cases hlt : n < first
    · have t0 : n < z0 := by have := Ez0.out; omega
      go_wp2_with (first
        | (rw [Go.run_indexAt_slice (P := Try.prog) _ 78 _ _ _ _ _ hu.out]; (first | rw [if_pos hi0.out] | rw [if_pos hi1.out]); go_simp))
      go_ret
      exact ⟨rfl, hb1⟩
    · have t0 : ¬ n < z0 := by have := Ez0.out; omega
      have t1 : z1 < n := by have := Ez1.out; omega
      go_wp2_with (first
        | (rw [Go.run_indexAt_slice (P := Try.prog) _ 78 _ _ _ _ _ hu.out]; (first | rw [if_pos hi0.out] | rw [if_pos hi1.out]); go_simp))
      go_ret
      exact ⟨rfl, hb1⟩

def firstOf (w : World) (p : Nat) : Int := match w.cell? ⟨p, 1, none⟩ with | some v => intOf v | none => 0
theorem firstOf_eq {z : Int} (h : w.cell? ⟨p, 1, none⟩ = some (.int .i64 z)) : firstOf w p = z := by simp [firstOf, h, intOf]

theorem rstep_done {W w1 : World} {A A2 : Option Addr} {c c2 L : Nat} {vs : List Value} (h : RefAt W B F p win first bs A c vs) (hL : bs.length = L + 1) (hB : Below W.heap.size W w1) (hBw : B ≤ W.heap.size)
    (hown : Own w1 W.heap.size 22 1 A2 L c2 (vs.drop 1)) :
    RefAt ((w1.setCell ⟨p, 0, none⟩ (.slice A2 L c2)).setCell ⟨p, 1, none⟩ (.int .i64 (first + 1))) B (fun k => F k ∨ W.heap.size ≤ k ∧ k < w1.heap.size) p win (first + 1) (bs.drop 1) A2 c2 (vs.drop 1) ∧
    Fr F W ((w1.setCell ⟨p, 0, none⟩ (.slice A2 L c2)).setCell ⟨p, 1, none⟩ (.int .i64 (first + 1))) := by
  have hblk1 : w1.heap[p]? = some (.cells #[.slice A bs.length c, .int .i64 first, .int .i64 win] 90 (0, 0)) := heap_fr (S := fun _ => False) h.blk (Fr.of_bel hB) (fun h => h)
  have hset : Fr (fun k => k = p) w1 ((w1.setCell ⟨p, 0, none⟩ (.slice A2 L c2)).setCell ⟨p, 1, none⟩ (.int .i64 (first + 1))) :=
    (Fr.setCell (S := fun k => k = p) (p := ⟨p, 0, none⟩) rfl _).trans (Fr.setCell (S := fun k => k = p) (p := ⟨p, 1, none⟩) rfl _) (fun _ _ h => h)
  have hall : Fr (fun k => k = p) W ((w1.setCell ⟨p, 0, none⟩ (.slice A2 L c2)).setCell ⟨p, 1, none⟩ (.int .i64 (first + 1))) := (Fr.of_bel hB).trans hset (fun _ _ h => h)
  have hsz := hB.size
  have hp := (h.inF p h.fp).2
  have esz : ((w1.setCell ⟨p, 0, none⟩ (.slice A2 L c2)).setCell ⟨p, 1, none⟩ (.int .i64 (first + 1))).heap.size = w1.heap.size := by simp [World.setCell]
  have hA2 : ∀ ad, A2 = some ad → W.heap.size ≤ ad.block ∧ ad.block < w1.heap.size := hown.at0
  have hlen : (bs.drop 1).length = L := by simp [hL]
  refine ⟨⟨?_, ?_, .inl h.fp, ?_, ?_, ?_, ?_⟩, hall.mono (fun k _ e => by subst e; exact h.fp)⟩
  · have h2 := heap_setCell_same _ p 0 _ _ (.slice A2 L c2) hblk1
    rw [heap_setCell_same _ p 1 _ _ _ h2, hlen]
    simp
  · intro k hk
    rw [esz]
    rcases hk with hk | hk
    · have := h.inF k hk; omega
    · omega
  · rw [hlen]
    exact .inl ((hown.mono hBw).fr hset (fun ad e => by have := hA2 ad e; omega))
  · intro ad e
    have := hA2 ad e
    exact ⟨.inr this, by omega⟩
  · simp [h.bod.1]
  · intro i b hi
    rw [List.getElem?_drop] at hi
    obtain ⟨v, hv, hb⟩ := h.bod.2 _ b hi
    refine ⟨v, by rw [List.getElem?_drop]; exact hv, hb.fr hall (fun k _ hn e => hn (.inl e)) (fun k h1 h2 => ⟨.inl h1, fun e => ?_⟩)⟩
    rcases e with e | ⟨ad, e1, e2⟩
    · exact h2 (.inl e)
    · have := hA2 ad e1
      have := (h.inF k h1).2
      omega
end
end Go.Proofs.Ytlfphoablloodaa.Outbox
