/- The law OutboxActs, walked. Conditions: none. -/
import Derived.Test.YtlfphoablloodaaOutAny
import Derived.Test.YtlfphoablloodaaActs
import Derived.Test.YtlfphoablloodaaRegion2
import Derived.IntWalk
namespace Go.Proofs.Ytlfphoablloodaa.Outbox
open Go.RowKit Tw
set_option maxHeartbeats 8000000

theorem bel_live {w w1 w2 : World} (h : Below w.heap.size w w1) (h2 : Below w1.heap.size w1 w2) : Below w.heap.size w w2 :=
  h.trans ⟨h2.os, h2.tape, h2.output, h2.size, fun k hk => h2.block k (Nat.lt_of_lt_of_le hk h.size)⟩

theorem addr_next (a : Addr) (m j : Nat) : a.add (m + (j + 1)) = ⟨(a.add m).block, (a.add m).off + (j + 1), none⟩ := by
  unfold Addr.add
  rw [if_neg (by omega)]
  by_cases h : m = 0
  · simp [h]
  · simp [h]
    omega

/-- the outbox and its reference, alike -/
structure Two (w wr : World) (p q : Nat) (win first : Int) (bs : List (List UInt8)) (F F2 : Nat → Prop) : Prop where
  o : OutR wr w.heap.size F p win first bs
  r : RefR wr q F2 q win first bs
  dis : ∀ k, F k → ¬ F2 k
  bel : Below w.heap.size w wr
  low : w.heap.size ≤ q
  f1 : 1 ≤ first
  short : ∀ b ∈ bs, b.length ≤ 300

theorem Two.bel_ {w wr wr' : World} {p q : Nat} {win first : Int} {bs : List (List UInt8)} {F F2 : Nat → Prop} (h : Two w wr p q win first bs F F2) (hb : Below wr.heap.size wr wr') : Two w wr' p q win first bs F F2 :=
  ⟨h.o.bel hb, h.r.bel hb, h.dis, bel_live h.bel hb, h.low, h.f1, h.short⟩

theorem fr_cell {S : Nat → Prop} {w w' : World} (h : Fr S w w') {a : Addr} (ha : a.block < w.heap.size) (hn : ¬ S a.block) : w'.cell? a = w.cell? a := World.cell?_of_block (w := w) (h.block a.block ha hn)
section
variable {w W0 w' w3 w4 : World} {p q : Nat} {win first : Int} {bs : List (List UInt8)} {F F2 F3 F4 : Nat → Prop}
theorem Two.push {b : List UInt8} (h : Two w W0 p q win first bs F F2) (ho3 : OutR w3 w.heap.size F3 p win first (bs ++ [b])) (hfr3 : Fr F W0 w3) (hF3 : ∀ k, F3 k → F k ∨ W0.heap.size ≤ k)
    (hr4 : RefR w4 q F4 q win first (bs ++ [b])) (hfr4 : Fr F2 w3 w4) (hF4 : ∀ k, F4 k → F2 k ∨ w3.heap.size ≤ k) (hb : b.length ≤ 300) : Two w w4 p q win first (bs ++ [b]) F3 F4 := by
  have hd : ∀ k, F3 k → ¬ F2 k := fun k h3 h2 => by
    have := (h.r.lt k h2).2
    rcases hF3 k h3 with h1 | h1
    · exact h.dis k h1 h2
    · omega
  refine ⟨ho3.fr hfr4 hd, hr4, fun k h3 h4 => ?_, ?_, h.low, h.f1, fun x hx => ?_⟩
  · have := (ho3.lt k h3).2
    rcases hF4 k h4 with h1 | h1
    · exact hd k h3 h1
    · omega
  · have k1 := hfr3.bel (fun k hk => (h.o.lt k hk).1) h.bel.size
    have k2 := hfr4.bel (B := w.heap.size) (fun k hk => by have := (h.r.lt k hk).1; have := h.low; omega) (by have := h.bel.size; have := k1.size; omega)
    exact (h.bel.trans k1).trans k2
  · rcases List.mem_append.1 hx with hx | hx
    · exact h.short x hx
    · simp at hx
      subst hx
      exact hb
theorem Two.ack {first' : Int} {bs' : List (List UInt8)} (h : Two w W0 p q win first bs F F2) (ho : OutR w' w.heap.size F p win first' bs') (hr : RefR w' q F4 q win first' bs') (hB : Fr (fun k => F k ∨ F2 k ∨ False) W0 w')
    (hF4 : ∀ k, F4 k → F2 k ∨ W0.heap.size ≤ k) (hf : 1 ≤ first') (hs : ∀ b ∈ bs', b.length ≤ 300) : Two w w' p q win first' bs' F F4 := by
  refine ⟨ho, hr, fun k h1 h4 => ?_, ?_, h.low, hf, hs⟩
  · have := (h.o.lt k h1).2
    rcases hF4 k h4 with h2 | h2
    · exact h.dis k h1 h2
    · omega
  · refine h.bel.trans (hB.bel (fun k hk => ?_) h.bel.size)
    rcases hk with hk | hk | hk
    · exact (h.o.lt k hk).1
    · have := (h.r.lt k hk).1; have := h.low; omega
    · exact hk.elim
end
theorem RefR.self {w : World} {B : Nat} {F : Nat → Prop} {p : Nat} {win first : Int} {bs : List (List UInt8)} (h : RefR w B F p win first bs) : F p := by
  obtain ⟨_, _, _, h⟩ := h
  exact h.fp
theorem ackG_le (win first : Int) (len : Nat) (n : Int) : ackG win first len n ≤ len := by
  unfold ackG
  split <;> omega

set_option maxRecDepth 100000 in
theorem w_OutboxActs (win : Int) (A : Option Addr) (n c : Nat) (l : List (Bool × Int × List UInt8)) (w : World) (hl : ActsIn w A n c l) :
    Calls Try.prog 10 #[.int .i64 win, .slice A n c] w fun e w' => e = .returned (.bool true) ∧ Below w.heap.size w w' := by
  have hn := hl.le
  have hc := hl.cap
  unfold maxLen at hc
  have Hl := Lib.hid hl
  clear hl
  by_cases h80 : 80 < n
  · go_enter Try.func10, Try.ntmps10
    go_wp2_with (first
      | (go_at_call 46; (with_reducible refine (c_live _).mono ?_); rintro e w2 ⟨rfl, hb2⟩))
    go_ret
    exact ⟨rfl, hb2⟩
  by_cases hwin : win < 1 ∨ 64 < win
  · have Hwin := Lib.hid hwin
    clear hwin
    have hc0 : ((2 : Int) == 0) = false := rfl
    go_enter Try.func10, Try.ntmps10
    go_wp2_with (first
      | (go_at_call 45; (with_reducible refine (c_oNew_no win _ Hwin.out).mono ?_); rintro e w2 ⟨rfl, rfl⟩)
      | (go_at_call 50; (with_reducible refine (c_rNew_no win _ Hwin.out).mono ?_); rintro e w2 ⟨rfl, rfl⟩))
    go_loopw [9] (fun x wr => x = .int .i64 0 ∧ wr = w) (fun _ _ => 0)
    case atStart => exact ⟨rfl, rfl⟩
    case round =>
      obtain ⟨rfl, rfl⟩ := hrel
      by_cases h0 : 0 < n
      · go_wp2_with (first
          | (go_at_call 46; (with_reducible refine (c_live _).mono ?_); rintro e w2 ⟨rfl, hb2⟩))
        go_ret
        exact ⟨rfl, hb2⟩
      · go_wp2_with (first
          | (go_at_call 46; (with_reducible refine (c_live _).mono ?_); rintro e w2 ⟨rfl, hb2⟩))
        go_ret
        exact ⟨rfl, hb2⟩
  · have hw1 : 1 ≤ win := by omega
    have hw2 : win ≤ 64 := by omega
    clear hwin
    go_enter Try.func10, Try.ntmps10
    go_wp2_with (first
      | (go_at_call 45; (with_reducible refine (c_oNew win _ hw1 hw2).mono ?_); rintro e w1 ⟨rfl, ho, hb1⟩)
      | (go_at_call 50; (with_reducible refine (c_rNew win _ hw1 hw2).mono ?_); rintro e w2 ⟨rfl, hr, hb2⟩))
    obtain ⟨p, hp⟩ : ∃ p, w.heap.size = p := ⟨_, rfl⟩
    obtain ⟨q, hq⟩ : ∃ q, w1.heap.size = q := ⟨_, rfl⟩
    have hpq : p < q := by have := (ho.lt p hp.symm).2; omega
    have h2 : Two w w2 p q win 1 [] (fun k => k = p) (fun k => k = q) := by
      have ho2 := ho.bel hb2
      rw [hp] at ho2
      rw [hq] at hr
      exact ⟨by rw [hp]; exact ho2, hr, fun k h1 h2 => by omega, bel_live hb1 hb2, by omega, Int.le_refl _, fun b h => by simp at h⟩
    clear ho hr
    rw [hp, hq]
    have H2 := Lib.hid h2
    have Hp := Lib.hid hp
    have Hb1 := Lib.hid hb1
    clear h2 hp hq hb1 hb2
    go_loopw [9] (fun x wr => ∃ (k : Nat) (first : Int) (bs : List (List UInt8)) (F F2 : Nat → Prop), k ≤ n ∧ x = .int .i64 (k : Int) ∧ Hid (Two w wr p q win first bs F F2) ∧ Hid (first + bs.length ≤ 1 + k)) (fun x _ => n - (intOf x).toNat)
    case atStart => exact ⟨0, 1, [], _, _, by omega, rfl, H2, Lib.hid (by simp)⟩
    case round =>
      obtain ⟨k, first, bs, F, F2, hk, rfl, HT, HL⟩ := hrel
      by_cases hlt : k < n
      · obtain ⟨⟨ack, num, body⟩, hact⟩ : ∃ a, l[k]? = some a := ⟨_, List.getElem?_eq_getElem (by rw [Hl.out.len]; exact hlt)⟩
        obtain ⟨ad, A', n', c', rfl, d0, d1, d2, hbody, hn', hz0, hz1⟩ := Hl.out.at_ k _ hact
        simp only at d0 d1 d2 hbody hz0 hz1
        have e0 := (HT.out.bel.cell (block_lt_of_cell d0)).trans d0
        have e1 := (HT.out.bel.cell (block_lt_of_cell d1)).trans d1
        have e2 := (HT.out.bel.cell (block_lt_of_cell d2)).trans d2
        have Hbody := Lib.hid (hbody.bel HT.out.bel)
        have Hbw := Lib.hid hbody
        have hbl := hbody.blen
        rw [addr_next ad (k * 3) 0] at e1
        rw [addr_next ad (k * 3) 1] at e2
        simp only [Nat.zero_add, Nat.reduceAdd] at e1 e2
        clear d0 d1 d2 hbody hact
        by_cases h300 : 300 < n'
        · go_wp2_with (first
            | (go_at_call 46; (with_reducible refine (c_live _).mono ?_); rintro e w2 ⟨rfl, hb2⟩))
          go_ret
          exact ⟨rfl, bel_live (HT.out.bel.alloc HT.out.bel.size _) hb2⟩
        · have h300' : n' ≤ 300 := by omega
          have hf1 := HT.out.f1
          have hs1 : bs.length ≤ 80 := by have := HL.out; omega
          have hs2 : first ≤ 81 := by have := HL.out; omega
          cases ack with
          | true =>
            go_wp2_with fail
            have g1 : (wr.alloc (.cells #[.bool true, .int .i64 num, .slice A' n' c'] 77)).cell? ⟨wr.heap.size, 1, none⟩ = some (.int .i64 num) := by go_simp
            have HT0 := Lib.hid (HT.out.bel_ ((Below.refl _ _).alloc (Nat.le_refl _) (.cells #[.bool true, .int .i64 num, .slice A' n' c'] 77)))
            have hra : wr.heap.size < (wr.alloc (.cells #[.bool true, .int .i64 num, .slice A' n' c'] 77)).heap.size := by simp
            have hra1 : ¬ F wr.heap.size := fun h => by have := (HT.out.o.lt _ h).2; omega
            have hra2 : ¬ F2 wr.heap.size := fun h => by have := (HT.out.r.lt _ h).2; omega
            generalize wr.alloc (.cells #[.bool true, .int .i64 num, .slice A' n' c'] 77) = W0 at *
            generalize wr.heap.size = ra at *
            clear e0 e1 e2
            have hq0 : q ≤ W0.heap.size := Nat.le_of_lt (HT0.out.r.lt _ HT0.out.r.self).2
            refine wp_region_fr (by kernel_rfl) 10 (fun i_ => match i_ with | 3 => 1 | 7 => 2 | _ => 0) (fun c_ => match c_ with | 1 => F | 2 => F2 | _ => fun _ => False) (fun i_ => match i_ with | 0 => [1, 2] | 1 => [1, 2] | 2 => [1, 2] | 3 => [2] | 4 => [1, 2] | 5 => [1, 2] | 6 => [1, 2] | _ => []) (fun i_ => match i_ with | 4 => [1] | 5 => [1] | 6 => [1] | 7 => [1] | 8 => [1, 2] | 9 => [1, 2] | _ => []) [1, 2] (fun i_ v wz => match i_ with
              | 0 => v = .pointer (some ⟨p, 0, none⟩)
              | 1 => v = .pointer (some ⟨ra, 1, none⟩)
              | 2 => v = .int .i64 num
              | 3 => ∃ A3 c3, v = .slice A3 (ackOut win first bs.length num).length c3 ∧ Rd wz 1 A3 (ackOut win first bs.length num).length c3 (intsV (ackOut win first bs.length num)) ∧ OutR wz w.heap.size F p win (first + (ackG win first bs.length num : Nat)) (bs.drop (ackG win first bs.length num)) ∧ ∀ ad, A3 = some ad → W0.heap.size ≤ ad.block
              | 4 => v = .pointer (some ⟨q, 0, none⟩)
              | 5 => v = .pointer (some ⟨ra, 1, none⟩)
              | 6 => v = .int .i64 num
              | 7 => ∃ A3 c3 F4, v = .slice A3 (ackOut win first bs.length num).length c3 ∧ Rd wz 1 A3 (ackOut win first bs.length num).length c3 (intsV (ackOut win first bs.length num)) ∧ RefR wz q F4 q win (first + (ackG win first bs.length num : Nat)) (bs.drop (ackG win first bs.length num)) ∧ (∀ ad, A3 = some ad → W0.heap.size ≤ ad.block) ∧ ∀ k, F4 k → F2 k ∨ W0.heap.size ≤ k
              | 8 => v = .bool true
              | 9 => v = .bool false
              | _ => True) (by kernel_rfl) (by kernel_rfl) ?_ ?_ ?_
            · (repeat' (first | exact allLt_zero | refine allLt_succ ?_ ?_))
              · exact fun _ _ _ h _ => h
              · exact fun _ _ _ h _ => h
              · exact fun _ _ _ h _ => h
              · intro v w1 w2 h hg
                replace hg : Fr (fun k => (F2) k ∨ False) w1 w2 := hg
                replace hg := hg.un1
                obtain ⟨A3, c3, rfl, hr, ho, hb⟩ := h
                exact ⟨A3, c3, rfl, hr.fr hg (fun ad e hF => by have := (HT0.out.r.lt _ hF).2; have := hb ad e; omega), ho.fr hg HT0.out.dis, hb⟩
              · exact fun _ _ _ h _ => h
              · exact fun _ _ _ h _ => h
              · exact fun _ _ _ h _ => h
              · intro v w1 w2 h hg
                replace hg : Fr (fun k => False) w1 w2 := hg
                obtain ⟨A3, c3, F4, rfl, hr, ho, hb, hF4⟩ := h
                exact ⟨A3, c3, F4, rfl, hr.fr hg (fun _ _ h => h), ho.fr hg (fun _ _ h => h), hb, hF4⟩
              · exact fun _ _ _ h _ => h
              · exact fun _ _ _ h _ => h
            · (repeat' (first | exact allLt_zero | refine allLt_succ ?_ ?_))
              · intro a w' hf he
                have k5 : a.tmps.getD 5 undef = .pointer (some ⟨p, 0, none⟩) := hf.var (by kernel_rfl) rfl
                refine wpOp_step rfl (fun K hK => ?_)
                go_simp
                exact hK _ _ ⟨_, rfl, rfl, Fr.refl _ _⟩
              · intro a w' hf he
                have k10 : a.tmps.getD 10 undef = .pointer (some ⟨ra, 0, none⟩) := hf.var (by kernel_rfl) rfl
                refine wpOp_step rfl (fun K hK => ?_)
                go_simp
                exact hK _ _ ⟨_, rfl, rfl, Fr.refl _ _⟩
              · intro a w' hf he
                have f1 : a.tmps.getD 58 undef = .pointer (some ⟨ra, 1, none⟩) := he 1 (by kernel_rfl)
                have hfr : Fr (fun k => False) _ w' := hf.of_start
                have q1 := (fr_cell hfr (a := ⟨ra, 1, none⟩) hra (fun h => h)).trans g1
                refine wpOp_step rfl (fun K hK => ?_)
                go_simp
                exact hK _ _ ⟨_, rfl, rfl, Fr.refl _ _⟩
              · intro a w' hf he
                have f0 : a.tmps.getD 57 undef = .pointer (some ⟨p, 0, none⟩) := he 0 (by kernel_rfl)
                have f2 : a.tmps.getD 59 undef = .int .i64 num := he 2 (by kernel_rfl)
                have hfr : Fr (fun k => False) _ w' := hf.of_start
                refine wpOp_step rfl (fun K hK => ?_)
                go_simp
                refine (c_Acked_any (HT0.out.o.fr hfr (fun _ _ h => h)) (by omega) (by omega) hw2 hf1 (by omega) num).mono ?_
                rintro e w2 ⟨A3, c3, rfl, hrd, ho, hfr3, hb⟩
                exact hK _ _ ⟨_, rfl, ⟨A3, c3, rfl, hrd, ho, fun ad e => Nat.le_trans hfr.size (hb ad e)⟩, hfr3.cls1⟩
              · intro a w' hf he
                have k7 : a.tmps.getD 7 undef = .pointer (some ⟨q, 0, none⟩) := hf.var (by kernel_rfl) rfl
                refine wpOp_step rfl (fun K hK => ?_)
                go_simp
                exact hK _ _ ⟨_, rfl, rfl, Fr.refl _ _⟩
              · intro a w' hf he
                have k10 : a.tmps.getD 10 undef = .pointer (some ⟨ra, 0, none⟩) := hf.var (by kernel_rfl) rfl
                refine wpOp_step rfl (fun K hK => ?_)
                go_simp
                exact hK _ _ ⟨_, rfl, rfl, Fr.refl _ _⟩
              · intro a w' hf he
                have f5 : a.tmps.getD 62 undef = .pointer (some ⟨ra, 1, none⟩) := he 5 (by kernel_rfl)
                have hfr : Fr (fun k => (F) k ∨ False) _ w' := hf.of_start
                replace hfr := hfr.un1
                have q1 := (fr_cell hfr (a := ⟨ra, 1, none⟩) hra hra1).trans g1
                refine wpOp_step rfl (fun K hK => ?_)
                go_simp
                exact hK _ _ ⟨_, rfl, rfl, Fr.refl _ _⟩
              · intro a w' hf he
                have f4 : a.tmps.getD 61 undef = .pointer (some ⟨q, 0, none⟩) := he 4 (by kernel_rfl)
                have f6 : a.tmps.getD 63 undef = .int .i64 num := he 6 (by kernel_rfl)
                have hfr : Fr (fun k => (F) k ∨ False) _ w' := hf.of_start
                replace hfr := hfr.un1
                refine wpOp_step rfl (fun K hK => ?_)
                go_simp
                refine (c_rAcked_any (HT0.out.r.fr hfr (fun k h2 h1 => HT0.out.dis k h1 h2)) (Nat.le_trans hq0 hfr.size) (by omega) (by omega) hw2 hf1 (by omega) num).mono ?_
                rintro e w2 ⟨A3, c3, rfl, hrd, hb, F4, ho, hfr3, hF4⟩
                exact hK _ _ ⟨_, rfl, ⟨A3, c3, F4, rfl, hrd, ho, fun ad e => Nat.le_trans hfr.size (hb ad e), fun k hk => (hF4 k hk).imp id (Nat.le_trans hfr.size)⟩, hfr3.cls1⟩
              · intro a w' hf he
                obtain ⟨A3, c3, hv3, hr3, ho3, hb3⟩ := he 3 (by kernel_rfl)
                have f3 : a.tmps.getD 60 undef = _ := hv3
                obtain ⟨A7, c7, F7, hv7, hr7, ho7, hb7, hF7⟩ := he 7 (by kernel_rfl)
                have f7 : a.tmps.getD 64 undef = _ := hv7
                have hfr : Fr (fun k => (F) k ∨ (F2) k ∨ False) _ w' := hf.of_start
                refine wpOp_step rfl (fun K hK => ?_)
                go_simp
                refine (c_Ints _ _ _ _ _ _ _ _ _ hr3 hr7).mono ?_
                rintro e w2 ⟨rfl, m, rfl⟩
                rw [beq_self_eq_true]
                exact hK _ _ ⟨_, rfl, rfl, Fr.drewN m⟩
              · intro a w' hf he
                have f8 : a.tmps.getD 65 undef = .bool true := he 8 (by kernel_rfl)
                refine wpOp_step rfl (fun K hK => ?_)
                go_simp
                exact hK _ _ ⟨_, rfl, rfl, Fr.refl _ _⟩
            · intro a w' hf he
              obtain ⟨u57, f0⟩ : ∃ u, a.tmps.getD 57 undef = u := ⟨_, rfl⟩
              obtain ⟨u58, f1⟩ : ∃ u, a.tmps.getD 58 undef = u := ⟨_, rfl⟩
              obtain ⟨u59, f2⟩ : ∃ u, a.tmps.getD 59 undef = u := ⟨_, rfl⟩
              obtain ⟨A3, c3, hv3, hr3, ho3, hb3⟩ := he 3 (by decide)
              have f3 : a.tmps.getD 60 undef = _ := hv3
              obtain ⟨u61, f4⟩ : ∃ u, a.tmps.getD 61 undef = u := ⟨_, rfl⟩
              obtain ⟨u62, f5⟩ : ∃ u, a.tmps.getD 62 undef = u := ⟨_, rfl⟩
              obtain ⟨u63, f6⟩ : ∃ u, a.tmps.getD 63 undef = u := ⟨_, rfl⟩
              obtain ⟨A7, c7, F7, hv7, hr7, ho7, hb7, hF7⟩ := he 7 (by decide)
              have f7 : a.tmps.getD 64 undef = _ := hv7
              obtain ⟨u65, f8⟩ : ∃ u, a.tmps.getD 65 undef = u := ⟨_, rfl⟩
              have f9 : a.tmps.getD 66 undef = .bool false := he 9 (by decide)
              have hlit := hf.lit ((57, u57) :: (58, u58) :: (59, u59) :: (60, _) :: (61, u61) :: (62, u62) :: (63, u63) :: (64, _) :: (65, u65) :: (66, .bool false) :: []) (by kernel_rfl) ⟨f0, f1, f2, f3, f4, f5, f6, f7, f8, f9, trivial⟩
              have hB : Fr (fun k => (F) k ∨ (F2) k ∨ False) _ w' := hf.of_start
              clear he hf f0 f1 f2 f3 f4 f5 f6 f7 f8 f9 hv3 hv7
              subst hlit
              simp only [putAll_nil, putAll_cons, Act.put, List.setIfInBounds_toArray, List.set_cons_zero, List.set_cons_succ]
              simp only [List.drop_succ_cons, List.drop_zero]
              have hgl := ackG_le win first bs.length num
              generalize ackG win first bs.length num = g at *
              have HX := Lib.hid (HT0.out.ack ho3 ho7 hB hF7 (by omega) (fun b hb => HT.out.short b (List.mem_of_mem_drop hb)))
              have g1 := (fr_cell hB (a := ⟨ra, 1, none⟩) hra (fun h => h.elim hra1 (fun h => h.elim hra2 id))).trans g1
              have hraX : ra < w'.heap.size := Nat.lt_of_lt_of_le hra hB.size
              have HLX := Lib.hid (show first + (g : Int) + ((bs.drop g).length : Int) ≤ 2 + k from by have := HL.out; simp; omega)
              clear hr3 ho3 hb3 hr7 ho7 hb7 hF7 hB hs1 hs2
              generalize first + (g : Int) = first' at *
              generalize bs.drop g = bs' at *
              obtain ⟨F', hF'⟩ : ∃ F', F' = F := ⟨_, rfl⟩
              obtain ⟨F2', hF2'⟩ : ∃ F2', F2' = F7 := ⟨_, rfl⟩
              subst hF' hF2'
              have hx1 := HX.out.f1
              have hx2 : bs'.length ≤ 82 := by have := HLX.out; omega
              have hx3 : first' ≤ 82 := by have := HLX.out; omega
              have hxs : ∀ b ∈ bs', b.length ≤ 140737488351232 := fun b hb => by have := HX.out.short b hb; omega
              have hwp : 0 < win := by omega
              go_wp2_with (first
                | (go_at_call 54
                   (with_reducible refine (c_Body_any HX.out.o hwp (by omega) hx1 (by omega) hxs num).mono ?_)
                   rintro e w5 ⟨A5, n5, c5, rfl, hb5, hB5⟩
                   have HX5 := Lib.hid (HX.out.bel_ hB5)
                   have g1 := (hB5.cell (p := ⟨ra, 1, none⟩) hraX).trans g1)
                | (go_at_call 55
                   (with_reducible refine (c_rBody_any HX5.out.r (by omega) hx1 (by omega) hxs num).mono ?_)
                   rintro e w6 ⟨A6, n6, c6, rfl, hb6, hB6⟩
                   have HX6 := Lib.hid (HX5.out.bel_ hB6)
                   have hb56 := hb5.bel hB6
                   clear g1 hb5))
              generalize (lookB first' bs' num).isSome = sb at *
              generalize (lookB first' bs' num).getD [] = lb at *
              obtain ⟨Aq, cq, hcq⟩ := HX6.out.r.c0
              have hqlt : q < w6.heap.size := (HX6.out.r.lt _ HX6.out.r.self).2
              obtain ⟨N, HN⟩ : ∃ N : Nat, Hid ((N : Int) = min (bs'.length : Int) win) := ⟨(min (bs'.length : Int) win).toNat, Lib.hid (by omega)⟩
              refine wp_region_phi (by kernel_rfl) 35 none (fun _ => false) (fun i_ v wz => match i_ with
                | 0 => v = .slice A5 n5 c5
                | 1 => v = .string ⟨lb.toArray⟩
                | 2 => v = .slice A6 n6 c6
                | 3 => v = .string ⟨lb.toArray⟩
                | 4 => v = .bool false
                | 5 => v = .bool false
                | 6 => v = .bool sb
                | 7 => v = .bool sb
                | 8 => v = .bool false
                | 9 => v = .bool false
                | 10 => v = .bool false
                | 11 => v = .pointer (some ⟨p, 0, none⟩)
                | 12 => v = .int .i64 (bs'.length : Nat)
                | 13 => v = .pointer (some ⟨q, 0, none⟩)
                | 14 => v = .pointer (some ⟨q, 0, none⟩)
                | 15 => v = .pointer (some ⟨q, 0, none⟩)
                | 16 => v = .slice Aq bs'.length cq
                | 17 => v = .int .i64 (bs'.length : Nat)
                | 18 => v = .bool false
                | 19 => v = .bool false
                | 20 => v = .bool false
                | 21 => v = .pointer (some ⟨p, 0, none⟩)
                | 22 => v = .bool (decide (win ≤ (bs'.length : Int)))
                | 23 => v = .pointer (some ⟨q, 0, none⟩)
                | 24 => v = .bool (decide (win ≤ (bs'.length : Int)))
                | 25 => v = .bool false
                | 26 => v = .bool false
                | 27 => v = .bool false
                | 28 => v = .pointer (some ⟨p, 0, none⟩)
                | 29 => ∃ A3 c3, v = .slice A3 N c3 ∧ Rd wz 1 A3 N c3 (intsV (from_ first' N))
                | 30 => v = .pointer (some ⟨q, 0, none⟩)
                | 31 => ∃ A3 c3, v = .slice A3 N c3 ∧ Rd wz 1 A3 N c3 (intsV (from_ first' N))
                | 32 => v = .bool true
                | 33 => v = .bool false
                | 34 => v = .bool false
                | _ => True) (by kernel_rfl) ?_ ?_ ?_
              · (repeat' (first | exact allLt_zero | refine allLt_succ ?_ ?_))
                · exact fun _ _ _ h _ => h
                · exact fun _ _ _ h _ => h
                · exact fun _ _ _ h _ => h
                · exact fun _ _ _ h _ => h
                · exact fun _ _ _ h _ => h
                · exact fun _ _ _ h _ => h
                · exact fun _ _ _ h _ => h
                · exact fun _ _ _ h _ => h
                · exact fun _ _ _ h _ => h
                · exact fun _ _ _ h _ => h
                · exact fun _ _ _ h _ => h
                · exact fun _ _ _ h _ => h
                · exact fun _ _ _ h _ => h
                · exact fun _ _ _ h _ => h
                · exact fun _ _ _ h _ => h
                · exact fun _ _ _ h _ => h
                · exact fun _ _ _ h _ => h
                · exact fun _ _ _ h _ => h
                · exact fun _ _ _ h _ => h
                · exact fun _ _ _ h _ => h
                · exact fun _ _ _ h _ => h
                · exact fun _ _ _ h _ => h
                · exact fun _ _ _ h _ => h
                · exact fun _ _ _ h _ => h
                · exact fun _ _ _ h _ => h
                · exact fun _ _ _ h _ => h
                · exact fun _ _ _ h _ => h
                · exact fun _ _ _ h _ => h
                · exact fun _ _ _ h _ => h
                · intro v w1 w2 h hg
                  rw [show kindRow _ _ = none from by kernel_rfl] at hg
                  obtain ⟨A3, c3, rfl, hr⟩ := h
                  exact ⟨A3, c3, rfl, hr.bel (bel_grown hg)⟩
                · exact fun _ _ _ h _ => h
                · intro v w1 w2 h hg
                  rw [show kindRow _ _ = none from by kernel_rfl] at hg
                  obtain ⟨A3, c3, rfl, hr⟩ := h
                  exact ⟨A3, c3, rfl, hr.bel (bel_grown hg)⟩
                · exact fun _ _ _ h _ => h
                · exact fun _ _ _ h _ => h
                · exact fun _ _ _ h _ => h
              · (repeat' (first | exact allLt_zero | refine allLt_succ ?_ ?_))
                · intro a w' hf he
                  have k15 : a.tmps.getD 15 undef = .slice A5 n5 c5 := hf.var (by kernel_rfl) rfl
                  refine wpOp_step rfl (fun K hK => ?_)
                  go_simp
                  exact hK _ _ ⟨_, rfl, rfl, World.grownBy.refl _ _⟩
                · intro a w' hf he
                  have f0 : a.tmps.getD 103 undef = .slice A5 n5 c5 := he 0 (by kernel_rfl)
                  rw [show kindRow _ _ = none from by kernel_rfl] at hf
                  have hcv := run_str (P := Try.prog) w' 22 9 5 A5 n5 c5 lb Try.underlying22 Try.underlying5 Try.underlying9 (hb56.bel hf.bel)
                  refine wpOp_step rfl (fun K hK => ?_)
                  go_simp
                  exact hK _ _ ⟨_, rfl, rfl, World.grownBy.refl _ _⟩
                · intro a w' hf he
                  have k17 : a.tmps.getD 17 undef = .slice A6 n6 c6 := hf.var (by kernel_rfl) rfl
                  refine wpOp_step rfl (fun K hK => ?_)
                  go_simp
                  exact hK _ _ ⟨_, rfl, rfl, World.grownBy.refl _ _⟩
                · intro a w' hf he
                  have f2 : a.tmps.getD 105 undef = .slice A6 n6 c6 := he 2 (by kernel_rfl)
                  rw [show kindRow _ _ = none from by kernel_rfl] at hf
                  have hcv := run_str (P := Try.prog) w' 22 9 5 A6 n6 c6 lb Try.underlying22 Try.underlying5 Try.underlying9 (hb6.bel hf.bel)
                  refine wpOp_step rfl (fun K hK => ?_)
                  go_simp
                  exact hK _ _ ⟨_, rfl, rfl, World.grownBy.refl _ _⟩
                · intro a w' hf he
                  have f1 : a.tmps.getD 104 undef = .string ⟨lb.toArray⟩ := he 1 (by kernel_rfl)
                  have f3 : a.tmps.getD 106 undef = .string ⟨lb.toArray⟩ := he 3 (by kernel_rfl)
                  refine wpOp_step rfl (fun K hK => ?_)
                  go_simp
                  exact hK _ _ ⟨_, rfl, rfl, World.grownBy.refl _ _⟩
                · intro a w' hf he
                  have f4 : a.tmps.getD 107 undef = .bool false := he 4 (by kernel_rfl)
                  refine wpOp_step rfl (fun K hK => ?_)
                  go_simp
                  exact hK _ _ ⟨_, rfl, rfl, World.grownBy.refl _ _⟩
                · intro a w' hf he
                  have k16 : a.tmps.getD 16 undef = .bool sb := hf.var (by kernel_rfl) rfl
                  have f5 : a.tmps.getD 108 undef = .bool false := he 5 (by kernel_rfl)
                  refine wpOp_run rfl rfl rfl f5 (fun K hK => ?_)
                  go_simp
                  exact hK _ _ ⟨_, rfl, rfl, World.grownBy.refl _ _⟩
                · intro a w' hf he
                  have k18 : a.tmps.getD 18 undef = .bool sb := hf.var (by kernel_rfl) rfl
                  have f5 : a.tmps.getD 108 undef = .bool false := he 5 (by kernel_rfl)
                  refine wpOp_run rfl rfl rfl f5 (fun K hK => ?_)
                  go_simp
                  exact hK _ _ ⟨_, rfl, rfl, World.grownBy.refl _ _⟩
                · intro a w' hf he
                  have f6 : a.tmps.getD 109 undef = .bool sb := he 6 (by kernel_rfl)
                  have f7 : a.tmps.getD 110 undef = .bool sb := he 7 (by kernel_rfl)
                  have f5 : a.tmps.getD 108 undef = .bool false := he 5 (by kernel_rfl)
                  refine wpOp_run rfl rfl rfl f5 (fun K hK => ?_)
                  go_simp
                  exact hK _ _ ⟨_, rfl, rfl, World.grownBy.refl _ _⟩
                · intro a w' hf he
                  have f5 : a.tmps.getD 108 undef = .bool false := he 5 (by kernel_rfl)
                  have f8 : a.tmps.getD 111 undef = .bool false := he 8 (by kernel_rfl)
                  refine wpOp_step rfl (fun K hK => ?_)
                  go_simp
                  exact hK _ _ ⟨_, rfl, rfl, World.grownBy.refl _ _⟩
                · intro a w' hf he
                  have f9 : a.tmps.getD 112 undef = .bool false := he 9 (by kernel_rfl)
                  refine wpOp_step rfl (fun K hK => ?_)
                  go_simp
                  exact hK _ _ ⟨_, rfl, rfl, World.grownBy.refl _ _⟩
                · intro a w' hf he
                  have k5 : a.tmps.getD 5 undef = .pointer (some ⟨p, 0, none⟩) := hf.var (by kernel_rfl) rfl
                  have f10 : a.tmps.getD 113 undef = .bool false := he 10 (by kernel_rfl)
                  refine wpOp_run rfl rfl rfl f10 (fun K hK => ?_)
                  go_simp
                  exact hK _ _ ⟨_, rfl, rfl, World.grownBy.refl _ _⟩
                · intro a w' hf he
                  have f11 : a.tmps.getD 114 undef = .pointer (some ⟨p, 0, none⟩) := he 11 (by kernel_rfl)
                  have f10 : a.tmps.getD 113 undef = .bool false := he 10 (by kernel_rfl)
                  rw [show kindRow _ _ = none from by kernel_rfl] at hf
                  refine wpOp_run rfl rfl rfl f10 (fun K hK => ?_)
                  go_simp
                  refine (c_Len (HX6.out.bel_ hf.bel).o hwp (by omega)).mono ?_
                  rintro e w2 ⟨rfl, rfl⟩
                  exact hK _ _ ⟨_, rfl, rfl, World.grownBy.refl _ _⟩
                · intro a w' hf he
                  have k7 : a.tmps.getD 7 undef = .pointer (some ⟨q, 0, none⟩) := hf.var (by kernel_rfl) rfl
                  have f10 : a.tmps.getD 113 undef = .bool false := he 10 (by kernel_rfl)
                  refine wpOp_run rfl rfl rfl f10 (fun K hK => ?_)
                  go_simp
                  exact hK _ _ ⟨_, rfl, rfl, World.grownBy.refl _ _⟩
                · intro a w' hf he
                  have f13 : a.tmps.getD 116 undef = .pointer (some ⟨q, 0, none⟩) := he 13 (by kernel_rfl)
                  have f10 : a.tmps.getD 113 undef = .bool false := he 10 (by kernel_rfl)
                  refine wpOp_run rfl rfl rfl f10 (fun K hK => ?_)
                  go_simp
                  exact hK _ _ ⟨_, rfl, rfl, World.grownBy.refl _ _⟩
                · intro a w' hf he
                  have f14 : a.tmps.getD 117 undef = .pointer (some ⟨q, 0, none⟩) := he 14 (by kernel_rfl)
                  have f10 : a.tmps.getD 113 undef = .bool false := he 10 (by kernel_rfl)
                  refine wpOp_run rfl rfl rfl f10 (fun K hK => ?_)
                  go_simp
                  exact hK _ _ ⟨_, rfl, rfl, World.grownBy.refl _ _⟩
                · intro a w' hf he
                  have f15 : a.tmps.getD 118 undef = .pointer (some ⟨q, 0, none⟩) := he 15 (by kernel_rfl)
                  have f10 : a.tmps.getD 113 undef = .bool false := he 10 (by kernel_rfl)
                  rw [show kindRow _ _ = none from by kernel_rfl] at hf
                  have q1 := hf.bel.cell (p := ⟨q, 0, none⟩) hqlt
                  rw [hcq] at q1
                  refine wpOp_run rfl rfl rfl f10 (fun K hK => ?_)
                  go_simp
                  exact hK _ _ ⟨_, rfl, rfl, World.grownBy.refl _ _⟩
                · intro a w' hf he
                  have f16 : a.tmps.getD 119 undef = .slice Aq bs'.length cq := he 16 (by kernel_rfl)
                  have f10 : a.tmps.getD 113 undef = .bool false := he 10 (by kernel_rfl)
                  refine wpOp_run rfl rfl rfl f10 (fun K hK => ?_)
                  go_simp
                  exact hK _ _ ⟨_, rfl, rfl, World.grownBy.refl _ _⟩
                · intro a w' hf he
                  have f12 : a.tmps.getD 115 undef = .int .i64 (bs'.length : Nat) := he 12 (by kernel_rfl)
                  have f17 : a.tmps.getD 120 undef = .int .i64 (bs'.length : Nat) := he 17 (by kernel_rfl)
                  have f10 : a.tmps.getD 113 undef = .bool false := he 10 (by kernel_rfl)
                  refine wpOp_run rfl rfl rfl f10 (fun K hK => ?_)
                  go_simp
                  exact hK _ _ ⟨_, rfl, rfl, World.grownBy.refl _ _⟩
                · intro a w' hf he
                  have f10 : a.tmps.getD 113 undef = .bool false := he 10 (by kernel_rfl)
                  have f18 : a.tmps.getD 121 undef = .bool false := he 18 (by kernel_rfl)
                  refine wpOp_step rfl (fun K hK => ?_)
                  go_simp
                  exact hK _ _ ⟨_, rfl, rfl, World.grownBy.refl _ _⟩
                · intro a w' hf he
                  have f19 : a.tmps.getD 122 undef = .bool false := he 19 (by kernel_rfl)
                  refine wpOp_step rfl (fun K hK => ?_)
                  go_simp
                  exact hK _ _ ⟨_, rfl, rfl, World.grownBy.refl _ _⟩
                · intro a w' hf he
                  have k5 : a.tmps.getD 5 undef = .pointer (some ⟨p, 0, none⟩) := hf.var (by kernel_rfl) rfl
                  have f20 : a.tmps.getD 123 undef = .bool false := he 20 (by kernel_rfl)
                  refine wpOp_run rfl rfl rfl f20 (fun K hK => ?_)
                  go_simp
                  exact hK _ _ ⟨_, rfl, rfl, World.grownBy.refl _ _⟩
                · intro a w' hf he
                  have f21 : a.tmps.getD 124 undef = .pointer (some ⟨p, 0, none⟩) := he 21 (by kernel_rfl)
                  have f20 : a.tmps.getD 123 undef = .bool false := he 20 (by kernel_rfl)
                  rw [show kindRow _ _ = none from by kernel_rfl] at hf
                  refine wpOp_run rfl rfl rfl f20 (fun K hK => ?_)
                  go_simp
                  refine (c_Full (HX6.out.bel_ hf.bel).o hwp (by omega)).mono ?_
                  rintro e w2 ⟨rfl, m, rfl⟩
                  exact hK _ _ ⟨_, rfl, rfl, ⟨rfl, rfl, rfl, Nat.le_refl _, fun _ _ _ => rfl⟩⟩
                · intro a w' hf he
                  have k7 : a.tmps.getD 7 undef = .pointer (some ⟨q, 0, none⟩) := hf.var (by kernel_rfl) rfl
                  have f20 : a.tmps.getD 123 undef = .bool false := he 20 (by kernel_rfl)
                  refine wpOp_run rfl rfl rfl f20 (fun K hK => ?_)
                  go_simp
                  exact hK _ _ ⟨_, rfl, rfl, World.grownBy.refl _ _⟩
                · intro a w' hf he
                  have f23 : a.tmps.getD 126 undef = .pointer (some ⟨q, 0, none⟩) := he 23 (by kernel_rfl)
                  have f20 : a.tmps.getD 123 undef = .bool false := he 20 (by kernel_rfl)
                  rw [show kindRow _ _ = none from by kernel_rfl] at hf
                  refine wpOp_run rfl rfl rfl f20 (fun K hK => ?_)
                  go_simp
                  refine (c_rFull (HX6.out.bel_ hf.bel).r (by omega)).mono ?_
                  rintro e w2 ⟨rfl, m, rfl⟩
                  exact hK _ _ ⟨_, rfl, rfl, ⟨rfl, rfl, rfl, Nat.le_refl _, fun _ _ _ => rfl⟩⟩
                · intro a w' hf he
                  have f22 : a.tmps.getD 125 undef = .bool (decide (win ≤ (bs'.length : Int))) := he 22 (by kernel_rfl)
                  have f24 : a.tmps.getD 127 undef = .bool (decide (win ≤ (bs'.length : Int))) := he 24 (by kernel_rfl)
                  have f20 : a.tmps.getD 123 undef = .bool false := he 20 (by kernel_rfl)
                  refine wpOp_run rfl rfl rfl f20 (fun K hK => ?_)
                  go_simp
                  exact hK _ _ ⟨_, rfl, rfl, World.grownBy.refl _ _⟩
                · intro a w' hf he
                  have f20 : a.tmps.getD 123 undef = .bool false := he 20 (by kernel_rfl)
                  have f25 : a.tmps.getD 128 undef = .bool false := he 25 (by kernel_rfl)
                  refine wpOp_step rfl (fun K hK => ?_)
                  go_simp
                  exact hK _ _ ⟨_, rfl, rfl, World.grownBy.refl _ _⟩
                · intro a w' hf he
                  have f26 : a.tmps.getD 129 undef = .bool false := he 26 (by kernel_rfl)
                  refine wpOp_step rfl (fun K hK => ?_)
                  go_simp
                  exact hK _ _ ⟨_, rfl, rfl, World.grownBy.refl _ _⟩
                · intro a w' hf he
                  have k5 : a.tmps.getD 5 undef = .pointer (some ⟨p, 0, none⟩) := hf.var (by kernel_rfl) rfl
                  have f27 : a.tmps.getD 130 undef = .bool false := he 27 (by kernel_rfl)
                  refine wpOp_run rfl rfl rfl f27 (fun K hK => ?_)
                  go_simp
                  exact hK _ _ ⟨_, rfl, rfl, World.grownBy.refl _ _⟩
                · intro a w' hf he
                  have f28 : a.tmps.getD 131 undef = .pointer (some ⟨p, 0, none⟩) := he 28 (by kernel_rfl)
                  have f27 : a.tmps.getD 130 undef = .bool false := he 27 (by kernel_rfl)
                  rw [show kindRow _ _ = none from by kernel_rfl] at hf
                  refine wpOp_run rfl rfl rfl f27 (fun K hK => ?_)
                  go_simp
                  refine (c_Window (HX6.out.bel_ hf.bel).o (by omega) hwp hw2 (by omega) (by omega) N HN.out).mono ?_
                  rintro e w2 ⟨A3, c3, rfl, hown, hB2⟩
                  exact hK _ _ ⟨_, rfl, ⟨A3, c3, rfl, hown.rd⟩, grown_bel hB2⟩
                · intro a w' hf he
                  have k7 : a.tmps.getD 7 undef = .pointer (some ⟨q, 0, none⟩) := hf.var (by kernel_rfl) rfl
                  have f27 : a.tmps.getD 130 undef = .bool false := he 27 (by kernel_rfl)
                  refine wpOp_run rfl rfl rfl f27 (fun K hK => ?_)
                  go_simp
                  exact hK _ _ ⟨_, rfl, rfl, World.grownBy.refl _ _⟩
                · intro a w' hf he
                  have f30 : a.tmps.getD 133 undef = .pointer (some ⟨q, 0, none⟩) := he 30 (by kernel_rfl)
                  have f27 : a.tmps.getD 130 undef = .bool false := he 27 (by kernel_rfl)
                  rw [show kindRow _ _ = none from by kernel_rfl] at hf
                  refine wpOp_run rfl rfl rfl f27 (fun K hK => ?_)
                  go_simp
                  refine (c_rNumbers (HX6.out.bel_ hf.bel).r (by omega) hwp hw2 (by omega) (by omega) N HN.out).mono ?_
                  rintro e w2 ⟨A3, c3, rfl, hown, hB2⟩
                  exact hK _ _ ⟨_, rfl, ⟨A3, c3, rfl, hown.rd⟩, grown_bel hB2⟩
                · intro a w' hf he
                  obtain ⟨A29, c29, hv29, hr29⟩ := he 29 (by kernel_rfl)
                  have f29 : a.tmps.getD 132 undef = _ := hv29
                  obtain ⟨A31, c31, hv31, hr31⟩ := he 31 (by kernel_rfl)
                  have f31 : a.tmps.getD 134 undef = _ := hv31
                  have f27 : a.tmps.getD 130 undef = .bool false := he 27 (by kernel_rfl)
                  rw [show kindRow _ _ = none from by kernel_rfl] at hf
                  refine wpOp_run rfl rfl rfl f27 (fun K hK => ?_)
                  go_simp
                  refine (c_Ints _ _ _ _ _ _ _ _ _ hr29 hr31).mono ?_
                  rintro e w2 ⟨rfl, m, rfl⟩
                  rw [beq_self_eq_true]
                  exact hK _ _ ⟨_, rfl, rfl, ⟨rfl, rfl, rfl, Nat.le_refl _, fun _ _ _ => rfl⟩⟩
                · intro a w' hf he
                  have f32 : a.tmps.getD 135 undef = .bool true := he 32 (by kernel_rfl)
                  have f27 : a.tmps.getD 130 undef = .bool false := he 27 (by kernel_rfl)
                  refine wpOp_run rfl rfl rfl f27 (fun K hK => ?_)
                  go_simp
                  exact hK _ _ ⟨_, rfl, rfl, World.grownBy.refl _ _⟩
                · intro a w' hf he
                  have f27 : a.tmps.getD 130 undef = .bool false := he 27 (by kernel_rfl)
                  have f33 : a.tmps.getD 136 undef = .bool false := he 33 (by kernel_rfl)
                  refine wpOp_step rfl (fun K hK => ?_)
                  go_simp
                  exact hK _ _ ⟨_, rfl, rfl, World.grownBy.refl _ _⟩
              · intro a w' hf he
                obtain ⟨u103, f0⟩ : ∃ u, a.tmps.getD 103 undef = u := ⟨_, rfl⟩
                obtain ⟨u104, f1⟩ : ∃ u, a.tmps.getD 104 undef = u := ⟨_, rfl⟩
                obtain ⟨u105, f2⟩ : ∃ u, a.tmps.getD 105 undef = u := ⟨_, rfl⟩
                obtain ⟨u106, f3⟩ : ∃ u, a.tmps.getD 106 undef = u := ⟨_, rfl⟩
                obtain ⟨u107, f4⟩ : ∃ u, a.tmps.getD 107 undef = u := ⟨_, rfl⟩
                obtain ⟨u108, f5⟩ : ∃ u, a.tmps.getD 108 undef = u := ⟨_, rfl⟩
                obtain ⟨u109, f6⟩ : ∃ u, a.tmps.getD 109 undef = u := ⟨_, rfl⟩
                obtain ⟨u110, f7⟩ : ∃ u, a.tmps.getD 110 undef = u := ⟨_, rfl⟩
                obtain ⟨u111, f8⟩ : ∃ u, a.tmps.getD 111 undef = u := ⟨_, rfl⟩
                obtain ⟨u112, f9⟩ : ∃ u, a.tmps.getD 112 undef = u := ⟨_, rfl⟩
                obtain ⟨u113, f10⟩ : ∃ u, a.tmps.getD 113 undef = u := ⟨_, rfl⟩
                obtain ⟨u114, f11⟩ : ∃ u, a.tmps.getD 114 undef = u := ⟨_, rfl⟩
                obtain ⟨u115, f12⟩ : ∃ u, a.tmps.getD 115 undef = u := ⟨_, rfl⟩
                obtain ⟨u116, f13⟩ : ∃ u, a.tmps.getD 116 undef = u := ⟨_, rfl⟩
                obtain ⟨u117, f14⟩ : ∃ u, a.tmps.getD 117 undef = u := ⟨_, rfl⟩
                obtain ⟨u118, f15⟩ : ∃ u, a.tmps.getD 118 undef = u := ⟨_, rfl⟩
                obtain ⟨u119, f16⟩ : ∃ u, a.tmps.getD 119 undef = u := ⟨_, rfl⟩
                obtain ⟨u120, f17⟩ : ∃ u, a.tmps.getD 120 undef = u := ⟨_, rfl⟩
                obtain ⟨u121, f18⟩ : ∃ u, a.tmps.getD 121 undef = u := ⟨_, rfl⟩
                obtain ⟨u122, f19⟩ : ∃ u, a.tmps.getD 122 undef = u := ⟨_, rfl⟩
                obtain ⟨u123, f20⟩ : ∃ u, a.tmps.getD 123 undef = u := ⟨_, rfl⟩
                obtain ⟨u124, f21⟩ : ∃ u, a.tmps.getD 124 undef = u := ⟨_, rfl⟩
                obtain ⟨u125, f22⟩ : ∃ u, a.tmps.getD 125 undef = u := ⟨_, rfl⟩
                obtain ⟨u126, f23⟩ : ∃ u, a.tmps.getD 126 undef = u := ⟨_, rfl⟩
                obtain ⟨u127, f24⟩ : ∃ u, a.tmps.getD 127 undef = u := ⟨_, rfl⟩
                obtain ⟨u128, f25⟩ : ∃ u, a.tmps.getD 128 undef = u := ⟨_, rfl⟩
                obtain ⟨u129, f26⟩ : ∃ u, a.tmps.getD 129 undef = u := ⟨_, rfl⟩
                obtain ⟨u130, f27⟩ : ∃ u, a.tmps.getD 130 undef = u := ⟨_, rfl⟩
                obtain ⟨u131, f28⟩ : ∃ u, a.tmps.getD 131 undef = u := ⟨_, rfl⟩
                obtain ⟨u132, f29⟩ : ∃ u, a.tmps.getD 132 undef = u := ⟨_, rfl⟩
                obtain ⟨u133, f30⟩ : ∃ u, a.tmps.getD 133 undef = u := ⟨_, rfl⟩
                obtain ⟨u134, f31⟩ : ∃ u, a.tmps.getD 134 undef = u := ⟨_, rfl⟩
                obtain ⟨u135, f32⟩ : ∃ u, a.tmps.getD 135 undef = u := ⟨_, rfl⟩
                obtain ⟨u136, f33⟩ : ∃ u, a.tmps.getD 136 undef = u := ⟨_, rfl⟩
                have f34 : a.tmps.getD 137 undef = .bool false := he 34 (by decide)
                have hlit := hf.lit ((103, u103) :: (104, u104) :: (105, u105) :: (106, u106) :: (107, u107) :: (108, u108) :: (109, u109) :: (110, u110) :: (111, u111) :: (112, u112) :: (113, u113) :: (114, u114) :: (115, u115) :: (116, u116) :: (117, u117) :: (118, u118) :: (119, u119) :: (120, u120) :: (121, u121) :: (122, u122) :: (123, u123) :: (124, u124) :: (125, u125) :: (126, u126) :: (127, u127) :: (128, u128) :: (129, u129) :: (130, u130) :: (131, u131) :: (132, u132) :: (133, u133) :: (134, u134) :: (135, u135) :: (136, u136) :: (137, .bool false) :: []) (by kernel_rfl) ⟨f0, f1, f2, f3, f4, f5, f6, f7, f8, f9, f10, f11, f12, f13, f14, f15, f16, f17, f18, f19, f20, f21, f22, f23, f24, f25, f26, f27, f28, f29, f30, f31, f32, f33, f34, trivial⟩
                have hB := hf.bel
                clear he hf f0 f1 f2 f3 f4 f5 f6 f7 f8 f9 f10 f11 f12 f13 f14 f15 f16 f17 f18 f19 f20 f21 f22 f23 f24 f25 f26 f27 f28 f29 f30 f31 f32 f33 f34 
                subst hlit
                simp only [putAll_nil, putAll_cons, Act.put, List.setIfInBounds_toArray, List.set_cons_zero, List.set_cons_succ]
                simp only [List.drop_succ_cons, List.drop_zero]
                have HX7 := Lib.hid (HX6.out.bel_ hB)
                clear hB hcq
                go_wp2_with fail
                go_roundw
                case rel => exact ⟨k + 1, first', bs', F', F2', by omega, by go_num, HX7, Lib.hid (by have := HLX.out; omega)⟩
                case measure => simp [intOf] <;> omega
          | false =>
            go_wp2_with fail
            have g1 : (wr.alloc (.cells #[.bool false, .int .i64 num, .slice A' n' c'] 77)).cell? ⟨wr.heap.size, 1, none⟩ = some (.int .i64 num) := by go_simp
            have g2 : (wr.alloc (.cells #[.bool false, .int .i64 num, .slice A' n' c'] 77)).cell? ⟨wr.heap.size, 2, none⟩ = some (.slice A' n' c') := by go_simp
            have HT0 := Lib.hid (HT.out.bel_ ((Below.refl _ _).alloc (Nat.le_refl _) (.cells #[.bool false, .int .i64 num, .slice A' n' c'] 77)))
            have Hb0 := Lib.hid (Hbody.out.alloc (.cells #[.bool false, .int .i64 num, .slice A' n' c'] 77))
            have hra : wr.heap.size < (wr.alloc (.cells #[.bool false, .int .i64 num, .slice A' n' c'] 77)).heap.size := by simp
            have hra1 : ¬ F wr.heap.size := fun h => by have := (HT.out.o.lt _ h).2; omega
            have hra2 : ¬ F2 wr.heap.size := fun h => by have := (HT.out.r.lt _ h).2; omega
            generalize wr.alloc (.cells #[.bool false, .int .i64 num, .slice A' n' c'] 77) = W0 at *
            generalize wr.heap.size = ra at *
            clear e0 e1 e2
            have hq0 : q ≤ W0.heap.size := Nat.le_of_lt (HT0.out.r.lt _ HT0.out.r.self).2
            have hp0 : w.heap.size ≤ W0.heap.size := HT0.out.bel.size
            have Hok := Lib.hid (show decide ((bs.length : Int) + 1 ≤ win) = !decide (win ≤ (bs.length : Int)) from by by_cases h : win ≤ (bs.length : Int) <;> simp [h] <;> omega)
            go_wp2_with (first
              | (go_at_call 48
                 (with_reducible refine (c_Push HT0.out.o (by omega) (by omega) (by omega) (by omega) _ _ _ body Hb0.out (by omega) hp0).mono ?_)
                 rintro e w3 ⟨rfl, F3, ho3, hfr3, hF3⟩
                 have g1 := (fr_cell hfr3 (a := ⟨ra, 1, none⟩) hra hra1).trans g1
                 have g2 := (fr_cell hfr3 (a := ⟨ra, 2, none⟩) hra hra1).trans g2
                 have Ho3 := Lib.hid ho3
                 have Hr3 := Lib.hid (HT0.out.r.fr hfr3 (fun k h2 h1 => HT0.out.dis k h1 h2))
                 have Hb3 := Lib.hid (Hbw.out.bel (HT0.out.bel.trans (hfr3.bel (fun k hk => (HT0.out.o.lt k hk).1) hp0)))
                 have hsz3 := hfr3.size
                 clear ho3)
              | (go_at_call 53
                 (with_reducible refine (c_rPush Hr3.out (by omega) (by omega) (by omega) _ _ _ body Hb3.out (by omega) (by omega)).mono ?_)
                 rintro e w4 ⟨rfl, F4, hr4, hfr4, hF4⟩
                 rw [Hok.out]
                 have HX := Lib.hid (HT0.out.push Ho3.out hfr3 hF3 hr4 hfr4 hF4 (by omega))
                 have g1 := (fr_cell hfr4 (a := ⟨ra, 1, none⟩) (Nat.lt_of_lt_of_le hra hsz3) hra2).trans g1
                 have hraX : ra < w4.heap.size := Nat.lt_of_lt_of_le hra (Nat.le_trans hsz3 hfr4.size)
                 clear hr4 hfr4 hF4 hfr3 hF3 Ho3))
            have HLX := Lib.hid (show first + ((bs ++ [body]).length : Int) ≤ 2 + k from by have := HL.out; simp; omega)
            clear g2 hs1 hs2
            generalize bs ++ [body] = bs' at *
            have hx1 := HX.out.f1
            have hx2 : bs'.length ≤ 82 := by have := HLX.out; omega
            have hx3 : first ≤ 82 := by have := HLX.out; omega
            have hxs : ∀ b ∈ bs', b.length ≤ 140737488351232 := fun b hb => by have := HX.out.short b hb; omega
            have hwp : 0 < win := by omega
            go_wp2_with (first
              | (go_at_call 54
                 (with_reducible refine (c_Body_any HX.out.o hwp (by omega) hx1 (by omega) hxs num).mono ?_)
                 rintro e w5 ⟨A5, n5, c5, rfl, hb5, hB5⟩
                 have HX5 := Lib.hid (HX.out.bel_ hB5)
                 have g1 := (hB5.cell (p := ⟨ra, 1, none⟩) hraX).trans g1)
              | (go_at_call 55
                 (with_reducible refine (c_rBody_any HX5.out.r (by omega) hx1 (by omega) hxs num).mono ?_)
                 rintro e w6 ⟨A6, n6, c6, rfl, hb6, hB6⟩
                 have HX6 := Lib.hid (HX5.out.bel_ hB6)
                 have hb56 := hb5.bel hB6
                 clear g1 hb5))
            generalize (lookB first bs' num).isSome = sb at *
            generalize (lookB first bs' num).getD [] = lb at *
            obtain ⟨Aq, cq, hcq⟩ := HX6.out.r.c0
            have hqlt : q < w6.heap.size := (HX6.out.r.lt _ HX6.out.r.self).2
            obtain ⟨N, HN⟩ : ∃ N : Nat, Hid ((N : Int) = min (bs'.length : Int) win) := ⟨(min (bs'.length : Int) win).toNat, Lib.hid (by omega)⟩
            refine wp_region_phi (by kernel_rfl) 35 none (fun _ => false) (fun i_ v wz => match i_ with
              | 0 => v = .slice A5 n5 c5
              | 1 => v = .string ⟨lb.toArray⟩
              | 2 => v = .slice A6 n6 c6
              | 3 => v = .string ⟨lb.toArray⟩
              | 4 => v = .bool false
              | 5 => v = .bool false
              | 6 => v = .bool sb
              | 7 => v = .bool sb
              | 8 => v = .bool false
              | 9 => v = .bool false
              | 10 => v = .bool false
              | 11 => v = .pointer (some ⟨p, 0, none⟩)
              | 12 => v = .int .i64 (bs'.length : Nat)
              | 13 => v = .pointer (some ⟨q, 0, none⟩)
              | 14 => v = .pointer (some ⟨q, 0, none⟩)
              | 15 => v = .pointer (some ⟨q, 0, none⟩)
              | 16 => v = .slice Aq bs'.length cq
              | 17 => v = .int .i64 (bs'.length : Nat)
              | 18 => v = .bool false
              | 19 => v = .bool false
              | 20 => v = .bool false
              | 21 => v = .pointer (some ⟨p, 0, none⟩)
              | 22 => v = .bool (decide (win ≤ (bs'.length : Int)))
              | 23 => v = .pointer (some ⟨q, 0, none⟩)
              | 24 => v = .bool (decide (win ≤ (bs'.length : Int)))
              | 25 => v = .bool false
              | 26 => v = .bool false
              | 27 => v = .bool false
              | 28 => v = .pointer (some ⟨p, 0, none⟩)
              | 29 => ∃ A3 c3, v = .slice A3 N c3 ∧ Rd wz 1 A3 N c3 (intsV (from_ first N))
              | 30 => v = .pointer (some ⟨q, 0, none⟩)
              | 31 => ∃ A3 c3, v = .slice A3 N c3 ∧ Rd wz 1 A3 N c3 (intsV (from_ first N))
              | 32 => v = .bool true
              | 33 => v = .bool false
              | 34 => v = .bool false
              | _ => True) (by kernel_rfl) ?_ ?_ ?_
            · (repeat' (first | exact allLt_zero | refine allLt_succ ?_ ?_))
              · exact fun _ _ _ h _ => h
              · exact fun _ _ _ h _ => h
              · exact fun _ _ _ h _ => h
              · exact fun _ _ _ h _ => h
              · exact fun _ _ _ h _ => h
              · exact fun _ _ _ h _ => h
              · exact fun _ _ _ h _ => h
              · exact fun _ _ _ h _ => h
              · exact fun _ _ _ h _ => h
              · exact fun _ _ _ h _ => h
              · exact fun _ _ _ h _ => h
              · exact fun _ _ _ h _ => h
              · exact fun _ _ _ h _ => h
              · exact fun _ _ _ h _ => h
              · exact fun _ _ _ h _ => h
              · exact fun _ _ _ h _ => h
              · exact fun _ _ _ h _ => h
              · exact fun _ _ _ h _ => h
              · exact fun _ _ _ h _ => h
              · exact fun _ _ _ h _ => h
              · exact fun _ _ _ h _ => h
              · exact fun _ _ _ h _ => h
              · exact fun _ _ _ h _ => h
              · exact fun _ _ _ h _ => h
              · exact fun _ _ _ h _ => h
              · exact fun _ _ _ h _ => h
              · exact fun _ _ _ h _ => h
              · exact fun _ _ _ h _ => h
              · exact fun _ _ _ h _ => h
              · intro v w1 w2 h hg
                rw [show kindRow _ _ = none from by kernel_rfl] at hg
                obtain ⟨A3, c3, rfl, hr⟩ := h
                exact ⟨A3, c3, rfl, hr.bel (bel_grown hg)⟩
              · exact fun _ _ _ h _ => h
              · intro v w1 w2 h hg
                rw [show kindRow _ _ = none from by kernel_rfl] at hg
                obtain ⟨A3, c3, rfl, hr⟩ := h
                exact ⟨A3, c3, rfl, hr.bel (bel_grown hg)⟩
              · exact fun _ _ _ h _ => h
              · exact fun _ _ _ h _ => h
              · exact fun _ _ _ h _ => h
            · (repeat' (first | exact allLt_zero | refine allLt_succ ?_ ?_))
              · intro a w' hf he
                have k15 : a.tmps.getD 15 undef = .slice A5 n5 c5 := hf.var (by kernel_rfl) rfl
                refine wpOp_step rfl (fun K hK => ?_)
                go_simp
                exact hK _ _ ⟨_, rfl, rfl, World.grownBy.refl _ _⟩
              · intro a w' hf he
                have f0 : a.tmps.getD 103 undef = .slice A5 n5 c5 := he 0 (by kernel_rfl)
                rw [show kindRow _ _ = none from by kernel_rfl] at hf
                have hcv := run_str (P := Try.prog) w' 22 9 5 A5 n5 c5 lb Try.underlying22 Try.underlying5 Try.underlying9 (hb56.bel hf.bel)
                refine wpOp_step rfl (fun K hK => ?_)
                go_simp
                exact hK _ _ ⟨_, rfl, rfl, World.grownBy.refl _ _⟩
              · intro a w' hf he
                have k17 : a.tmps.getD 17 undef = .slice A6 n6 c6 := hf.var (by kernel_rfl) rfl
                refine wpOp_step rfl (fun K hK => ?_)
                go_simp
                exact hK _ _ ⟨_, rfl, rfl, World.grownBy.refl _ _⟩
              · intro a w' hf he
                have f2 : a.tmps.getD 105 undef = .slice A6 n6 c6 := he 2 (by kernel_rfl)
                rw [show kindRow _ _ = none from by kernel_rfl] at hf
                have hcv := run_str (P := Try.prog) w' 22 9 5 A6 n6 c6 lb Try.underlying22 Try.underlying5 Try.underlying9 (hb6.bel hf.bel)
                refine wpOp_step rfl (fun K hK => ?_)
                go_simp
                exact hK _ _ ⟨_, rfl, rfl, World.grownBy.refl _ _⟩
              · intro a w' hf he
                have f1 : a.tmps.getD 104 undef = .string ⟨lb.toArray⟩ := he 1 (by kernel_rfl)
                have f3 : a.tmps.getD 106 undef = .string ⟨lb.toArray⟩ := he 3 (by kernel_rfl)
                refine wpOp_step rfl (fun K hK => ?_)
                go_simp
                exact hK _ _ ⟨_, rfl, rfl, World.grownBy.refl _ _⟩
              · intro a w' hf he
                have f4 : a.tmps.getD 107 undef = .bool false := he 4 (by kernel_rfl)
                refine wpOp_step rfl (fun K hK => ?_)
                go_simp
                exact hK _ _ ⟨_, rfl, rfl, World.grownBy.refl _ _⟩
              · intro a w' hf he
                have k16 : a.tmps.getD 16 undef = .bool sb := hf.var (by kernel_rfl) rfl
                have f5 : a.tmps.getD 108 undef = .bool false := he 5 (by kernel_rfl)
                refine wpOp_run rfl rfl rfl f5 (fun K hK => ?_)
                go_simp
                exact hK _ _ ⟨_, rfl, rfl, World.grownBy.refl _ _⟩
              · intro a w' hf he
                have k18 : a.tmps.getD 18 undef = .bool sb := hf.var (by kernel_rfl) rfl
                have f5 : a.tmps.getD 108 undef = .bool false := he 5 (by kernel_rfl)
                refine wpOp_run rfl rfl rfl f5 (fun K hK => ?_)
                go_simp
                exact hK _ _ ⟨_, rfl, rfl, World.grownBy.refl _ _⟩
              · intro a w' hf he
                have f6 : a.tmps.getD 109 undef = .bool sb := he 6 (by kernel_rfl)
                have f7 : a.tmps.getD 110 undef = .bool sb := he 7 (by kernel_rfl)
                have f5 : a.tmps.getD 108 undef = .bool false := he 5 (by kernel_rfl)
                refine wpOp_run rfl rfl rfl f5 (fun K hK => ?_)
                go_simp
                exact hK _ _ ⟨_, rfl, rfl, World.grownBy.refl _ _⟩
              · intro a w' hf he
                have f5 : a.tmps.getD 108 undef = .bool false := he 5 (by kernel_rfl)
                have f8 : a.tmps.getD 111 undef = .bool false := he 8 (by kernel_rfl)
                refine wpOp_step rfl (fun K hK => ?_)
                go_simp
                exact hK _ _ ⟨_, rfl, rfl, World.grownBy.refl _ _⟩
              · intro a w' hf he
                have f9 : a.tmps.getD 112 undef = .bool false := he 9 (by kernel_rfl)
                refine wpOp_step rfl (fun K hK => ?_)
                go_simp
                exact hK _ _ ⟨_, rfl, rfl, World.grownBy.refl _ _⟩
              · intro a w' hf he
                have k5 : a.tmps.getD 5 undef = .pointer (some ⟨p, 0, none⟩) := hf.var (by kernel_rfl) rfl
                have f10 : a.tmps.getD 113 undef = .bool false := he 10 (by kernel_rfl)
                refine wpOp_run rfl rfl rfl f10 (fun K hK => ?_)
                go_simp
                exact hK _ _ ⟨_, rfl, rfl, World.grownBy.refl _ _⟩
              · intro a w' hf he
                have f11 : a.tmps.getD 114 undef = .pointer (some ⟨p, 0, none⟩) := he 11 (by kernel_rfl)
                have f10 : a.tmps.getD 113 undef = .bool false := he 10 (by kernel_rfl)
                rw [show kindRow _ _ = none from by kernel_rfl] at hf
                refine wpOp_run rfl rfl rfl f10 (fun K hK => ?_)
                go_simp
                refine (c_Len (HX6.out.bel_ hf.bel).o hwp (by omega)).mono ?_
                rintro e w2 ⟨rfl, rfl⟩
                exact hK _ _ ⟨_, rfl, rfl, World.grownBy.refl _ _⟩
              · intro a w' hf he
                have k7 : a.tmps.getD 7 undef = .pointer (some ⟨q, 0, none⟩) := hf.var (by kernel_rfl) rfl
                have f10 : a.tmps.getD 113 undef = .bool false := he 10 (by kernel_rfl)
                refine wpOp_run rfl rfl rfl f10 (fun K hK => ?_)
                go_simp
                exact hK _ _ ⟨_, rfl, rfl, World.grownBy.refl _ _⟩
              · intro a w' hf he
                have f13 : a.tmps.getD 116 undef = .pointer (some ⟨q, 0, none⟩) := he 13 (by kernel_rfl)
                have f10 : a.tmps.getD 113 undef = .bool false := he 10 (by kernel_rfl)
                refine wpOp_run rfl rfl rfl f10 (fun K hK => ?_)
                go_simp
                exact hK _ _ ⟨_, rfl, rfl, World.grownBy.refl _ _⟩
              · intro a w' hf he
                have f14 : a.tmps.getD 117 undef = .pointer (some ⟨q, 0, none⟩) := he 14 (by kernel_rfl)
                have f10 : a.tmps.getD 113 undef = .bool false := he 10 (by kernel_rfl)
                refine wpOp_run rfl rfl rfl f10 (fun K hK => ?_)
                go_simp
                exact hK _ _ ⟨_, rfl, rfl, World.grownBy.refl _ _⟩
              · intro a w' hf he
                have f15 : a.tmps.getD 118 undef = .pointer (some ⟨q, 0, none⟩) := he 15 (by kernel_rfl)
                have f10 : a.tmps.getD 113 undef = .bool false := he 10 (by kernel_rfl)
                rw [show kindRow _ _ = none from by kernel_rfl] at hf
                have q1 := hf.bel.cell (p := ⟨q, 0, none⟩) hqlt
                rw [hcq] at q1
                refine wpOp_run rfl rfl rfl f10 (fun K hK => ?_)
                go_simp
                exact hK _ _ ⟨_, rfl, rfl, World.grownBy.refl _ _⟩
              · intro a w' hf he
                have f16 : a.tmps.getD 119 undef = .slice Aq bs'.length cq := he 16 (by kernel_rfl)
                have f10 : a.tmps.getD 113 undef = .bool false := he 10 (by kernel_rfl)
                refine wpOp_run rfl rfl rfl f10 (fun K hK => ?_)
                go_simp
                exact hK _ _ ⟨_, rfl, rfl, World.grownBy.refl _ _⟩
              · intro a w' hf he
                have f12 : a.tmps.getD 115 undef = .int .i64 (bs'.length : Nat) := he 12 (by kernel_rfl)
                have f17 : a.tmps.getD 120 undef = .int .i64 (bs'.length : Nat) := he 17 (by kernel_rfl)
                have f10 : a.tmps.getD 113 undef = .bool false := he 10 (by kernel_rfl)
                refine wpOp_run rfl rfl rfl f10 (fun K hK => ?_)
                go_simp
                exact hK _ _ ⟨_, rfl, rfl, World.grownBy.refl _ _⟩
              · intro a w' hf he
                have f10 : a.tmps.getD 113 undef = .bool false := he 10 (by kernel_rfl)
                have f18 : a.tmps.getD 121 undef = .bool false := he 18 (by kernel_rfl)
                refine wpOp_step rfl (fun K hK => ?_)
                go_simp
                exact hK _ _ ⟨_, rfl, rfl, World.grownBy.refl _ _⟩
              · intro a w' hf he
                have f19 : a.tmps.getD 122 undef = .bool false := he 19 (by kernel_rfl)
                refine wpOp_step rfl (fun K hK => ?_)
                go_simp
                exact hK _ _ ⟨_, rfl, rfl, World.grownBy.refl _ _⟩
              · intro a w' hf he
                have k5 : a.tmps.getD 5 undef = .pointer (some ⟨p, 0, none⟩) := hf.var (by kernel_rfl) rfl
                have f20 : a.tmps.getD 123 undef = .bool false := he 20 (by kernel_rfl)
                refine wpOp_run rfl rfl rfl f20 (fun K hK => ?_)
                go_simp
                exact hK _ _ ⟨_, rfl, rfl, World.grownBy.refl _ _⟩
              · intro a w' hf he
                have f21 : a.tmps.getD 124 undef = .pointer (some ⟨p, 0, none⟩) := he 21 (by kernel_rfl)
                have f20 : a.tmps.getD 123 undef = .bool false := he 20 (by kernel_rfl)
                rw [show kindRow _ _ = none from by kernel_rfl] at hf
                refine wpOp_run rfl rfl rfl f20 (fun K hK => ?_)
                go_simp
                refine (c_Full (HX6.out.bel_ hf.bel).o hwp (by omega)).mono ?_
                rintro e w2 ⟨rfl, m, rfl⟩
                exact hK _ _ ⟨_, rfl, rfl, ⟨rfl, rfl, rfl, Nat.le_refl _, fun _ _ _ => rfl⟩⟩
              · intro a w' hf he
                have k7 : a.tmps.getD 7 undef = .pointer (some ⟨q, 0, none⟩) := hf.var (by kernel_rfl) rfl
                have f20 : a.tmps.getD 123 undef = .bool false := he 20 (by kernel_rfl)
                refine wpOp_run rfl rfl rfl f20 (fun K hK => ?_)
                go_simp
                exact hK _ _ ⟨_, rfl, rfl, World.grownBy.refl _ _⟩
              · intro a w' hf he
                have f23 : a.tmps.getD 126 undef = .pointer (some ⟨q, 0, none⟩) := he 23 (by kernel_rfl)
                have f20 : a.tmps.getD 123 undef = .bool false := he 20 (by kernel_rfl)
                rw [show kindRow _ _ = none from by kernel_rfl] at hf
                refine wpOp_run rfl rfl rfl f20 (fun K hK => ?_)
                go_simp
                refine (c_rFull (HX6.out.bel_ hf.bel).r (by omega)).mono ?_
                rintro e w2 ⟨rfl, m, rfl⟩
                exact hK _ _ ⟨_, rfl, rfl, ⟨rfl, rfl, rfl, Nat.le_refl _, fun _ _ _ => rfl⟩⟩
              · intro a w' hf he
                have f22 : a.tmps.getD 125 undef = .bool (decide (win ≤ (bs'.length : Int))) := he 22 (by kernel_rfl)
                have f24 : a.tmps.getD 127 undef = .bool (decide (win ≤ (bs'.length : Int))) := he 24 (by kernel_rfl)
                have f20 : a.tmps.getD 123 undef = .bool false := he 20 (by kernel_rfl)
                refine wpOp_run rfl rfl rfl f20 (fun K hK => ?_)
                go_simp
                exact hK _ _ ⟨_, rfl, rfl, World.grownBy.refl _ _⟩
              · intro a w' hf he
                have f20 : a.tmps.getD 123 undef = .bool false := he 20 (by kernel_rfl)
                have f25 : a.tmps.getD 128 undef = .bool false := he 25 (by kernel_rfl)
                refine wpOp_step rfl (fun K hK => ?_)
                go_simp
                exact hK _ _ ⟨_, rfl, rfl, World.grownBy.refl _ _⟩
              · intro a w' hf he
                have f26 : a.tmps.getD 129 undef = .bool false := he 26 (by kernel_rfl)
                refine wpOp_step rfl (fun K hK => ?_)
                go_simp
                exact hK _ _ ⟨_, rfl, rfl, World.grownBy.refl _ _⟩
              · intro a w' hf he
                have k5 : a.tmps.getD 5 undef = .pointer (some ⟨p, 0, none⟩) := hf.var (by kernel_rfl) rfl
                have f27 : a.tmps.getD 130 undef = .bool false := he 27 (by kernel_rfl)
                refine wpOp_run rfl rfl rfl f27 (fun K hK => ?_)
                go_simp
                exact hK _ _ ⟨_, rfl, rfl, World.grownBy.refl _ _⟩
              · intro a w' hf he
                have f28 : a.tmps.getD 131 undef = .pointer (some ⟨p, 0, none⟩) := he 28 (by kernel_rfl)
                have f27 : a.tmps.getD 130 undef = .bool false := he 27 (by kernel_rfl)
                rw [show kindRow _ _ = none from by kernel_rfl] at hf
                refine wpOp_run rfl rfl rfl f27 (fun K hK => ?_)
                go_simp
                refine (c_Window (HX6.out.bel_ hf.bel).o (by omega) hwp hw2 (by omega) (by omega) N HN.out).mono ?_
                rintro e w2 ⟨A3, c3, rfl, hown, hB2⟩
                exact hK _ _ ⟨_, rfl, ⟨A3, c3, rfl, hown.rd⟩, grown_bel hB2⟩
              · intro a w' hf he
                have k7 : a.tmps.getD 7 undef = .pointer (some ⟨q, 0, none⟩) := hf.var (by kernel_rfl) rfl
                have f27 : a.tmps.getD 130 undef = .bool false := he 27 (by kernel_rfl)
                refine wpOp_run rfl rfl rfl f27 (fun K hK => ?_)
                go_simp
                exact hK _ _ ⟨_, rfl, rfl, World.grownBy.refl _ _⟩
              · intro a w' hf he
                have f30 : a.tmps.getD 133 undef = .pointer (some ⟨q, 0, none⟩) := he 30 (by kernel_rfl)
                have f27 : a.tmps.getD 130 undef = .bool false := he 27 (by kernel_rfl)
                rw [show kindRow _ _ = none from by kernel_rfl] at hf
                refine wpOp_run rfl rfl rfl f27 (fun K hK => ?_)
                go_simp
                refine (c_rNumbers (HX6.out.bel_ hf.bel).r (by omega) hwp hw2 (by omega) (by omega) N HN.out).mono ?_
                rintro e w2 ⟨A3, c3, rfl, hown, hB2⟩
                exact hK _ _ ⟨_, rfl, ⟨A3, c3, rfl, hown.rd⟩, grown_bel hB2⟩
              · intro a w' hf he
                obtain ⟨A29, c29, hv29, hr29⟩ := he 29 (by kernel_rfl)
                have f29 : a.tmps.getD 132 undef = _ := hv29
                obtain ⟨A31, c31, hv31, hr31⟩ := he 31 (by kernel_rfl)
                have f31 : a.tmps.getD 134 undef = _ := hv31
                have f27 : a.tmps.getD 130 undef = .bool false := he 27 (by kernel_rfl)
                rw [show kindRow _ _ = none from by kernel_rfl] at hf
                refine wpOp_run rfl rfl rfl f27 (fun K hK => ?_)
                go_simp
                refine (c_Ints _ _ _ _ _ _ _ _ _ hr29 hr31).mono ?_
                rintro e w2 ⟨rfl, m, rfl⟩
                rw [beq_self_eq_true]
                exact hK _ _ ⟨_, rfl, rfl, ⟨rfl, rfl, rfl, Nat.le_refl _, fun _ _ _ => rfl⟩⟩
              · intro a w' hf he
                have f32 : a.tmps.getD 135 undef = .bool true := he 32 (by kernel_rfl)
                have f27 : a.tmps.getD 130 undef = .bool false := he 27 (by kernel_rfl)
                refine wpOp_run rfl rfl rfl f27 (fun K hK => ?_)
                go_simp
                exact hK _ _ ⟨_, rfl, rfl, World.grownBy.refl _ _⟩
              · intro a w' hf he
                have f27 : a.tmps.getD 130 undef = .bool false := he 27 (by kernel_rfl)
                have f33 : a.tmps.getD 136 undef = .bool false := he 33 (by kernel_rfl)
                refine wpOp_step rfl (fun K hK => ?_)
                go_simp
                exact hK _ _ ⟨_, rfl, rfl, World.grownBy.refl _ _⟩
            · intro a w' hf he
              obtain ⟨u103, f0⟩ : ∃ u, a.tmps.getD 103 undef = u := ⟨_, rfl⟩
              obtain ⟨u104, f1⟩ : ∃ u, a.tmps.getD 104 undef = u := ⟨_, rfl⟩
              obtain ⟨u105, f2⟩ : ∃ u, a.tmps.getD 105 undef = u := ⟨_, rfl⟩
              obtain ⟨u106, f3⟩ : ∃ u, a.tmps.getD 106 undef = u := ⟨_, rfl⟩
              obtain ⟨u107, f4⟩ : ∃ u, a.tmps.getD 107 undef = u := ⟨_, rfl⟩
              obtain ⟨u108, f5⟩ : ∃ u, a.tmps.getD 108 undef = u := ⟨_, rfl⟩
              obtain ⟨u109, f6⟩ : ∃ u, a.tmps.getD 109 undef = u := ⟨_, rfl⟩
              obtain ⟨u110, f7⟩ : ∃ u, a.tmps.getD 110 undef = u := ⟨_, rfl⟩
              obtain ⟨u111, f8⟩ : ∃ u, a.tmps.getD 111 undef = u := ⟨_, rfl⟩
              obtain ⟨u112, f9⟩ : ∃ u, a.tmps.getD 112 undef = u := ⟨_, rfl⟩
              obtain ⟨u113, f10⟩ : ∃ u, a.tmps.getD 113 undef = u := ⟨_, rfl⟩
              obtain ⟨u114, f11⟩ : ∃ u, a.tmps.getD 114 undef = u := ⟨_, rfl⟩
              obtain ⟨u115, f12⟩ : ∃ u, a.tmps.getD 115 undef = u := ⟨_, rfl⟩
              obtain ⟨u116, f13⟩ : ∃ u, a.tmps.getD 116 undef = u := ⟨_, rfl⟩
              obtain ⟨u117, f14⟩ : ∃ u, a.tmps.getD 117 undef = u := ⟨_, rfl⟩
              obtain ⟨u118, f15⟩ : ∃ u, a.tmps.getD 118 undef = u := ⟨_, rfl⟩
              obtain ⟨u119, f16⟩ : ∃ u, a.tmps.getD 119 undef = u := ⟨_, rfl⟩
              obtain ⟨u120, f17⟩ : ∃ u, a.tmps.getD 120 undef = u := ⟨_, rfl⟩
              obtain ⟨u121, f18⟩ : ∃ u, a.tmps.getD 121 undef = u := ⟨_, rfl⟩
              obtain ⟨u122, f19⟩ : ∃ u, a.tmps.getD 122 undef = u := ⟨_, rfl⟩
              obtain ⟨u123, f20⟩ : ∃ u, a.tmps.getD 123 undef = u := ⟨_, rfl⟩
              obtain ⟨u124, f21⟩ : ∃ u, a.tmps.getD 124 undef = u := ⟨_, rfl⟩
              obtain ⟨u125, f22⟩ : ∃ u, a.tmps.getD 125 undef = u := ⟨_, rfl⟩
              obtain ⟨u126, f23⟩ : ∃ u, a.tmps.getD 126 undef = u := ⟨_, rfl⟩
              obtain ⟨u127, f24⟩ : ∃ u, a.tmps.getD 127 undef = u := ⟨_, rfl⟩
              obtain ⟨u128, f25⟩ : ∃ u, a.tmps.getD 128 undef = u := ⟨_, rfl⟩
              obtain ⟨u129, f26⟩ : ∃ u, a.tmps.getD 129 undef = u := ⟨_, rfl⟩
              obtain ⟨u130, f27⟩ : ∃ u, a.tmps.getD 130 undef = u := ⟨_, rfl⟩
              obtain ⟨u131, f28⟩ : ∃ u, a.tmps.getD 131 undef = u := ⟨_, rfl⟩
              obtain ⟨u132, f29⟩ : ∃ u, a.tmps.getD 132 undef = u := ⟨_, rfl⟩
              obtain ⟨u133, f30⟩ : ∃ u, a.tmps.getD 133 undef = u := ⟨_, rfl⟩
              obtain ⟨u134, f31⟩ : ∃ u, a.tmps.getD 134 undef = u := ⟨_, rfl⟩
              obtain ⟨u135, f32⟩ : ∃ u, a.tmps.getD 135 undef = u := ⟨_, rfl⟩
              obtain ⟨u136, f33⟩ : ∃ u, a.tmps.getD 136 undef = u := ⟨_, rfl⟩
              have f34 : a.tmps.getD 137 undef = .bool false := he 34 (by decide)
              have hlit := hf.lit ((103, u103) :: (104, u104) :: (105, u105) :: (106, u106) :: (107, u107) :: (108, u108) :: (109, u109) :: (110, u110) :: (111, u111) :: (112, u112) :: (113, u113) :: (114, u114) :: (115, u115) :: (116, u116) :: (117, u117) :: (118, u118) :: (119, u119) :: (120, u120) :: (121, u121) :: (122, u122) :: (123, u123) :: (124, u124) :: (125, u125) :: (126, u126) :: (127, u127) :: (128, u128) :: (129, u129) :: (130, u130) :: (131, u131) :: (132, u132) :: (133, u133) :: (134, u134) :: (135, u135) :: (136, u136) :: (137, .bool false) :: []) (by kernel_rfl) ⟨f0, f1, f2, f3, f4, f5, f6, f7, f8, f9, f10, f11, f12, f13, f14, f15, f16, f17, f18, f19, f20, f21, f22, f23, f24, f25, f26, f27, f28, f29, f30, f31, f32, f33, f34, trivial⟩
              have hB := hf.bel
              clear he hf f0 f1 f2 f3 f4 f5 f6 f7 f8 f9 f10 f11 f12 f13 f14 f15 f16 f17 f18 f19 f20 f21 f22 f23 f24 f25 f26 f27 f28 f29 f30 f31 f32 f33 f34 
              subst hlit
              simp only [putAll_nil, putAll_cons, Act.put, List.setIfInBounds_toArray, List.set_cons_zero, List.set_cons_succ]
              simp only [List.drop_succ_cons, List.drop_zero]
              have HX7 := Lib.hid (HX6.out.bel_ hB)
              clear hB hcq
              go_wp2_with fail
              go_roundw
              case rel => exact ⟨k + 1, first, bs', F3, F4, by omega, by go_num, HX7, Lib.hid (by have := HLX.out; omega)⟩
              case measure => simp [intOf] <;> omega
      · obtain rfl : k = n := by omega
        go_wp2_with (first
          | (go_at_call 46; (with_reducible refine (c_live _).mono ?_); rintro e w2 ⟨rfl, hb2⟩))
        go_ret
        exact ⟨rfl, bel_live HT.out.bel hb2⟩
end Go.Proofs.Ytlfphoablloodaa.Outbox
