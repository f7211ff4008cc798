/- The law OutboxGoes, walked. Conditions: none. -/
import Derived.Test.YtlfphoablloodaaOutAny
import Derived.Test.YtlfphoablloodaaOutActs
import Derived.Test.YtlfphoablloodaaActs
import Derived.IntWalk
namespace Go.Proofs.Ytlfphoablloodaa.Outbox
open Go.RowKit Tw
set_option maxHeartbeats 8000000

theorem ackOut_le (win first : Int) (len : Nat) (n : Int) (h : win ≤ 64) (h0 : 0 < win) : (ackOut win first len n).length ≤ 64 := by
  unfold ackOut
  split
  · rw [from_length]
    omega
  · simp

/-- the outbox at p, since the law began -/
structure One (w wr : World) (p : Nat) (win first : Int) (bs : List (List UInt8)) (F : Nat → Prop) : Prop where
  o : OutR wr w.heap.size F p win first bs
  bel : Below w.heap.size w wr
  f1 : 1 ≤ first
theorem One.bel_ {w wr wr' : World} {p : Nat} {win first : Int} {bs : List (List UInt8)} {F : Nat → Prop} (h : One w wr p win first bs F) (hb : Below wr.heap.size wr wr') : One w wr' p win first bs F :=
  ⟨h.o.bel hb, bel_live h.bel hb, h.f1⟩
theorem One.fr {w wr wr' : World} {p : Nat} {win first first' : Int} {bs bs' : List (List UInt8)} {F F' : Nat → Prop} (h : One w wr p win first bs F) (ho : OutR wr' w.heap.size F' p win first' bs') (hf : Fr F wr wr') (h1 : 1 ≤ first') : One w wr' p win first' bs' F' :=
  ⟨ho, h.bel.trans (hf.bel (fun k hk => (h.o.lt k hk).1) h.bel.size), h1⟩

/-- what the law counts -/
structure Cnt (win first : Int) (len : Nat) (gone acked pushed : Int) (k : Nat) : Prop where
  a : acked = first - 1
  p : pushed = first - 1 + len
  g : gone = first - 1 + min (len : Int) win
  s : first + len ≤ 1 + k

section
variable {w W0 : World} {p : Nat} {win first : Int} {bs : List (List UInt8)} {F : Nat → Prop} {gone acked pushed : Int} {k : Nat}
theorem c_Acked_cnt (HT : One w W0 p win first bs F) (HC : Cnt win first bs.length gone acked pushed k) (hw : 0 < win) (hw2 : win ≤ 64) (hk : k ≤ 80) (num : Int) :
    ∃ (M : Nat) (fi : Int) (bsx : List (List UInt8)), M ≤ 64 ∧ Cnt win fi bsx.length (gone + M) (if acked < num ∧ num ≤ gone then num else acked) pushed (k + 1) ∧
      Calls Try.prog 47 #[.pointer (some ⟨p, 0, none⟩), .int .i64 num] W0 fun e w' => ∃ A2 c2, e = .returned (.slice A2 M c2) ∧ Rd w' 1 A2 M c2 (intsV (from_ (gone + 1) M)) ∧ One w w' p win fi bsx F ∧ Fr F W0 w' := by
  have h1 := HT.f1
  have ha := HC.a
  have hp := HC.p
  have hg := HC.g
  have hs := HC.s
  have h64 := ackOut_le win first bs.length num hw2 hw
  have hgl := ackG_le win first bs.length num
  have hcall := c_Acked_any HT.o (by omega) hw hw2 h1 (by omega) num
  refine ⟨(ackOut win first bs.length num).length, first + (ackG win first bs.length num : Nat), bs.drop (ackG win first bs.length num), h64, ?_, hcall.mono ?_⟩
  · by_cases hc : first ≤ num ∧ num ≤ first + min (bs.length : Int) win - 1
    · have hc2 : acked < num ∧ num ≤ gone := by omega
      rw [if_pos hc2]
      unfold ackOut ackG at *
      rw [if_pos hc] at *
      rw [if_pos hc] at *
      rw [from_length]
      constructor
      · omega
      · simp; omega
      · simp; omega
      · simp; omega
    · have hc2 : ¬ (acked < num ∧ num ≤ gone) := by omega
      rw [if_neg hc2]
      unfold ackOut ackG at *
      rw [if_neg hc] at *
      rw [if_neg hc] at *
      constructor
      · simp; omega
      · simp; omega
      · simp; omega
      · simp; omega
  · rintro e w' ⟨A2, c2, rfl, hrd, ho, hfr, _⟩
    refine ⟨A2, c2, rfl, ?_, HT.fr ho hfr (by omega), hfr⟩
    have : ackOut win first bs.length num = from_ (gone + 1) (ackOut win first bs.length num).length := by
      unfold ackOut
      split
      · rw [from_length, show first + min (bs.length : Int) win = gone + 1 from by omega]
      · rfl
    rw [← this]
    exact hrd

theorem c_Push_cnt (HT : One w W0 p win first bs F) (HC : Cnt win first bs.length gone acked pushed k) (hw : 0 < win) (hw2 : win ≤ 64) (hk : k ≤ 80)
    (A' : Option Addr) (n' c' : Nat) (body : List UInt8) (hbody : Byt W0 A' n' c' body) (hn' : n' ≤ 140737488351232) :
    ∃ (ok : Bool) (bsx : List (List UInt8)), (ok = true → pushed = gone ∧ Cnt win first bsx.length (gone + 1) acked (pushed + 1) (k + 1)) ∧ (ok = false → Cnt win first bsx.length gone acked (pushed + 1) (k + 1)) ∧
      Calls Try.prog 48 #[.pointer (some ⟨p, 0, none⟩), .slice A' n' c'] W0 fun e w' => e = .returned (.tuple #[.int .i64 (pushed + 1), .bool ok]) ∧ ∃ F', One w w' p win first bsx F' ∧ Fr F W0 w' := by
  have h1 := HT.f1
  have ha := HC.a
  have hp := HC.p
  have hg := HC.g
  have hs := HC.s
  refine ⟨!decide (win ≤ (bs.length : Int)), bs ++ [body], fun h => ?_, fun h => ?_, (c_Push HT.o hw (by omega) (by omega) (by omega) A' n' c' body hbody hn' HT.bel.size).mono ?_⟩
  · have h2 : ¬ win ≤ (bs.length : Int) := by simpa using h
    refine ⟨by omega, by omega, by simp; omega, by simp; omega, by simp; omega⟩
  · have h2 : win ≤ (bs.length : Int) := by simpa using h
    refine ⟨by omega, by simp; omega, by simp; omega, by simp; omega⟩
  · rintro e w' ⟨rfl, F', ho, hfr, _⟩
    exact ⟨by rw [show first + (bs.length : Int) = pushed + 1 from by omega], F', HT.fr ho hfr h1, hfr⟩
end


set_option maxRecDepth 100000 in
theorem w_OutboxGoes (win : Int) (A : Option Addr) (n c : Nat) (l : List (Bool × Int × List UInt8)) (w : World) (hl : ActsIn w A n c l) :
    Calls Try.prog 9 #[.int .i64 win, .slice A n c] w fun e w' => e = .returned (.bool true) ∧ Below w.heap.size w w' := by
  have hn := hl.le
  have hc := hl.cap
  unfold maxLen at hc
  have Hl := Lib.hid hl
  clear hl
  by_cases hwin : win < 1 ∨ 64 < win
  · have Hwin := Lib.hid hwin
    clear hwin
    go_enter Try.func9, Try.ntmps9
    go_wp2_with (first
      | (go_at_call 45; (with_reducible refine (c_oNew_no win _ Hwin.out).mono ?_); rintro e w2 ⟨rfl, rfl⟩)
      | (go_at_call 46; (with_reducible refine (c_live _).mono ?_); rintro e w2 ⟨rfl, hb2⟩))
    go_ret
    exact ⟨rfl, hb2⟩
  have hw1 : 1 ≤ win := by omega
  have hw2 : win ≤ 64 := by omega
  clear hwin
  by_cases h80 : 80 < n
  · go_enter Try.func9, Try.ntmps9
    go_wp2_with (first
      | (go_at_call 45; (with_reducible refine (c_oNew win _ hw1 hw2).mono ?_); rintro e w1 ⟨rfl, ho, hb1⟩)
      | (go_at_call 46; (with_reducible refine (c_live _).mono ?_); rintro e w2 ⟨rfl, hb2⟩))
    go_ret
    exact ⟨rfl, bel_live hb1 hb2⟩
  go_enter Try.func9, Try.ntmps9
  go_wp2_with (first
    | (go_at_call 45; (with_reducible refine (c_oNew win _ hw1 hw2).mono ?_); rintro e w1 ⟨rfl, ho, hb1⟩))
  have H2 : Hid (One w w1 w.heap.size win 1 [] (fun k => k = w.heap.size)) := Lib.hid ⟨ho, hb1, Int.le_refl _⟩
  clear ho hb1
  generalize w.heap.size = p at *
  go_loopw [7, 8, 9, 33] (fun v7 v8 v9 x wr => ∃ (k : Nat) (first : Int) (bs : List (List UInt8)) (F : Nat → Prop) (gone acked pushed : Int), k ≤ n ∧ x = .int .i64 (k : Int) ∧ v7 = .int .i64 gone ∧ v8 = .int .i64 acked ∧ v9 = .int .i64 pushed ∧ Hid (One w wr p win first bs F) ∧ Hid (Cnt win first bs.length gone acked pushed k)) (fun _ _ _ x _ => n - (intOf x).toNat)
  case atStart => exact ⟨0, 1, [], _, 0, 0, 0, by omega, rfl, rfl, rfl, rfl, H2, Lib.hid ⟨by simp, by simp, by simp; omega, by simp⟩⟩
  case round =>
    obtain ⟨k, first, bs, F, gone, acked, pushed, hk, rfl, rfl, rfl, rfl, HT, HC0⟩ := hrel
    by_cases hlt : k < n
    · obtain ⟨⟨ack, num, body⟩, hact⟩ : ∃ a, l[k]? = some a := ⟨_, List.getElem?_eq_getElem (by rw [Hl.out.len]; exact hlt)⟩
      obtain ⟨ad, A', n', c', rfl, d0, d1, d2, hbody, hn', hz0, hz1⟩ := Hl.out.at_ k _ hact
      simp only at d0 d1 d2 hbody hz0 hz1
      have e0 := (HT.out.bel.cell (block_lt_of_cell d0)).trans d0
      have e1 := (HT.out.bel.cell (block_lt_of_cell d1)).trans d1
      have e2 := (HT.out.bel.cell (block_lt_of_cell d2)).trans d2
      rw [addr_next ad (k * 3) 0] at e1
      rw [addr_next ad (k * 3) 1] at e2
      simp only [Nat.zero_add, Nat.reduceAdd] at e1 e2
      have Hbody := Lib.hid (hbody.bel HT.out.bel)
      clear d0 d1 d2 hbody hact
      have hf1 := HT.out.f1
      have hs1 : bs.length ≤ 80 := by have := HC0.out.s; omega
      have hs2 : first ≤ 81 := by have := HC0.out.s; omega
      have ha1 : 0 ≤ acked ∧ acked ≤ 80 := by have := HC0.out.a; omega
      have hp1 : 0 ≤ pushed ∧ pushed ≤ 80 := by have := HC0.out.p; have := HC0.out.s; omega
      have hg1 : 0 ≤ gone ∧ gone ≤ 200 := by have := HC0.out.g; omega
      have hcell1 : (wr.alloc (.cells #[.bool ack, .int .i64 num, .slice A' n' c'] 77)).cell? ⟨wr.heap.size, 1, none⟩ = some (.int .i64 num) := by go_simp
      have hcell2 : (wr.alloc (.cells #[.bool ack, .int .i64 num, .slice A' n' c'] 77)).cell? ⟨wr.heap.size, 2, none⟩ = some (.slice A' n' c') := by go_simp
      have HT0 := Lib.hid (HT.out.bel_ ((Below.refl _ _).alloc (Nat.le_refl _) (.cells #[.bool ack, .int .i64 num, .slice A' n' c'] 77)))
      have Hb0 := Lib.hid (Hbody.out.alloc (.cells #[.bool ack, .int .i64 num, .slice A' n' c'] 77))
      have hra : wr.heap.size < (wr.alloc (.cells #[.bool ack, .int .i64 num, .slice A' n' c'] 77)).heap.size := by simp
      have hra1 : ¬ F wr.heap.size := fun h => by have := (HT.out.o.lt _ h).2; omega
      have hwp : 0 < win := by omega
      cases ack with
      | true =>
        go_wp2_with fail
        generalize wr.alloc (.cells #[.bool true, .int .i64 num, .slice A' n' c'] 77) = W0 at *
        generalize wr.heap.size = ra at *
        clear e0 e1 e2 hcell2 Hb0
        obtain ⟨M, fi, bsx, hM, hcntX, hcall⟩ := c_Acked_cnt HT0.out HC0.out hwp hw2 (by omega) num
        have HK := Lib.hid hcall
        clear hcall
        by_cases t1 : acked < num
        · by_cases t2 : num ≤ gone
          · rw [if_pos ⟨t1, t2⟩] at hcntX
            go_wp2_with (first
              | (go_at_call 47
                 (with_reducible refine HK.out.mono ?_)
                 rintro e w3 ⟨A3, c3, rfl, hrd, HX3, hfr3⟩
                 have hcell1 := (fr_cell hfr3 (a := ⟨ra, 1, none⟩) hra hra1).trans hcell1
                 have hra3 : ra < w3.heap.size := Nat.lt_of_lt_of_le hra hfr3.size
                 have HX3 := Lib.hid HX3
                 clear hfr3)
              | (at_builtin
                 refine wpL_append _ rfl (.tmp 43) (.tmp 44) _ rfl w3 w3.heap.size (Below.refl _ _) (Nat.le_refl _) 3 _ 1 8 Try.underlying78 info_int rfl (by omega) _ _ _ [] rfl (World.ownsRow_nil _ _ _ _) _ _ _ _ rfl hrd intsV_one M (intsV (from_ (gone + 1) M)) (by omega) rfl (by unfold maxLen; omega) (by omega) ?_
                 intro A4 c4 w4 hown4 hb4 hg4 ho4
                 have HX := Lib.hid (HX3.out.bel_ hb4)
                 have HN := Lib.hid hown4.rd
                 have hcell1 := (hb4.cell (p := ⟨ra, 1, none⟩) hra3).trans hcell1
                 clear hg4 ho4 hb4 hown4 HX3))
            go_loop [7, 77] (fun v x => ∃ j : Nat, j ≤ M ∧ x = .int .i64 (j : Int) ∧ v = .int .i64 (gone + (j : Int))) (fun _ x => M - (intOf x).toNat)
            case atStart => exact ⟨0, by omega, rfl, by simp⟩
            case round =>
              obtain ⟨j, hj, rfl, rfl⟩ := hrel
              by_cases hjl : j < M
              · obtain ⟨adj, zj, hAj, hzj, hcellj⟩ := rd_ints_at HN.out hjl
                subst hAj
                have ezj := from_get hzj.out
                have ezj2 : (zj != gone + (j : Int) + 1) = false := by simp; omega
                have ezk := Lib.hid ezj
                clear hzj ezj
                go_wp2_with fail
                go_round
                case rel => exact ⟨j + 1, by omega, by go_num, by rw [show zj = gone + ((j + 1 : Nat) : Int) from by have := ezk.out; omega]⟩
                case measure => simp [intOf] <;> omega
              · obtain rfl : j = M := by omega
                obtain ⟨gz, hgz⟩ : ∃ gz, gone + (j : Int) = gz := ⟨_, rfl⟩
                rw [hgz] at hcntX ⊢
                clear hgz
                have q1 : ¬ (num + win < gz) := by have := hcntX.a; have := hcntX.g; omega
                have q2 : ¬ (pushed < gz) := by have := hcntX.p; have := hcntX.g; omega
                have q3 : ((bsx.length : Int) != pushed - num) = false := by have := hcntX.p; have := hcntX.a; simp; omega
                have hlX : bsx.length ≤ 1048576 := by have := hcntX.s; have := HX.out.f1; omega
                have b1 : 0 ≤ num ∧ num ≤ 100 := by have := hcntX.a; have := hcntX.s; have := HX.out.f1; omega
                have b2 : 0 ≤ pushed ∧ pushed ≤ 100 := by have := hcntX.p; have := hcntX.s; have := HX.out.f1; omega
                have HC := Lib.hid hcntX
                clear hcntX
                by_cases hlt3 : gz < pushed
                · have q4 : (gz != num + win) = false := by have := HC.out.a; have := HC.out.p; have := HC.out.g; simp; omega
                  go_wp2_with (first
                    | (go_at_call 49; (with_reducible refine (c_Len HX.out.o hwp hlX).mono ?_); rintro e w9 ⟨rfl, rfl⟩))
                  go_roundw
                  case rel => exact ⟨k + 1, fi, bsx, F, gz, _, _, by omega, by go_num, rfl, rfl, rfl, HX, HC⟩
                  case measure => simp [intOf] <;> omega
                · go_wp2_with (first
                    | (go_at_call 49; (with_reducible refine (c_Len HX.out.o hwp hlX).mono ?_); rintro e w9 ⟨rfl, rfl⟩))
                  go_roundw
                  case rel => exact ⟨k + 1, fi, bsx, F, gz, _, _, by omega, by go_num, rfl, rfl, rfl, HX, HC⟩
                  case measure => simp [intOf] <;> omega
          · rw [if_neg (fun h => t2 h.2)] at hcntX
            go_wp2_with (first
              | (go_at_call 47
                 (with_reducible refine HK.out.mono ?_)
                 rintro e w3 ⟨A3, c3, rfl, hrd, HX3, hfr3⟩
                 have hcell1 := (fr_cell hfr3 (a := ⟨ra, 1, none⟩) hra hra1).trans hcell1
                 have hra3 : ra < w3.heap.size := Nat.lt_of_lt_of_le hra hfr3.size
                 have HX3 := Lib.hid HX3
                 clear hfr3)
              | (at_builtin
                 refine wpL_append _ rfl (.tmp 43) (.tmp 44) _ rfl w3 w3.heap.size (Below.refl _ _) (Nat.le_refl _) 3 _ 1 8 Try.underlying78 info_int rfl (by omega) _ _ _ [] rfl (World.ownsRow_nil _ _ _ _) _ _ _ _ rfl hrd intsV_one M (intsV (from_ (gone + 1) M)) (by omega) rfl (by unfold maxLen; omega) (by omega) ?_
                 intro A4 c4 w4 hown4 hb4 hg4 ho4
                 have HX := Lib.hid (HX3.out.bel_ hb4)
                 have HN := Lib.hid hown4.rd
                 have hcell1 := (hb4.cell (p := ⟨ra, 1, none⟩) hra3).trans hcell1
                 clear hg4 ho4 hb4 hown4 HX3))
            go_loop [7, 77] (fun v x => ∃ j : Nat, j ≤ M ∧ x = .int .i64 (j : Int) ∧ v = .int .i64 (gone + (j : Int))) (fun _ x => M - (intOf x).toNat)
            case atStart => exact ⟨0, by omega, rfl, by simp⟩
            case round =>
              obtain ⟨j, hj, rfl, rfl⟩ := hrel
              by_cases hjl : j < M
              · obtain ⟨adj, zj, hAj, hzj, hcellj⟩ := rd_ints_at HN.out hjl
                subst hAj
                have ezj := from_get hzj.out
                have ezj2 : (zj != gone + (j : Int) + 1) = false := by simp; omega
                have ezk := Lib.hid ezj
                clear hzj ezj
                go_wp2_with fail
                go_round
                case rel => exact ⟨j + 1, by omega, by go_num, by rw [show zj = gone + ((j + 1 : Nat) : Int) from by have := ezk.out; omega]⟩
                case measure => simp [intOf] <;> omega
              · obtain rfl : j = M := by omega
                obtain ⟨gz, hgz⟩ : ∃ gz, gone + (j : Int) = gz := ⟨_, rfl⟩
                rw [hgz] at hcntX ⊢
                clear hgz
                have q1 : ¬ (acked + win < gz) := by have := hcntX.a; have := hcntX.g; omega
                have q2 : ¬ (pushed < gz) := by have := hcntX.p; have := hcntX.g; omega
                have q3 : ((bsx.length : Int) != pushed - acked) = false := by have := hcntX.p; have := hcntX.a; simp; omega
                have hlX : bsx.length ≤ 1048576 := by have := hcntX.s; have := HX.out.f1; omega
                have b1 : 0 ≤ acked ∧ acked ≤ 100 := by have := hcntX.a; have := hcntX.s; have := HX.out.f1; omega
                have b2 : 0 ≤ pushed ∧ pushed ≤ 100 := by have := hcntX.p; have := hcntX.s; have := HX.out.f1; omega
                have HC := Lib.hid hcntX
                clear hcntX
                by_cases hlt3 : gz < pushed
                · have q4 : (gz != acked + win) = false := by have := HC.out.a; have := HC.out.p; have := HC.out.g; simp; omega
                  go_wp2_with (first
                    | (go_at_call 49; (with_reducible refine (c_Len HX.out.o hwp hlX).mono ?_); rintro e w9 ⟨rfl, rfl⟩))
                  go_roundw
                  case rel => exact ⟨k + 1, fi, bsx, F, gz, _, _, by omega, by go_num, rfl, rfl, rfl, HX, HC⟩
                  case measure => simp [intOf] <;> omega
                · go_wp2_with (first
                    | (go_at_call 49; (with_reducible refine (c_Len HX.out.o hwp hlX).mono ?_); rintro e w9 ⟨rfl, rfl⟩))
                  go_roundw
                  case rel => exact ⟨k + 1, fi, bsx, F, gz, _, _, by omega, by go_num, rfl, rfl, rfl, HX, HC⟩
                  case measure => simp [intOf] <;> omega
        · rw [if_neg (fun h => t1 h.1)] at hcntX
          go_wp2_with (first
            | (go_at_call 47
               (with_reducible refine HK.out.mono ?_)
               rintro e w3 ⟨A3, c3, rfl, hrd, HX3, hfr3⟩
               have hcell1 := (fr_cell hfr3 (a := ⟨ra, 1, none⟩) hra hra1).trans hcell1
               have hra3 : ra < w3.heap.size := Nat.lt_of_lt_of_le hra hfr3.size
               have HX3 := Lib.hid HX3
               clear hfr3)
            | (at_builtin
               refine wpL_append _ rfl (.tmp 43) (.tmp 44) _ rfl w3 w3.heap.size (Below.refl _ _) (Nat.le_refl _) 3 _ 1 8 Try.underlying78 info_int rfl (by omega) _ _ _ [] rfl (World.ownsRow_nil _ _ _ _) _ _ _ _ rfl hrd intsV_one M (intsV (from_ (gone + 1) M)) (by omega) rfl (by unfold maxLen; omega) (by omega) ?_
               intro A4 c4 w4 hown4 hb4 hg4 ho4
               have HX := Lib.hid (HX3.out.bel_ hb4)
               have HN := Lib.hid hown4.rd
               have hcell1 := (hb4.cell (p := ⟨ra, 1, none⟩) hra3).trans hcell1
               clear hg4 ho4 hb4 hown4 HX3))
          go_loop [7, 77] (fun v x => ∃ j : Nat, j ≤ M ∧ x = .int .i64 (j : Int) ∧ v = .int .i64 (gone + (j : Int))) (fun _ x => M - (intOf x).toNat)
          case atStart => exact ⟨0, by omega, rfl, by simp⟩
          case round =>
            obtain ⟨j, hj, rfl, rfl⟩ := hrel
            by_cases hjl : j < M
            · obtain ⟨adj, zj, hAj, hzj, hcellj⟩ := rd_ints_at HN.out hjl
              subst hAj
              have ezj := from_get hzj.out
              have ezj2 : (zj != gone + (j : Int) + 1) = false := by simp; omega
              have ezk := Lib.hid ezj
              clear hzj ezj
              go_wp2_with fail
              go_round
              case rel => exact ⟨j + 1, by omega, by go_num, by rw [show zj = gone + ((j + 1 : Nat) : Int) from by have := ezk.out; omega]⟩
              case measure => simp [intOf] <;> omega
            · obtain rfl : j = M := by omega
              obtain ⟨gz, hgz⟩ : ∃ gz, gone + (j : Int) = gz := ⟨_, rfl⟩
              rw [hgz] at hcntX ⊢
              clear hgz
              have q1 : ¬ (acked + win < gz) := by have := hcntX.a; have := hcntX.g; omega
              have q2 : ¬ (pushed < gz) := by have := hcntX.p; have := hcntX.g; omega
              have q3 : ((bsx.length : Int) != pushed - acked) = false := by have := hcntX.p; have := hcntX.a; simp; omega
              have hlX : bsx.length ≤ 1048576 := by have := hcntX.s; have := HX.out.f1; omega
              have b1 : 0 ≤ acked ∧ acked ≤ 100 := by have := hcntX.a; have := hcntX.s; have := HX.out.f1; omega
              have b2 : 0 ≤ pushed ∧ pushed ≤ 100 := by have := hcntX.p; have := hcntX.s; have := HX.out.f1; omega
              have HC := Lib.hid hcntX
              clear hcntX
              by_cases hlt3 : gz < pushed
              · have q4 : (gz != acked + win) = false := by have := HC.out.a; have := HC.out.p; have := HC.out.g; simp; omega
                go_wp2_with (first
                  | (go_at_call 49; (with_reducible refine (c_Len HX.out.o hwp hlX).mono ?_); rintro e w9 ⟨rfl, rfl⟩))
                go_roundw
                case rel => exact ⟨k + 1, fi, bsx, F, gz, _, _, by omega, by go_num, rfl, rfl, rfl, HX, HC⟩
                case measure => simp [intOf] <;> omega
              · go_wp2_with (first
                  | (go_at_call 49; (with_reducible refine (c_Len HX.out.o hwp hlX).mono ?_); rintro e w9 ⟨rfl, rfl⟩))
                go_roundw
                case rel => exact ⟨k + 1, fi, bsx, F, gz, _, _, by omega, by go_num, rfl, rfl, rfl, HX, HC⟩
                case measure => simp [intOf] <;> omega
      | false =>
        go_wp2_with fail
        generalize wr.alloc (.cells #[.bool false, .int .i64 num, .slice A' n' c'] 77) = W0 at *
        generalize wr.heap.size = ra at *
        clear e0 e1 e2 hcell1
        obtain ⟨ok, bsx, hk1, hk0, hcall⟩ := c_Push_cnt HT0.out HC0.out hwp hw2 (by omega) A' n' c' body Hb0.out hn'
        have HK := Lib.hid hcall
        clear hcall
        cases ok with
        | true =>
          obtain ⟨hpg, hcntX⟩ := hk1 rfl
          clear hk1 hk0
          obtain ⟨M, hM1⟩ : ∃ M : Nat, M = 1 := ⟨1, rfl⟩
          have hM : M ≤ 64 := by omega
          rw [show (gone + 1 : Int) = gone + (M : Int) from by rw [hM1]; rfl] at hcntX
          have HM := Lib.hid hM1
          have Hpg := Lib.hid hpg
          clear hM1 hpg
          go_wp2_with (first
            | (go_at_call 48
               (with_reducible refine HK.out.mono ?_)
               rintro e w3 ⟨rfl, F3, HX3, hfr3⟩
               have HX3 := Lib.hid HX3
               clear hfr3)
            | (at_builtin
               refine wpL_append _ rfl (.tmp 71) (.tmp 73) _ rfl w3 w3.heap.size (bel_alloc (Below.refl _ _) (Nat.le_refl _) _) (size_alloc_le (Nat.le_refl _) _) 3 _ 1 8 Try.underlying78 info_int rfl (by omega) _ _ _ [] rfl (World.ownsRow_nil _ _ _ _) _ _ _ _ rfl (rd_one _ _ _) (by simp [Value.oneCell']) M (intsV (from_ (gone + 1) M)) (by have := HM.out; omega) (by rw [HM.out, Hpg.out]; simp [from_, intsV]) (by unfold maxLen; omega) (by omega) ?_
               intro A4 c4 w4 hown4 hb4 hg4 ho4
               have HX := Lib.hid (HX3.out.bel_ hb4)
               have HN := Lib.hid hown4.rd
               clear hg4 ho4 hb4 hown4 HX3))
          go_loop [7, 77] (fun v x => ∃ j : Nat, j ≤ M ∧ x = .int .i64 (j : Int) ∧ v = .int .i64 (gone + (j : Int))) (fun _ x => M - (intOf x).toNat)
          case atStart => exact ⟨0, by omega, rfl, by simp⟩
          case round =>
            obtain ⟨j, hj, rfl, rfl⟩ := hrel
            by_cases hjl : j < M
            · obtain ⟨adj, zj, hAj, hzj, hcellj⟩ := rd_ints_at HN.out hjl
              subst hAj
              have ezj := from_get hzj.out
              have ezj2 : (zj != gone + (j : Int) + 1) = false := by simp; omega
              have ezk := Lib.hid ezj
              clear hzj ezj
              go_wp2_with fail
              go_round
              case rel => exact ⟨j + 1, by omega, by go_num, by rw [show zj = gone + ((j + 1 : Nat) : Int) from by have := ezk.out; omega]⟩
              case measure => simp [intOf] <;> omega
            · obtain rfl : j = M := by omega
              obtain ⟨gz, hgz⟩ : ∃ gz, gone + (j : Int) = gz := ⟨_, rfl⟩
              rw [hgz] at hcntX ⊢
              clear hgz
              have q1 : ¬ (acked + win < gz) := by have := hcntX.a; have := hcntX.g; omega
              have q2 : ¬ ((pushed + 1) < gz) := by have := hcntX.p; have := hcntX.g; omega
              have q3 : ((bsx.length : Int) != (pushed + 1) - acked) = false := by have := hcntX.p; have := hcntX.a; simp; omega
              have hlX : bsx.length ≤ 1048576 := by have := hcntX.s; have := HX.out.f1; omega
              have b1 : 0 ≤ acked ∧ acked ≤ 100 := by have := hcntX.a; have := hcntX.s; have := HX.out.f1; omega
              have b2 : 0 ≤ (pushed + 1) ∧ (pushed + 1) ≤ 100 := by have := hcntX.p; have := hcntX.s; have := HX.out.f1; omega
              have HC := Lib.hid hcntX
              clear hcntX
              by_cases hlt3 : gz < (pushed + 1)
              · have q4 : (gz != acked + win) = false := by have := HC.out.a; have := HC.out.p; have := HC.out.g; simp; omega
                go_wp2_with (first
                  | (go_at_call 49; (with_reducible refine (c_Len HX.out.o hwp hlX).mono ?_); rintro e w9 ⟨rfl, rfl⟩))
                go_roundw
                case rel => exact ⟨k + 1, first, bsx, F3, gz, _, _, by omega, by go_num, rfl, rfl, rfl, HX, HC⟩
                case measure => simp [intOf] <;> omega
              · go_wp2_with (first
                  | (go_at_call 49; (with_reducible refine (c_Len HX.out.o hwp hlX).mono ?_); rintro e w9 ⟨rfl, rfl⟩))
                go_roundw
                case rel => exact ⟨k + 1, first, bsx, F3, gz, _, _, by omega, by go_num, rfl, rfl, rfl, HX, HC⟩
                case measure => simp [intOf] <;> omega
        | false =>
          have hcntX := hk0 rfl
          clear hk1 hk0
          go_wp2_with (first
            | (go_at_call 48
               (with_reducible refine HK.out.mono ?_)
               rintro e w3 ⟨rfl, F3, HX3, hfr3⟩
               have HX := Lib.hid HX3
               clear hfr3 HX3))
          go_loop [7, 77] (fun v x => x = .int .i64 0 ∧ v = .int .i64 gone) (fun _ x => 0)
          case atStart => exact ⟨rfl, rfl⟩
          case round =>
            obtain ⟨rfl, rfl⟩ := hrel
            obtain ⟨gz, hgz⟩ : ∃ gz, gone = gz := ⟨_, rfl⟩
            rw [hgz] at hcntX ⊢
            clear hgz
            have q1 : ¬ (acked + win < gz) := by have := hcntX.a; have := hcntX.g; omega
            have q2 : ¬ ((pushed + 1) < gz) := by have := hcntX.p; have := hcntX.g; omega
            have q3 : ((bsx.length : Int) != (pushed + 1) - acked) = false := by have := hcntX.p; have := hcntX.a; simp; omega
            have hlX : bsx.length ≤ 1048576 := by have := hcntX.s; have := HX.out.f1; omega
            have b1 : 0 ≤ acked ∧ acked ≤ 100 := by have := hcntX.a; have := hcntX.s; have := HX.out.f1; omega
            have b2 : 0 ≤ (pushed + 1) ∧ (pushed + 1) ≤ 100 := by have := hcntX.p; have := hcntX.s; have := HX.out.f1; omega
            have HC := Lib.hid hcntX
            clear hcntX
            by_cases hlt3 : gz < (pushed + 1)
            · have q4 : (gz != acked + win) = false := by have := HC.out.a; have := HC.out.p; have := HC.out.g; simp; omega
              go_wp2_with (first
                | (go_at_call 49; (with_reducible refine (c_Len HX.out.o hwp hlX).mono ?_); rintro e w9 ⟨rfl, rfl⟩))
              go_roundw
              case rel => exact ⟨k + 1, first, bsx, F3, gz, _, _, by omega, by go_num, rfl, rfl, rfl, HX, HC⟩
              case measure => simp [intOf] <;> omega
            · go_wp2_with (first
                | (go_at_call 49; (with_reducible refine (c_Len HX.out.o hwp hlX).mono ?_); rintro e w9 ⟨rfl, rfl⟩))
              go_roundw
              case rel => exact ⟨k + 1, first, bsx, F3, gz, _, _, by omega, by go_num, rfl, rfl, rfl, HX, HC⟩
              case measure => simp [intOf] <;> omega
    · obtain rfl : k = n := by omega
      go_wp2_with (first
        | (go_at_call 46; (with_reducible refine (c_live _).mono ?_); rintro e w2 ⟨rfl, hb2⟩))
      go_ret
      exact ⟨rfl, bel_live HT.out.bel hb2⟩
end Go.Proofs.Ytlfphoablloodaa.Outbox
