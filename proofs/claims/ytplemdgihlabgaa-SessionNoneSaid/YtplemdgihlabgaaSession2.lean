/- Contracts of the packages keep, outbox, inbox, session: New. Conditions: none. -/
import Derived.Test.YtplemdgihlabgaaSession
set_option linter.unusedVariables false
set_option linter.unusedSimpArgs false
namespace Go.Proofs.Ytplemdgihlabgaa.Session
open Go.RowKit Tw Bx
set_option maxHeartbeats 2000000
set_option maxRecDepth 100000
theorem c_kNew (n : Int) (hn : 1 ≤ n ∧ n ≤ 100) (w : World) : Calls Try.prog 121 #[.int .i64 n] w fun e w' => e = .returned (.tuple #[.pointer (some ⟨w.heap.size, 0, none⟩), .int .i64 0]) ∧ w' = w.alloc (.cells #[.int .i64 n, .int .i64 0] 255) := by
  go_enter Try.func121, Try.ntmps121
  go_wp2_with fail
  go_ret2
  exact ⟨rfl, rfl⟩
theorem c_oNew (n : Int) (hn : 1 ≤ n ∧ n ≤ 64) (w : World) : Calls Try.prog 171 #[.int .i64 n] w fun e w' => e = .returned (.tuple #[.pointer (some ⟨w.heap.size, 0, none⟩), .int .i64 0]) ∧ Below w.heap.size w w' := by
  go_enter Try.func171, Try.ntmps171
  go_wp2_with fail
  go_ret2
  exact ⟨rfl, (Below.refl _ _).alloc (Nat.le_refl _) _⟩
theorem c_iNew (w : World) : Calls Try.prog 172 #[] w fun e w' => e = .returned (.pointer (some ⟨w.heap.size, 0, none⟩)) ∧ w' = w.alloc (.cells #[.bool true, .int .i64 0] 292) := by
  go_enter Try.func172, Try.ntmps172
  go_wp2_with fail
  go_ret
  exact ⟨rfl, rfl⟩
/-- an inbox of which nothing was taken -/
def In0 (w : World) (ib : Nat) : Prop := w.heap[ib]? = some (.cells #[.bool true, .int .i64 0] 292 (0, 0))
theorem c_fresh (n : Int) (hn : 1 ≤ n ∧ n ≤ 64) (w : World) : Calls Try.prog 120 #[.int .i64 n] w fun e w' => (∃ ob ib : Nat, e = .returned (.tuple #[.agg #[.pointer (some ⟨ob, 0, none⟩), .pointer (some ⟨ib, 0, none⟩)], .int .i64 0]) ∧ In0 w' ib ∧ w.heap.size ≤ ib ∧ ib < w'.heap.size) ∧ Below w.heap.size w w' := by
  have HX := Lib.hid (heap_alloc_new w (.cells #[.pointer none, .pointer none] 99))
  have HB := Lib.hid ((Below.refl w.heap.size w).alloc (Nat.le_refl _) (.cells #[.pointer none, .pointer none] 99))
  go_enter Try.func120, Try.ntmps120
  go_wp2_with (first
    | (go_at_call 171
       (with_reducible refine (c_oNew n hn _).mono ?_)
       rintro e w1 ⟨rfl, hb1⟩
       have HX := Lib.hid ((hb1.block _ (heap_lt HX.out)).trans HX.out)
       have HB := Lib.hid (HB.out.trans (hb1.mono HB.out.size))
       clear hb1)
    | (go_at_call 172
       (with_reducible refine (c_iNew _).mono ?_)
       rintro e w2 ⟨rfl, hw2⟩
       have hi : In0 w2 w1.heap.size := by rw [hw2]; exact heap_alloc_new _ _
       have hb2 : Below w1.heap.size w1 w2 := by rw [hw2]; exact (Below.refl _ _).alloc (Nat.le_refl _) _
       have HI := Lib.hid hi
       have HX2 := Lib.hid ((hb2.block _ (heap_lt HX.out)).trans HX.out)
       have HS := Lib.hid (And.intro (heap_lt HX.out) HB.out.size)
       have HB := Lib.hid (HB.out.trans (hb2.mono HB.out.size))
       clear hw2 hi hb2 HX)
    | (refine wpL_store_all rfl rfl 99 (.tmp 2) (.tmp 13) rfl _ rfl _ rfl _ _ HX2.out (by kernel_rfl) rfl (by simp [Value.oneCell']) ?_
       intro w8 x8 g8
       have HX8 := Lib.hid x8
       have HB8 := Lib.hid (HB.out.grown g8 HB.out.size (by rintro k ⟨⟩; exact Nat.le_refl _))
       have HI8 : Hid (In0 w8 w1.heap.size) := Lib.hid (heap_grown HI.out g8 (by have := HS.out; simp; omega))
       clear x8 g8))
  refine bodyPost_ret (results_cell2 rfl _ _ w.heap.size _ _ (0, 0) _ rfl HX8.out Try.underlying99 rfl (by kernel_rfl) _ rfl) rfl ?_
  exact ⟨⟨_, _, rfl, HI8.out, HS.out.2, heap_lt HI8.out⟩, HB8.out⟩
/-- a session that nothing was sent with -/
structure Se (w : World) (S ob ib kp : Nat) (my peer win lim miss : Int) : Prop where
  blk : w.heap[S]? = some (.cells #[.int .u32 my, .int .u32 peer, .int .i64 win, .pointer (some ⟨ob, 0, none⟩), .pointer (some ⟨ib, 0, none⟩), .pointer (some ⟨kp, 0, none⟩)] 102 (0, 0))
  inb : In0 w ib
  kee : w.heap[kp]? = some (.cells #[.int .i64 lim, .int .i64 miss] 255 (0, 0))
  ne : S ≠ ib ∧ S ≠ kp ∧ ib ≠ kp
theorem Se.bel {w w' : World} {S ob ib kp : Nat} {my peer win lim miss : Int} (h : Se w S ob ib kp my peer win lim miss) (hb : Below w.heap.size w w') : Se w' S ob ib kp my peer win lim miss :=
  ⟨(hb.block _ (heap_lt h.blk)).trans h.blk, (hb.block _ (heap_lt h.inb)).trans h.inb, (hb.block _ (heap_lt h.kee)).trans h.kee, h.ne⟩
theorem c_New (my win lim : Int) (hm : 0 < my ∧ my < 4294967296) (hw : 1 ≤ win ∧ win ≤ 64) (hl : 1 ≤ lim ∧ lim ≤ 100) (w : World) :
    Calls Try.prog 56 #[.int .u32 my, .int .i64 win, .int .i64 lim] w fun e w' => (∃ S ob ib kp, e = .returned (.tuple #[.pointer (some ⟨S, 0, none⟩), .int .i64 0]) ∧ Se w' S ob ib kp my 0 win lim 0 ∧ w.heap.size ≤ S ∧ w.heap.size ≤ ib ∧ w.heap.size ≤ kp) ∧ Below w.heap.size w w' := by
  have hmy : (my == 0) = false := by simp; omega
  go_enter Try.func56, Try.ntmps56
  go_wp2_with (first
    | (go_at_call 120
       (with_reducible refine (c_fresh win hw _).mono ?_)
       rintro e w1 ⟨⟨ob, ib, rfl, hi, hi2, hi3⟩, hb1⟩
       have HI := Lib.hid hi
       have HI2 := Lib.hid hi2
       have HB := Lib.hid hb1
       have HX := Lib.hid (heap_alloc_new w1 (.cells #[.pointer none, .pointer none] 99))
       have HXB := Lib.hid ((Below.refl w1.heap.size w1).alloc (Nat.le_refl _) (.cells #[.pointer none, .pointer none] 99))
       clear hi hb1 hi2)
    | (refine wpL_store_all rfl rfl 99 (.tmp 8) (.tmp 16) rfl _ rfl _ rfl _ _ HX.out (by kernel_rfl) rfl (by simp [Value.oneCell']) ?_
       intro w2 x2 g2
       have hb2 := HXB.out.grown g2 HXB.out.size (by rintro k ⟨⟩; exact Nat.le_refl _)
       have HX2 := Lib.hid x2
       have HI := Lib.hid ((hb2.block _ (heap_lt HI.out)).trans HI.out)
       have HB := Lib.hid (HB.out.trans (hb2.mono HB.out.size))
       clear x2 g2 hb2 HX HXB)
    | (go_at_call 121
       (with_reducible refine (c_kNew lim hl _).mono ?_)
       rintro e w3 ⟨rfl, hw3⟩
       have hk : w3.heap[w2.heap.size]? = some (.cells #[.int .i64 lim, .int .i64 0] 255 (0, 0)) := by rw [hw3]; exact heap_alloc_new _ _
       have hb3 : Below w2.heap.size w2 w3 := by rw [hw3]; exact (Below.refl _ _).alloc (Nat.le_refl _) _
       have HK := Lib.hid hk
       have hx3 := (hb3.block _ (heap_lt HX2.out)).trans HX2.out
       have q0 : w3.cell? ⟨w1.heap.size, 0, none⟩ = some (.pointer (some ⟨ob, 0, none⟩)) := by simp [World.cell?, hx3]
       have q1 : w3.cell? ⟨w1.heap.size, 1, none⟩ = some (.pointer (some ⟨ib, 0, none⟩)) := by simp [World.cell?, hx3]
       have HN := Lib.hid (And.intro (heap_lt HI.out) HB.out.size)
       have HI := Lib.hid ((hb3.block _ (heap_lt HI.out)).trans HI.out)
       have HB := Lib.hid (HB.out.trans (hb3.mono HB.out.size))
       clear hw3 hk hb3 hx3))
  go_ret2
  have hS := heap_alloc_new w3 (.cells #[.int .u32 my, .int .u32 0, .int .i64 win, .pointer (some ⟨ob, 0, none⟩), .pointer (some ⟨ib, 0, none⟩), .pointer (some ⟨w2.heap.size, 0, none⟩)] 102)
  have hbS := (Below.refl w3.heap.size w3).alloc (Nat.le_refl _) (.cells #[.int .u32 my, .int .u32 0, .int .i64 win, .pointer (some ⟨ob, 0, none⟩), .pointer (some ⟨ib, 0, none⟩), .pointer (some ⟨w2.heap.size, 0, none⟩)] 102)
  have l1 := heap_lt HI.out
  have l2 := heap_lt HK.out
  have l3 := HN.out
  have l4 := HI2.out
  have l5 := HB.out.size
  exact ⟨⟨w3.heap.size, ob, ib, w2.heap.size, rfl, ⟨hS, (hbS.block _ l1).trans HI.out, (hbS.block _ l2).trans HK.out, by omega⟩, l5, l4, l3.2⟩, HB.out.trans (hbS.mono l5)⟩
end Go.Proofs.Ytplemdgihlabgaa.Session
