/- The play of the laws on disks; the law DiskFuse, walked. Conditions: none. -/
import Derived.Test.YtplemdgihlabgaaDisk9
import Derived.IntWalk
set_option linter.unusedVariables false
set_option linter.unusedSimpArgs false
namespace Go.Proofs.Ytplemdgihlabgaa.Disk
open Go.RowKit Tw Go.Maps Go.ChangeMaps
set_option maxHeartbeats 4000000
set_option maxRecDepth 100000

theorem Dk.fresh {w0 w w' : World} {p g mb : Nat} (h : w0.heap.size ≤ p ∧ w0.heap.size ≤ g ∧ w0.heap.size ≤ mb) (hB : Below w0.heap.size w0 w) (f : Fr (fun k => k = p ∨ k = g ∨ k = mb) w w') : Below w0.heap.size w0 w' :=
  hB.trans (f.bel (fun k e => by omega) hB.size)
theorem c_dNewI (X : Int) (n : Nat) (hX : X = (n : Int)) (w : World) (h1 : 1 ≤ n) (h2 : n ≤ 1024) :
    Calls Try.prog 27 #[.int .i64 X] w fun e w' => ∃ p g mb, e = .returned (.tuple #[.pointer (some ⟨p, 0, none⟩), .int .i64 0]) ∧ Dk w' p g mb n (Dsk.new n) ∧ (w.heap.size ≤ p ∧ w.heap.size ≤ g ∧ w.heap.size ≤ mb) ∧ Below w.heap.size w w' := by
  subst hX
  exact c_dNew n w h1 h2
theorem c_CrashI {w : World} {p g mb c : Nat} {d : Dsk} (h : Dk w p g mb c d) (X : Int) (mask : Nat) (hX : X = (mask : Int)) (hmask : mask < 18446744073709551616) : Calls Try.prog 16 #[.pointer (some ⟨p, 0, none⟩), .int .u64 X] w fun e w' => e = .returned (.tuple #[]) ∧ Dk w' p g mb c (d.crash mask) ∧ Fr (fun k => k = p ∨ k = g ∨ k = mb) w w' := by
  subst hX
  exact c_Crash h mask hmask
def live2 : Dsk := (((Dsk.new 8).write 3 (sec1 7)).1.write 5 (sec1 8)).1
theorem live_facts : ((Dsk.new 8).write 3 (sec1 7)).2 = 0 ∧ (((Dsk.new 8).write 3 (sec1 7)).1.write 5 (sec1 8)).2 = 0 ∧ ((Dsk.new 8).write 3 (sec1 7)).1.ops < 1000000000 ∧ (live2.crash 2).durableAt 5 = sec1 8 ∧ (live2.crash 2).durableAt 3 = zs ∧ (live2.crash 2).cached = [] ∧ (live2.crash 2).ops = 2 := by decide +kernel
theorem eq8 (w : World) : (binOp .eql 23 (secVal 8) (secVal 8)).run Try.prog w = .ok (.bool true) w := by kernel_rfl
theorem eq0 (w : World) : (binOp .eql 23 (secVal 0) (secVal 0)).run Try.prog w = .ok (.bool true) w := by kernel_rfl
theorem zs_val : secV zs = secVal 0 := sec1_val 0 0 rfl
theorem c_lives (w : World) : Calls Try.prog 26 #[] w fun e w' => e = .returned (.bool true) ∧ Below w.heap.size w w' := by
  obtain ⟨t1, t2, t3, t4, t5, t6, t7⟩ := live_facts
  obtain ⟨⟨d1, e1⟩, h1⟩ : ∃ r, (Dsk.new 8).write 3 (sec1 7) = r := ⟨_, rfl⟩
  unfold live2 at t4 t5 t6 t7
  rw [h1] at t1 t2 t3 t4 t5 t6 t7
  simp only at t1 t3
  obtain ⟨⟨d2, e2⟩, h2⟩ : ∃ r, d1.write 5 (sec1 8) = r := ⟨_, rfl⟩
  rw [h2] at t2 t4 t5 t6 t7
  simp only at t2 t4 t5 t6 t7
  subst t1 t2
  have H1 := Lib.hid h1
  have H2 := Lib.hid h2
  have H3 := Lib.hid t3
  have H4 := Lib.hid t4
  have H5 := Lib.hid t5
  have H6 := Lib.hid t6
  have H7 := Lib.hid t7
  have q8 := eq8
  have q0 := eq0
  unfold secVal at q8 q0
  clear h1 h2 t3 t4 t5 t6 t7
  go_enter Try.func26, Try.ntmps26
  go_wp2_with (first
    | (go_at_call 27
       (with_reducible refine (c_dNewI 8 8 rfl _ (by omega) (by omega)).mono ?_)
       rintro e w1 ⟨p, g, mb, rfl, hk, hge, hb1⟩
       have HB := Lib.hid hb1
       have HK := Lib.hid hk
       have HG := Lib.hid hge
       clear hb1 hk hge)
    | (go_at_call 17
       refine (c_dWrite1 HK.out (by decide) 3 (by omega) 7 7 rfl _ 0 H1.out).mono ?_
       rintro e w2 ⟨rfl, hk2, f2⟩
       have HB := Lib.hid (Dk.fresh HG.out HB.out f2)
       have HK2 := Lib.hid hk2
       clear hk2 f2 H1 HK)
    | (go_at_call 17
       refine (c_dWrite1 HK2.out H3.out 5 (by omega) 8 8 rfl _ 0 H2.out).mono ?_
       rintro e w3 ⟨rfl, hk3, f3⟩
       have HB := Lib.hid (Dk.fresh HG.out HB.out f3)
       have HK3 := Lib.hid hk3
       clear hk3 f3 H2 HK2)
    | (go_at_call 16
       (with_reducible refine (c_CrashI HK3.out 2 2 rfl (by omega)).mono ?_)
       rintro e w4 ⟨rfl, hk4, f4⟩
       have HB := Lib.hid (Dk.fresh HG.out HB.out f4)
       have HK4 := Lib.hid hk4
       clear hk4 f4 HK3)
    | (go_at_call 24
       (with_reducible refine (c_Durable HK4.out 5).mono ?_)
       rintro e w5 ⟨rfl, hb5⟩
       rw [H4.out, sec1_val 8 8 rfl]
       unfold secVal
       have HB5 := Lib.hid (HB.out.trans (hb5.mono HB.out.size))
       have HK5 := Lib.hid (HK4.out.bel hb5)
       clear hb5 HK4 H4)
    | (go_at_call 24
       (with_reducible refine (c_Durable HK5.out 3).mono ?_)
       rintro e w6 ⟨rfl, hb6⟩
       rw [H5.out, zs_val]
       unfold secVal
       have HB6 := Lib.hid (HB5.out.trans (hb6.mono HB5.out.size))
       have HK6 := Lib.hid (HK5.out.bel hb6)
       clear hb6 HK5 H5)
    | (go_at_call 23
       refine (c_Cached HK6.out).mono ?_
       rintro e w7 ⟨A7, c7, rfl, _, hb7⟩
       rw [H6.out]
       have HB7 := Lib.hid (HB6.out.trans (hb7.mono HB6.out.size))
       have HK7 := Lib.hid (HK6.out.bel hb7)
       clear hb7 HK6 H6)
    | (go_at_call 22
       (with_reducible refine (c_Ops HK7.out).mono ?_)
       rintro e w' ⟨rfl, rfl⟩
       rw [H7.out]))
  go_ret
  exact ⟨rfl, HB7.out⟩
end Go.Proofs.Ytplemdgihlabgaa.Disk
