/- The laws SlotsPlaces and SlotsNone, walked. Conditions: none. -/
import Derived.Test.YtpbcmghfhflkbaaSlots4
set_option linter.unusedVariables false
set_option linter.unusedSimpArgs false
namespace Go.Proofs.Ytpbcmghfhflkbaa.Slots
open Go.RowKit Tw Disk
set_option maxHeartbeats 4000000
set_option maxRecDepth 100000
theorem c_dNewI' (X : Int) (n : Nat) (hX : X = (n : Int)) (w : World) (h1 : 1 ≤ n) (h2 : n ≤ 1024) :
    Calls Try.prog 16 #[.int .i64 X] w fun e w' => ∃ p g mb, e = .returned (.tuple #[.pointer (some ⟨p, 0, none⟩), .int .i64 0]) ∧ Dk w' p g mb n (Dsk.new n) ∧ (w.heap.size ≤ p ∧ w.heap.size ≤ g ∧ w.heap.size ≤ mb) ∧ Below w.heap.size w w' := by
  subst hX
  exact c_dNew n w h1 h2
theorem c_PutI {w : World} {p g mb c : Nat} {d d' : Dsk} (h : Dk w p g mb c d) (ho : d.ops + 1 < 1000000000) (b s : Int) (X : Int) (x : Nat) (hX : X = (x : Int)) (hx : x < 18446744073709551616) (e : Nat) (hs : sput d b s x = (d', e)) :
    Calls Try.prog 18 #[.pointer (some ⟨p, 0, none⟩), .int .i64 b, .int .i64 s, .int .u64 X] w fun e' w' => e' = .returned (.int .i64 (e : Int)) ∧ Dk w' p g mb c d' ∧ Fr (fun k => k = p ∨ k = g ∨ k = mb) w w' := by
  subst hX
  have h1 := c_Put h ho b s x hx
  rw [hs] at h1
  exact h1
theorem c_PlaceI (b s X : Int) (n : Nat) (hX : X = (n : Int)) (w : World) (hn : n < 4294967296) (r : Int) (hr : (if RingOk b s then place b s n else 0) = r) :
    Calls Try.prog 89 #[.int .u32 X, .int .i64 b, .int .i64 s] w fun e w' => e = .returned (.int .i64 r) ∧ Below w.heap.size w w' := by
  subst hX hr
  exact c_Place b s n w hn
theorem Dk.fresh {w0 w w' : World} {p g mb : Nat} (h : w0.heap.size ≤ p ∧ w0.heap.size ≤ g ∧ w0.heap.size ≤ mb) (hB : Below w0.heap.size w0 w) (f : Fr (fun k => k = p ∨ k = g ∨ k = mb) w w') : Below w0.heap.size w0 w' :=
  hB.trans (f.bel (fun k e => by omega) hB.size)
theorem c_lives (w : World) : Calls Try.prog 15 #[] w fun e w' => e = .returned (.bool true) ∧ Below w.heap.size w w' := by
  obtain ⟨t1, t2, t3⟩ := two_puts
  have t4 : (sput (Dsk.new 4) 1 2 7).1.ops + 1 < 1000000000 := by decide +kernel
  obtain ⟨⟨d1, e1⟩, h1⟩ : ∃ r, sput (Dsk.new 4) 1 2 7 = r := ⟨_, rfl⟩
  rw [h1] at t1 t2 t3 t4
  simp only at t1 t4
  obtain ⟨⟨d2, e2⟩, h2⟩ : ∃ r, sput d1 1 2 9 = r := ⟨_, rfl⟩
  rw [h2] at t2 t3
  simp only at t2 t3
  subst t1 t2
  have H1 := Lib.hid h1
  have H2 := Lib.hid h2
  have H3 := Lib.hid t3
  have H4 := Lib.hid t4
  clear h1 h2 t3 t4
  go_enter Try.func15, Try.ntmps15
  go_wp2_with (first
    | (go_at_call 16
       (with_reducible refine (c_dNewI' 4 4 rfl _ (by omega) (by omega)).mono ?_)
       rintro e w1 ⟨p, g, mb, rfl, hk, hge, hb1⟩
       have HB := Lib.hid hb1
       have HK := Lib.hid hk
       have HG := Lib.hid hge
       clear hb1 hk hge)
    | (go_at_call 18
       (with_reducible refine (c_PutI HK.out (by decide) 1 2 7 7 rfl (by omega) 0 H1.out).mono ?_)
       rintro e w2 ⟨rfl, hk2, f2⟩
       have HB := Lib.hid (Dk.fresh HG.out HB.out f2)
       have HK2 := Lib.hid hk2
       clear hk2 f2 H1 HK)
    | (go_at_call 18
       (with_reducible refine (c_PutI HK2.out H4.out 1 2 9 9 rfl (by omega) 0 H2.out).mono ?_)
       rintro e w3 ⟨rfl, hk3, f3⟩
       have HB := Lib.hid (Dk.fresh HG.out HB.out f3)
       have HK3 := Lib.hid hk3
       clear hk3 f3 H2 HK2)
    | (go_at_call 26
       (with_reducible refine (c_Latest HK3.out 1 2).mono ?_)
       rintro e w4 ⟨rfl, hb4⟩
       rw [H3.out]
       have HB4 := Lib.hid (HB.out.trans (hb4.mono HB.out.size))
       clear hb4 H3)
    | (go_at_call 89
       (with_reducible refine (c_PlaceI 1 2 2 2 rfl _ (by omega) 1 (by decide)).mono ?_)
       rintro e w5 ⟨rfl, hb5⟩
       have HB5 := Lib.hid (HB4.out.trans (hb5.mono HB4.out.size))
       clear hb5))
  go_ret
  exact ⟨rfl, HB5.out⟩
end Go.Proofs.Ytpbcmghfhflkbaa.Slots
