/- The law DiskFuse, walked. Conditions: none. -/
import Derived.Test.YtplemdgihlabgaaDiskLive
set_option linter.unusedVariables false
set_option linter.unusedSimpArgs false
namespace Go.Proofs.Ytplemdgihlabgaa.Disk
open Go.RowKit Tw Go.Maps Go.ChangeMaps
set_option maxHeartbeats 4000000
set_option maxRecDepth 100000

/-- what the play knows of its disk -/
structure FI (d : Dsk) (f : Int) (b : Bool) (o : Nat) : Prop where
  len : d.cells.length = 4
  fuse : d.fuse = f
  broken : d.broken = b
  ops : d.ops = o
theorem fi_spend {d : Dsk} {f : Int} {o : Nat} (h : FI d f false o) (hf : 0 < f) : d.spend.2 = 0 ∧ FI d.spend.1 (f - 1) false (o + 1) := by
  obtain ⟨h1, h2, h3, h4⟩ := h
  have hb : d.burn = d := by unfold Dsk.burn; rw [if_neg (by omega)]
  have hs : d.spend = ({ d with fuse := d.fuse - 1, ops := d.ops + 1 }, 0) := by
    unfold Dsk.spend
    rw [hb, h3, if_neg (by simp), if_pos (by omega)]
  rw [hs]
  exact ⟨rfl, h1, by simp only; omega, h3, by simp only; omega⟩
theorem fi_spend0 {d : Dsk} {b : Bool} {o : Nat} (h : FI d 0 b o) : d.spend.2 = 3 ∧ FI d.spend.1 0 true o := by
  obtain ⟨h1, h2, h3, h4⟩ := h
  have hs : d.spend = ({ d with broken := true }, 3) := by
    unfold Dsk.spend Dsk.burn
    rw [if_pos h2, if_pos rfl]
  rw [hs]
  exact ⟨rfl, h1, h2, rfl, h4⟩
theorem fi_write {d : Dsk} {f : Int} {o : Nat} (h : FI d f false o) (hf : 0 < f) (x : Int) (hx : 0 ≤ x ∧ x < 4) (s : Sec) : ∃ d', d.write x s = (d', 0) ∧ FI d' (f - 1) false (o + 1) := by
  obtain ⟨h1, h2⟩ := fi_spend h hf
  refine ⟨d.spend.1.put x s, ?_, ?_⟩
  · unfold Dsk.write
    rw [if_pos ((has_iff d x).2 (by rw [h.len]; omega)), if_pos h1]
  · exact ⟨by simp [Dsk.put, h2.len], h2.fuse, h2.broken, h2.ops⟩
theorem fi_write0 {d : Dsk} {b : Bool} {o : Nat} (h : FI d 0 b o) (s : Sec) : ∃ d', d.write 0 s = (d', 3) ∧ FI d' 0 true o := by
  obtain ⟨h1, h2⟩ := fi_spend0 h
  refine ⟨d.spend.1, ?_, h2⟩
  unfold Dsk.write
  rw [if_pos ((has_iff d 0).2 (by rw [h.len]; omega)), h1, if_neg (by omega)]
  rw [← h1]
theorem fi_flush {d : Dsk} {f : Int} {o : Nat} (h : FI d f false o) (hf : 0 < f) : ∃ d', d.flush = (d', 0) ∧ FI d' (f - 1) false (o + 1) := by
  obtain ⟨h1, h2⟩ := fi_spend h hf
  refine ⟨d.spend.1.allSafe, ?_, ?_⟩
  · unfold Dsk.flush
    rw [if_pos h1]
  · exact ⟨by simp [Dsk.allSafe, h2.len], h2.fuse, h2.broken, h2.ops⟩
theorem fi_flush0 {d : Dsk} {b : Bool} {o : Nat} (h : FI d 0 b o) : ∃ d', d.flush = (d', 3) ∧ FI d' 0 true o := by
  obtain ⟨h1, h2⟩ := fi_spend0 h
  refine ⟨d.spend.1, ?_, h2⟩
  unfold Dsk.flush
  rw [h1, if_neg (by omega)]
  rw [← h1]
theorem fi_start (k : Nat) : FI ((Dsk.new 4).setFuse (k : Int)) k false 0 := ⟨by simp [Dsk.setFuse, Dsk.new], by simp only [Dsk.setFuse]; omega, rfl, rfl⟩
theorem fi_crash {d : Dsk} {o : Nat} (h : FI d 0 true o) (mask : Nat) : FI (d.crash mask) (-1) false o := ⟨by simp only [Dsk.crash, keep_len]; exact h.len, rfl, rfl, h.ops⟩
theorem fi_read0 {d : Dsk} {o : Nat} (h : FI d 0 true o) : (d.read 0).2 = 3 := by
  unfold Dsk.read
  rw [if_pos ((has_iff d 0).2 (by rw [h.len]; omega)), h.broken]
  rfl
theorem fi_read1 {d : Dsk} {o : Nat} {f : Int} (h : FI d f false o) : (d.read 0).2 = 0 := by
  unfold Dsk.read
  rw [if_pos ((has_iff d 0).2 (by rw [h.len]; omega)), h.broken]
  rfl
section
variable {w : World} {p g mb c : Nat} {d : Dsk}
theorem c_FlushE (h : Dk w p g mb c d) (ho : d.ops < 1000000000) (d' : Dsk) (e : Nat) (hd : d.flush = (d', e)) : Calls Try.prog 18 #[.pointer (some ⟨p, 0, none⟩)] w fun e' w' => e' = .returned (.int .i64 (e : Int)) ∧ Dk w' p g mb c d' ∧ Fr (fun k => k = p ∨ k = g ∨ k = mb) w w' := by
  have h1 := c_Flush h ho
  rw [hd] at h1
  exact h1
theorem c_ReadE (h : Dk w p g mb c d) (x : Int) (hx : -9223372036854775808 ≤ x ∧ x ≤ 9223372036854775807) (e : Nat) (he : (d.read x).2 = e) : Calls Try.prog 14 #[.pointer (some ⟨p, 0, none⟩), .int .i64 x] w fun e' w' => ∃ s : Sec, s.length = 16 ∧ e' = .returned (.tuple #[secV s, .int .i64 (e : Int)]) ∧ Below w.heap.size w w' := by
  subst he
  exact (c_dRead h x hx).mono fun e' w' ⟨h1, h2⟩ => ⟨_, read_len h.ok x, h1, h2⟩
end
theorem w_DiskFuse (k m : Int) (w : World) (hk : -9223372036854775808 ≤ k ∧ k ≤ 9223372036854775807) (hm : -9223372036854775808 ≤ m ∧ m ≤ 9223372036854775807) :
    Calls Try.prog 5 #[.int .i64 k, .int .i64 m] w fun e w' => e = .returned (.bool true) ∧ Below w.heap.size w w' := by
  by_cases hg : 0 ≤ k ∧ k ≤ 40 ∧ 1 ≤ m ∧ m ≤ 10
  · obtain ⟨k, rfl⟩ : ∃ q : Nat, k = (q : Int) := ⟨k.toNat, by omega⟩
    obtain ⟨m, rfl⟩ : ∃ q : Nat, m = (q : Int) := ⟨m.toNat, by omega⟩
    go_enter Try.func5, Try.ntmps5
    go_wp2_with (first
      | (go_at_call 27
         (with_reducible refine (c_dNewI 4 4 rfl _ (by omega) (by omega)).mono ?_)
         rintro e w1 ⟨p, g, mb, rfl, hk1, hge, hb1⟩
         have HB := Lib.hid hb1
         have HK := Lib.hid hk1
         have HG := Lib.hid hge
         clear hb1 hk1 hge)
      | (go_at_call 15
         (with_reducible refine (c_FuseD HK.out (k : Int) (by omega)).mono ?_)
         rintro e w2 ⟨rfl, hk2, f2⟩
         have HB2 := Lib.hid (Dk.fresh HG.out HB.out (f2.mono (fun k _ e => .inl e)))
         have HK2 := Lib.hid hk2
         clear hk2 f2 HK HB))
    have HI := Lib.hid (fi_start k)
    generalize (Dsk.new 4).setFuse (k : Int) = d0 at *
    go_loopw [7] (fun v wr => ∃ (i : Nat) (d : Dsk), i ≤ k ∧ v = .int .i64 (i : Int) ∧ Hid (Dk wr p g mb 4 d) ∧ Hid (FI d ((k : Int) - (i : Int)) false i) ∧ Hid (Below w.heap.size w wr)) (fun v _ => k - (intOf v).toNat)
    case atStart => exact ⟨0, d0, Nat.zero_le _, rfl, HK2, by simpa using HI, HB2⟩
    case round =>
      clear HK2 HI HB2
      obtain ⟨i, d, hi, rfl, HK, HI, HB⟩ := hrel
      by_cases hik : i < k
      · by_cases h3 : i % 3 = 2
        · obtain ⟨d', hd', hI'⟩ := fi_flush HI.out (by omega)
          have Hd := Lib.hid hd'
          have HI2 := Lib.hid hI'
          have ho : Hid (d.ops < 1000000000) := Lib.hid (by rw [HI.out.ops]; omega)
          clear hd' hI'
          go_wp2_with (first
            | (go_at_call 18
               (with_reducible refine (c_FlushE HK.out ho.out _ 0 Hd.out).mono ?_)
               rintro e w3 ⟨rfl, hk3, f3⟩
               have HB3 := Lib.hid (Dk.fresh HG.out HB.out f3)
               have HK3 := Lib.hid hk3
               clear hk3 f3))
          go_roundw
          case rel => exact ⟨i + 1, d', by omega, by go_num, HK3, Lib.hid (by have := HI2.out; rw [show (k : Int) - ((i + 1 : Nat) : Int) = (k : Int) - (i : Int) - 1 by omega]; exact this), HB3⟩
          case measure => simp [intOf] <;> omega
        · obtain ⟨d', hd', hI'⟩ := fi_write HI.out (by omega) ((i : Int) % 4) (by omega) (sec1 (UInt8.ofNat i))
          have Hd := Lib.hid hd'
          have HI2 := Lib.hid hI'
          have ho : Hid (d.ops < 1000000000) := Lib.hid (by rw [HI.out.ops]; omega)
          clear hd' hI'
          go_wp2_with (first
            | (go_at_call 17
               refine (c_dWrite1 HK.out ho.out _ (by omega) (UInt8.ofNat i) _ (by simp; omega) _ 0 Hd.out).mono ?_
               rintro e w3 ⟨rfl, hk3, f3⟩
               have HB3 := Lib.hid (Dk.fresh HG.out HB.out f3)
               have HK3 := Lib.hid hk3
               clear hk3 f3))
          go_roundw
          case rel => exact ⟨i + 1, d', by omega, by go_num, HK3, Lib.hid (by have := HI2.out; rw [show (k : Int) - ((i + 1 : Nat) : Int) = (k : Int) - (i : Int) - 1 by omega]; exact this), HB3⟩
          case measure => simp [intOf] <;> omega
      · obtain rfl : i = k := by omega
        have HI2 : Hid (FI d 0 false i) := Lib.hid (by have := HI.out; rwa [Int.sub_self] at this)
        have hops := Lib.hid HI2.out.ops
        have hbr := Lib.hid HI2.out.broken
        clear HI
        go_wp2_with (first
          | (go_at_call 20
             (with_reducible refine (c_Broken HK.out).mono ?_)
             rintro e w' ⟨rfl, rfl⟩
             rw [hbr.out])
          | (go_at_call 22
             (with_reducible refine (c_Ops HK.out).mono ?_)
             rintro e w' ⟨rfl, rfl⟩
             rw [hops.out]))
        go_loopw [8] (fun v wr => ∃ (j : Nat) (d : Dsk), j ≤ m ∧ v = .int .i64 (j : Int) ∧ Hid (Dk wr p g mb 4 d) ∧ Hid (FI d 0 (decide (0 < j)) i) ∧ Hid (Below w.heap.size w wr)) (fun v _ => m - (intOf v).toNat)
        case atStart => exact ⟨0, d, Nat.zero_le _, rfl, HK, HI2, HB⟩
        case round =>
          clear HK HI2 HB hops hbr
          obtain ⟨j, d, hj, rfl, HK, HI, HB⟩ := hrel
          by_cases hjm : j < m
          · obtain ⟨d', hd', hI'⟩ := fi_write0 HI.out (sec1 9)
            obtain ⟨d2, hd2, hI2⟩ := fi_flush0 hI'
            have Hd := Lib.hid hd'
            have Hd2 := Lib.hid hd2
            have HI2 : Hid (FI d2 0 (decide (0 < j + 1)) i) := Lib.hid (by rw [decide_eq_true (by omega)]; exact hI2)
            have ho : Hid (d.ops < 1000000000) := Lib.hid (by rw [HI.out.ops]; omega)
            have ho2 : Hid (d'.ops < 1000000000) := Lib.hid (by rw [hI'.ops]; omega)
            have hbr := Lib.hid hI'.broken
            clear hd' hI' hd2 hI2
            go_wp2_with (first
              | (go_at_call 17
                 refine (c_dWrite1 HK.out ho.out 0 (by omega) 9 9 rfl _ 3 Hd.out).mono ?_
                 rintro e w3 ⟨rfl, hk3, f3⟩
                 have HB3 := Lib.hid (Dk.fresh HG.out HB.out f3)
                 have HK3 := Lib.hid hk3
                 clear hk3 f3)
              | (go_at_call 20
                 (with_reducible refine (c_Broken HK3.out).mono ?_)
                 rintro e w' ⟨rfl, rfl⟩
                 rw [hbr.out])
              | (go_at_call 18
                 (with_reducible refine (c_FlushE HK3.out ho2.out _ 3 Hd2.out).mono ?_)
                 rintro e w4 ⟨rfl, hk4, f4⟩
                 have HB4 := Lib.hid (Dk.fresh HG.out HB3.out f4)
                 have HK4 := Lib.hid hk4
                 clear hk4 f4))
            go_roundw
            case rel => exact ⟨j + 1, d2, by omega, by go_num, HK4, HI2, HB4⟩
            case measure => simp [intOf] <;> omega
          · obtain rfl : j = m := by omega
            have HI2 : Hid (FI d 0 true i) := Lib.hid (by have := HI.out; rwa [decide_eq_true (by omega)] at this)
            have HI3 := Lib.hid (fi_crash HI2.out 0)
            have hr0 := Lib.hid (fi_read0 HI2.out)
            have hr1 := Lib.hid (fi_read1 HI3.out)
            have hops := Lib.hid HI3.out.ops
            clear HI
            go_wp2_with (first
              | (go_at_call 14
                 have _t := hr0
                 refine (c_ReadE HK.out 0 (by omega) 3 hr0.out).mono ?_
                 rintro e w3 ⟨s, hs, rfl, hb3⟩
                 have HK := Lib.hid (HK.out.bel hb3)
                 have HB := Lib.hid (HB.out.trans (hb3.mono HB.out.size))
                 have HBa := Lib.hid ((Below.refl w3.heap.size w3).alloc (Nat.le_refl _) (.cells Z16 23))
                 have HX := Lib.hid (heap_alloc_new w3 (.cells Z16 23))
                 have Hsz : Hid ((bytesV s).toArray.size = 16) := Lib.hid (by simp [bytesV, hs])
                 unfold secV
                 unfold Z16 at HBa HX
                 clear hb3 hs hr0)
              | (refine wpL_store_all rfl rfl 23 (.tmp 9) (.tmp 93) rfl _ rfl _ rfl _ _ HX.out (by rw [Hsz.out]; kernel_rfl) Hsz.out (fun v hv => bytesV_one v (by simpa using hv)) ?_
                 intro w4 x4 g4
                 have hb4 := HBa.out.grown g4 HBa.out.size (by rintro k ⟨⟩; exact Nat.le_refl _)
                 have HK := Lib.hid (HK.out.bel hb4)
                 have HB := Lib.hid (HB.out.trans (hb4.mono HB.out.size))
                 clear x4 g4 HBa HX Hsz hb4)
              | (go_at_call 16
                 (with_reducible refine (c_CrashI HK.out 0 0 rfl (by omega)).mono ?_)
                 rintro e w5 ⟨rfl, hk5, f5⟩
                 have HB := Lib.hid (Dk.fresh HG.out HB.out f5)
                 have HK := Lib.hid hk5
                 clear hk5 f5)
              | (go_at_call 14
                 refine (c_ReadE HK.out 0 (by omega) 0 hr1.out).mono ?_
                 rintro e w6 ⟨s2, hs, rfl, hb3⟩
                 have HK := Lib.hid (HK.out.bel hb3)
                 have HB := Lib.hid (HB.out.trans (hb3.mono HB.out.size))
                 have HBa := Lib.hid ((Below.refl w6.heap.size w6).alloc (Nat.le_refl _) (.cells Z16 23))
                 have HX := Lib.hid (heap_alloc_new w6 (.cells Z16 23))
                 have Hsz : Hid ((bytesV s2).toArray.size = 16) := Lib.hid (by simp [bytesV, hs])
                 unfold secV
                 unfold Z16 at HBa HX
                 clear hb3 hs hr1)
              | (refine wpL_store_all rfl rfl 23 (.tmp 11) (.tmp 100) rfl _ rfl _ rfl _ _ HX.out (by rw [Hsz.out]; kernel_rfl) Hsz.out (fun v hv => bytesV_one v (by simpa using hv)) ?_
                 intro w7 x7 g7
                 have hb7 := HBa.out.grown g7 HBa.out.size (by rintro k ⟨⟩; exact Nat.le_refl _)
                 have HK := Lib.hid (HK.out.bel hb7)
                 have HB := Lib.hid (HB.out.trans (hb7.mono HB.out.size))
                 clear x7 g7 HBa HX Hsz hb7)
              | (go_at_call 22
                 (with_reducible refine (c_Ops HK.out).mono ?_)
                 rintro e w' ⟨rfl, rfl⟩
                 rw [hops.out])
              | (go_at_call 26
                 (with_reducible refine (c_lives _).mono ?_)
                 rintro e w8 ⟨rfl, b8⟩))
            go_ret
            exact ⟨rfl, HB.out.trans (b8.mono HB.out.size)⟩
  · by_cases h1 : k < 0
    · go_enter Try.func5, Try.ntmps5
      go_wp2_with (first
        | (go_at_call 26; (with_reducible refine (c_lives _).mono ?_); rintro e w1 ⟨rfl, b1⟩))
      go_ret
      exact ⟨rfl, b1⟩
    · by_cases h2 : 40 < k
      · go_enter Try.func5, Try.ntmps5
        go_wp2_with (first
          | (go_at_call 26; (with_reducible refine (c_lives _).mono ?_); rintro e w1 ⟨rfl, b1⟩))
        go_ret
        exact ⟨rfl, b1⟩
      · by_cases h3 : m < 1
        · go_enter Try.func5, Try.ntmps5
          go_wp2_with (first
            | (go_at_call 26; (with_reducible refine (c_lives _).mono ?_); rintro e w1 ⟨rfl, b1⟩))
          go_ret
          exact ⟨rfl, b1⟩
        · go_enter Try.func5, Try.ntmps5
          go_wp2_with (first
            | (go_at_call 26; (with_reducible refine (c_lives _).mono ?_); rintro e w1 ⟨rfl, b1⟩))
          go_ret
          exact ⟨rfl, b1⟩
end Go.Proofs.Ytplemdgihlabgaa.Disk
