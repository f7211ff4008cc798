/- The reference's ring of slots (twainref07): Latest, Put. Conditions: at most 10^9 operations. -/
import Derived.Test.YtpbcmghfhflkbaaSlots5
import Derived.Test.YtpbcmghfhflkbaaRef6
set_option linter.unusedVariables false
set_option linter.unusedSimpArgs false
namespace Go.Proofs.Ytpbcmghfhflkbaa.Slots
open Go.RowKit Tw Disk
set_option maxHeartbeats 4000000
set_option maxRecDepth 100000
section
variable {w : World} {q r c : Nat} {d : Dsk}
theorem r_Latest_off (h : Rk w q r c d) (b s : Int) (hn : ¬ On b s d.cells.length) : Calls Try.prog 27 #[.pointer (some ⟨q, 0, none⟩), .int .i64 b, .int .i64 s] w fun e w' => e = .returned (.tuple #[.int .u32 0, .int .u64 0]) ∧ Below w.heap.size w w' := by
  have hN := h.ok.n
  obtain ⟨k0, k1, k2, k3⟩ := h.cells
  clear h
  have hg := fun w => c_rring b s w
  by_cases hr : RingOk b s
  · have hd := Lib.hid (decide_eq_true hr)
    unfold On at hn
    have hn2 : ¬ b ≤ (d.cells.length : Int) - s := fun e => hn ⟨hr, e⟩
    unfold RingOk at hr
    clear hn
    go_enter Try.func27, Try.ntmps27
    go_wp2_with (first
      | (go_at_call 96
         (with_reducible refine (hg _).mono ?_)
         rintro e w1 ⟨rfl, rfl⟩
         rw [hd.out]))
    go_ret2
    exact ⟨rfl, Below.refl _ _⟩
  · have hd := Lib.hid (decide_eq_false hr)
    clear hr hn
    go_enter Try.func27, Try.ntmps27
    go_wp2_with (first
      | (go_at_call 96
         (with_reducible refine (hg _).mono ?_)
         rintro e w1 ⟨rfl, rfl⟩
         rw [hd.out]))
    go_ret2
    exact ⟨rfl, Below.refl _ _⟩
theorem r_Latest (h : Rk w q r c d) (b s : Int) : Calls Try.prog 27 #[.pointer (some ⟨q, 0, none⟩), .int .i64 b, .int .i64 s] w fun e w' => e = .returned (.tuple #[.int .u32 ((latest d b s).1 : Nat), .int .u64 ((latest d b s).2 : Nat)]) ∧ Below w.heap.size w w' := by
  by_cases hon : On b s d.cells.length
  · have hN := h.ok.n
    obtain ⟨k0, k1, k2, k3⟩ := h.cells
    have HK := Lib.hid h
    have hd := Lib.hid (decide_eq_true hon.1)
    have hg := fun w => c_rring b s w
    have hok := Lib.hid h.ok
    unfold latest
    rw [if_pos hon]
    obtain ⟨k, rfl⟩ : ∃ k : Nat, s = (k : Int) := ⟨s.toNat, by unfold On RingOk at hon; omega⟩
    have hr := Lib.hid hon.1
    obtain ⟨⟨r1, r2, r3, r4⟩, r5⟩ := hon
    rw [Int.toNat_natCast]
    clear h
    go_enter Try.func27, Try.ntmps27
    go_wp2_with (first
      | (go_at_call 96
         (with_reducible refine (hg _).mono ?_)
         rintro e w1 ⟨rfl, rfl⟩
         rw [hd.out]))
    clear k0 k1 k2 k3
    go_loopw [8, 9, 10] (fun v8 v9 v10 wr => ∃ (j p1 p2 : Nat), j ≤ k ∧ v8 = .int .u32 (p1 : Int) ∧ v9 = .int .u64 (p2 : Int) ∧ v10 = .int .i64 (b + (j : Int)) ∧ Hid (best d b k j = (p1, p2)) ∧ Hid (Rk wr q r c d) ∧ Hid (Below w.heap.size w wr)) (fun _ _ v10 _ => k - (intOf v10 - b).toNat)
    case atStart => exact ⟨0, 0, 0, Nat.zero_le _, rfl, rfl, by rw [show ((0 : Nat) : Int) = 0 from rfl, Int.add_zero], Lib.hid rfl, HK, Lib.hid (Below.refl _ _)⟩
    case round =>
      clear HK
      obtain ⟨j, p1, p2, hj, rfl, rfl, rfl, Hb, HK, HB⟩ := hrel
      by_cases hjk : j < k
      · obtain ⟨⟨sc, er⟩, hrd⟩ : ∃ r, d.read (b + (j : Int)) = r := ⟨_, rfl⟩
        obtain ⟨⟨n, x, ok⟩, hop⟩ : ∃ r, Seal.opened sc = r := ⟨_, rfl⟩
        have hsl := read_len hok.out (b + (j : Int))
        have hol := opened_lt sc
        rw [hrd] at hsl
        rw [hop] at hol
        simp only at hsl hol
        have Hsl := Lib.hid hsl
        have hsz : Hid ((bytesV sc).toArray.size = 16) := Lib.hid (by rw [List.size_toArray, bytesV_length]; exact hsl)
        have Hrd := Lib.hid hrd
        have Hop := Lib.hid hop
        have hnext : best d b k (j + 1) = better (p1, p2) (if er = 0 then (if ok = true ∧ place b k n = b + (j : Int) then (n, x) else (0, 0)) else (0, 0)) := by
          rw [best, Hb.out]
          unfold readAt told
          rw [hrd]
          simp only
          rw [hop]
        have hpl := fun w => c_rPlace b k n w hol.1
        rw [if_pos hr.out] at hpl
        clear hrd hop hsl
        by_cases he : er = 0
        · subst he
          cases ok with
          | false =>
            have hq : better (p1, p2) (if (0 : Nat) = 0 then (if false = true ∧ place b k n = b + (j : Int) then (n, x) else (0, 0)) else (0, 0)) = (p1, p2) := by simp [better]
            have HN : Hid (best d b k (j + 1) = (p1, p2)) := Lib.hid (by rw [hnext]; exact hq)
            clear hnext
            go_wp2_with (first
            | (go_at_call 106
               (with_reducible refine (r_Read HK.out _).mono ?_)
               rintro e w5 ⟨rfl, hb5⟩
               rw [Hrd.out]
               simp only [secV]
               have HZ := Lib.hid (heap_alloc_new w5 (.cells #[.int .u8 0, .int .u8 0, .int .u8 0, .int .u8 0, .int .u8 0, .int .u8 0, .int .u8 0, .int .u8 0, .int .u8 0, .int .u8 0, .int .u8 0, .int .u8 0, .int .u8 0, .int .u8 0, .int .u8 0, .int .u8 0] 35))
               have HZB := Lib.hid ((Below.refl w5.heap.size w5).alloc (Nat.le_refl _) (.cells #[.int .u8 0, .int .u8 0, .int .u8 0, .int .u8 0, .int .u8 0, .int .u8 0, .int .u8 0, .int .u8 0, .int .u8 0, .int .u8 0, .int .u8 0, .int .u8 0, .int .u8 0, .int .u8 0, .int .u8 0, .int .u8 0] 35))
               have HK5 := Lib.hid (HK.out.bel hb5)
               have HB5 := Lib.hid (HB.out.trans (hb5.mono HB.out.size))
               clear hb5)
            | (refine wpL_store_all rfl rfl 35 (.tmp 11) (.tmp 43) rfl _ rfl _ rfl _ _ HZ.out (by rw [hsz.out]; kernel_rfl) hsz.out (fun v hv => bytesV_one v (by simpa using hv)) ?_
               intro w6 x6 g6
               have hb6 := HZB.out.grown g6 HZB.out.size (by rintro k ⟨⟩; exact Nat.le_refl _)
               have HX6 := Lib.hid x6
               have HK6 := Lib.hid (HK5.out.bel hb6)
               have HB6 := Lib.hid (HB5.out.trans (hb6.mono HB5.out.size))
               clear x6 g6 hb6 HZ HZB)
            | (refine wpList_load_row rfl 35 (.tmp 11) rfl _ rfl _ _ _ _ HX6.out Try.underlying35 rfl (by rw [hsz.out]; kernel_rfl) ?_)
            | (go_at_call 107
               (with_reducible refine (Seal.c_rOpen sc _ Hsl.out).mono ?_)
               rintro e w7 ⟨rfl, hb7⟩
               rw [Hop.out]
               have HK7 := Lib.hid (HK6.out.bel hb7)
               have HB7 := Lib.hid (HB6.out.trans (hb7.mono HB6.out.size))
               clear hb7)
            | (go_at_call 97
               (with_reducible refine (hpl _).mono ?_)
               rintro e w8 ⟨rfl, rfl⟩)
            )
            go_roundw
            case rel => exact ⟨j + 1, p1, p2, by omega, rfl, rfl, by go_num, HN, HK7, HB7⟩
            case measure => simp [intOf] <;> omega
          | true =>
            by_cases hlt : p1 < n
            · by_cases hpe : place b k n = b + (j : Int)
              · have HN : Hid (best d b k (j + 1) = (n, x)) := Lib.hid (by rw [hnext]; simp [better, hlt, hpe])
                have hpe2 : (place b k n == b + (j : Int)) = true := by simp [hpe]
                clear hnext
                go_wp2_with (first
                | (go_at_call 106
                   (with_reducible refine (r_Read HK.out _).mono ?_)
                   rintro e w5 ⟨rfl, hb5⟩
                   rw [Hrd.out]
                   simp only [secV]
                   have HZ := Lib.hid (heap_alloc_new w5 (.cells #[.int .u8 0, .int .u8 0, .int .u8 0, .int .u8 0, .int .u8 0, .int .u8 0, .int .u8 0, .int .u8 0, .int .u8 0, .int .u8 0, .int .u8 0, .int .u8 0, .int .u8 0, .int .u8 0, .int .u8 0, .int .u8 0] 35))
                   have HZB := Lib.hid ((Below.refl w5.heap.size w5).alloc (Nat.le_refl _) (.cells #[.int .u8 0, .int .u8 0, .int .u8 0, .int .u8 0, .int .u8 0, .int .u8 0, .int .u8 0, .int .u8 0, .int .u8 0, .int .u8 0, .int .u8 0, .int .u8 0, .int .u8 0, .int .u8 0, .int .u8 0, .int .u8 0] 35))
                   have HK5 := Lib.hid (HK.out.bel hb5)
                   have HB5 := Lib.hid (HB.out.trans (hb5.mono HB.out.size))
                   clear hb5)
                | (refine wpL_store_all rfl rfl 35 (.tmp 11) (.tmp 43) rfl _ rfl _ rfl _ _ HZ.out (by rw [hsz.out]; kernel_rfl) hsz.out (fun v hv => bytesV_one v (by simpa using hv)) ?_
                   intro w6 x6 g6
                   have hb6 := HZB.out.grown g6 HZB.out.size (by rintro k ⟨⟩; exact Nat.le_refl _)
                   have HX6 := Lib.hid x6
                   have HK6 := Lib.hid (HK5.out.bel hb6)
                   have HB6 := Lib.hid (HB5.out.trans (hb6.mono HB5.out.size))
                   clear x6 g6 hb6 HZ HZB)
                | (refine wpList_load_row rfl 35 (.tmp 11) rfl _ rfl _ _ _ _ HX6.out Try.underlying35 rfl (by rw [hsz.out]; kernel_rfl) ?_)
                | (go_at_call 107
                   (with_reducible refine (Seal.c_rOpen sc _ Hsl.out).mono ?_)
                   rintro e w7 ⟨rfl, hb7⟩
                   rw [Hop.out]
                   have HK7 := Lib.hid (HK6.out.bel hb7)
                   have HB7 := Lib.hid (HB6.out.trans (hb7.mono HB6.out.size))
                   clear hb7)
                | (go_at_call 97
                   (with_reducible refine (hpl _).mono ?_)
                   rintro e w8 ⟨rfl, rfl⟩)
                )
                go_roundw
                case rel => exact ⟨j + 1, n, x, by omega, rfl, rfl, by go_num, HN, HK7, HB7⟩
                case measure => simp [intOf] <;> omega
              · have hpe2 : (place b k n == b + (j : Int)) = false := by simp [hpe]
                have hq : better (p1, p2) (if (0 : Nat) = 0 then (if true = true ∧ place b k n = b + (j : Int) then (n, x) else (0, 0)) else (0, 0)) = (p1, p2) := by simp [better, hpe]
                have HN : Hid (best d b k (j + 1) = (p1, p2)) := Lib.hid (by rw [hnext]; exact hq)
                clear hnext
                go_wp2_with (first
                | (go_at_call 106
                   (with_reducible refine (r_Read HK.out _).mono ?_)
                   rintro e w5 ⟨rfl, hb5⟩
                   rw [Hrd.out]
                   simp only [secV]
                   have HZ := Lib.hid (heap_alloc_new w5 (.cells #[.int .u8 0, .int .u8 0, .int .u8 0, .int .u8 0, .int .u8 0, .int .u8 0, .int .u8 0, .int .u8 0, .int .u8 0, .int .u8 0, .int .u8 0, .int .u8 0, .int .u8 0, .int .u8 0, .int .u8 0, .int .u8 0] 35))
                   have HZB := Lib.hid ((Below.refl w5.heap.size w5).alloc (Nat.le_refl _) (.cells #[.int .u8 0, .int .u8 0, .int .u8 0, .int .u8 0, .int .u8 0, .int .u8 0, .int .u8 0, .int .u8 0, .int .u8 0, .int .u8 0, .int .u8 0, .int .u8 0, .int .u8 0, .int .u8 0, .int .u8 0, .int .u8 0] 35))
                   have HK5 := Lib.hid (HK.out.bel hb5)
                   have HB5 := Lib.hid (HB.out.trans (hb5.mono HB.out.size))
                   clear hb5)
                | (refine wpL_store_all rfl rfl 35 (.tmp 11) (.tmp 43) rfl _ rfl _ rfl _ _ HZ.out (by rw [hsz.out]; kernel_rfl) hsz.out (fun v hv => bytesV_one v (by simpa using hv)) ?_
                   intro w6 x6 g6
                   have hb6 := HZB.out.grown g6 HZB.out.size (by rintro k ⟨⟩; exact Nat.le_refl _)
                   have HX6 := Lib.hid x6
                   have HK6 := Lib.hid (HK5.out.bel hb6)
                   have HB6 := Lib.hid (HB5.out.trans (hb6.mono HB5.out.size))
                   clear x6 g6 hb6 HZ HZB)
                | (refine wpList_load_row rfl 35 (.tmp 11) rfl _ rfl _ _ _ _ HX6.out Try.underlying35 rfl (by rw [hsz.out]; kernel_rfl) ?_)
                | (go_at_call 107
                   (with_reducible refine (Seal.c_rOpen sc _ Hsl.out).mono ?_)
                   rintro e w7 ⟨rfl, hb7⟩
                   rw [Hop.out]
                   have HK7 := Lib.hid (HK6.out.bel hb7)
                   have HB7 := Lib.hid (HB6.out.trans (hb7.mono HB6.out.size))
                   clear hb7)
                | (go_at_call 97
                   (with_reducible refine (hpl _).mono ?_)
                   rintro e w8 ⟨rfl, rfl⟩)
                )
                go_roundw
                case rel => exact ⟨j + 1, p1, p2, by omega, rfl, rfl, by go_num, HN, HK7, HB7⟩
                case measure => simp [intOf] <;> omega
            · have hq : better (p1, p2) (if (0 : Nat) = 0 then (if true = true ∧ place b k n = b + (j : Int) then (n, x) else (0, 0)) else (0, 0)) = (p1, p2) := by
                by_cases hpe : place b k n = b + (j : Int)
                · simp [better, hpe, hlt]
                · simp [better, hpe]
              have HN : Hid (best d b k (j + 1) = (p1, p2)) := Lib.hid (by rw [hnext]; exact hq)
              clear hnext
              go_wp2_with (first
              | (go_at_call 106
                 (with_reducible refine (r_Read HK.out _).mono ?_)
                 rintro e w5 ⟨rfl, hb5⟩
                 rw [Hrd.out]
                 simp only [secV]
                 have HZ := Lib.hid (heap_alloc_new w5 (.cells #[.int .u8 0, .int .u8 0, .int .u8 0, .int .u8 0, .int .u8 0, .int .u8 0, .int .u8 0, .int .u8 0, .int .u8 0, .int .u8 0, .int .u8 0, .int .u8 0, .int .u8 0, .int .u8 0, .int .u8 0, .int .u8 0] 35))
                 have HZB := Lib.hid ((Below.refl w5.heap.size w5).alloc (Nat.le_refl _) (.cells #[.int .u8 0, .int .u8 0, .int .u8 0, .int .u8 0, .int .u8 0, .int .u8 0, .int .u8 0, .int .u8 0, .int .u8 0, .int .u8 0, .int .u8 0, .int .u8 0, .int .u8 0, .int .u8 0, .int .u8 0, .int .u8 0] 35))
                 have HK5 := Lib.hid (HK.out.bel hb5)
                 have HB5 := Lib.hid (HB.out.trans (hb5.mono HB.out.size))
                 clear hb5)
              | (refine wpL_store_all rfl rfl 35 (.tmp 11) (.tmp 43) rfl _ rfl _ rfl _ _ HZ.out (by rw [hsz.out]; kernel_rfl) hsz.out (fun v hv => bytesV_one v (by simpa using hv)) ?_
                 intro w6 x6 g6
                 have hb6 := HZB.out.grown g6 HZB.out.size (by rintro k ⟨⟩; exact Nat.le_refl _)
                 have HX6 := Lib.hid x6
                 have HK6 := Lib.hid (HK5.out.bel hb6)
                 have HB6 := Lib.hid (HB5.out.trans (hb6.mono HB5.out.size))
                 clear x6 g6 hb6 HZ HZB)
              | (refine wpList_load_row rfl 35 (.tmp 11) rfl _ rfl _ _ _ _ HX6.out Try.underlying35 rfl (by rw [hsz.out]; kernel_rfl) ?_)
              | (go_at_call 107
                 (with_reducible refine (Seal.c_rOpen sc _ Hsl.out).mono ?_)
                 rintro e w7 ⟨rfl, hb7⟩
                 rw [Hop.out]
                 have HK7 := Lib.hid (HK6.out.bel hb7)
                 have HB7 := Lib.hid (HB6.out.trans (hb7.mono HB6.out.size))
                 clear hb7)
              | (go_at_call 97
                 (with_reducible refine (hpl _).mono ?_)
                 rintro e w8 ⟨rfl, rfl⟩)
              )
              go_roundw
              case rel => exact ⟨j + 1, p1, p2, by omega, rfl, rfl, by go_num, HN, HK7, HB7⟩
              case measure => simp [intOf] <;> omega
        · have hne : ((er : Int) == 0) = false := by simp; omega
          have hq : better (p1, p2) (if er = 0 then (if ok = true ∧ place b k n = b + (j : Int) then (n, x) else (0, 0)) else (0, 0)) = (p1, p2) := by simp [better, he]
          have HN : Hid (best d b k (j + 1) = (p1, p2)) := Lib.hid (by rw [hnext]; exact hq)
          clear hnext
          go_wp2_with (first
          | (go_at_call 106
             (with_reducible refine (r_Read HK.out _).mono ?_)
             rintro e w5 ⟨rfl, hb5⟩
             rw [Hrd.out]
             simp only [secV]
             have HZ := Lib.hid (heap_alloc_new w5 (.cells #[.int .u8 0, .int .u8 0, .int .u8 0, .int .u8 0, .int .u8 0, .int .u8 0, .int .u8 0, .int .u8 0, .int .u8 0, .int .u8 0, .int .u8 0, .int .u8 0, .int .u8 0, .int .u8 0, .int .u8 0, .int .u8 0] 35))
             have HZB := Lib.hid ((Below.refl w5.heap.size w5).alloc (Nat.le_refl _) (.cells #[.int .u8 0, .int .u8 0, .int .u8 0, .int .u8 0, .int .u8 0, .int .u8 0, .int .u8 0, .int .u8 0, .int .u8 0, .int .u8 0, .int .u8 0, .int .u8 0, .int .u8 0, .int .u8 0, .int .u8 0, .int .u8 0] 35))
             have HK5 := Lib.hid (HK.out.bel hb5)
             have HB5 := Lib.hid (HB.out.trans (hb5.mono HB.out.size))
             clear hb5)
          | (refine wpL_store_all rfl rfl 35 (.tmp 11) (.tmp 43) rfl _ rfl _ rfl _ _ HZ.out (by rw [hsz.out]; kernel_rfl) hsz.out (fun v hv => bytesV_one v (by simpa using hv)) ?_
             intro w6 x6 g6
             have hb6 := HZB.out.grown g6 HZB.out.size (by rintro k ⟨⟩; exact Nat.le_refl _)
             have HX6 := Lib.hid x6
             have HK6 := Lib.hid (HK5.out.bel hb6)
             have HB6 := Lib.hid (HB5.out.trans (hb6.mono HB5.out.size))
             clear x6 g6 hb6 HZ HZB)
          | (refine wpList_load_row rfl 35 (.tmp 11) rfl _ rfl _ _ _ _ HX6.out Try.underlying35 rfl (by rw [hsz.out]; kernel_rfl) ?_)
          | (go_at_call 107
             (with_reducible refine (Seal.c_rOpen sc _ Hsl.out).mono ?_)
             rintro e w7 ⟨rfl, hb7⟩
             rw [Hop.out]
             have HK7 := Lib.hid (HK6.out.bel hb7)
             have HB7 := Lib.hid (HB6.out.trans (hb7.mono HB6.out.size))
             clear hb7)
          | (go_at_call 97
             (with_reducible refine (hpl _).mono ?_)
             rintro e w8 ⟨rfl, rfl⟩)
          )
          go_roundw
          case rel => exact ⟨j + 1, p1, p2, by omega, rfl, rfl, by go_num, HN, HK7, HB7⟩
          case measure => simp [intOf] <;> omega
      · obtain rfl : j = k := by omega
        go_wp2_with fail
        go_ret2
        rw [Hb.out]
        exact ⟨rfl, HB.out⟩
  · have hl : latest d b s = (0, 0) := by unfold latest; rw [if_neg hon]
    rw [hl]
    exact r_Latest_off h b s hon
theorem r_Put (h : Rk w q r c d) (ho : d.ops + 1 < 1000000000) (b s : Int) (x : Nat) (hx : x < 18446744073709551616) :
    Calls Try.prog 19 #[.pointer (some ⟨q, 0, none⟩), .int .i64 b, .int .i64 s, .int .u64 (x : Int)] w fun e w' => e = .returned (.int .i64 ((sput d b s x).2 : Int)) ∧ Rk w' q r c (sput d b s x).1 ∧ Fr (fun k => k = q ∨ k = r) w w' := by
  have hN := h.ok.n
  obtain ⟨⟨d2, e2⟩, hsp⟩ : ∃ r, sput d b s x = r := ⟨_, rfl⟩
  rw [hsp]
  unfold sput at hsp
  have hg := fun w => c_rring b s w
  have HK := Lib.hid h
  obtain ⟨k0, k1, k2, k3⟩ := h.cells
  clear h
  by_cases hr : RingOk b s
  · have hd := Lib.hid (decide_eq_true hr)
    by_cases hbl : b ≤ (d.cells.length : Int) - s
    · have hon : On b s d.cells.length := ⟨hr, hbl⟩
      rw [if_pos hon] at hsp
      have Hon := Lib.hid hon
      have hr2 := hr
      unfold RingOk at hr2
      obtain ⟨r1, r2, r3, r4⟩ := hr2
      by_cases hbk : d.broken = true
      · rw [if_pos hbk] at hsp
        obtain ⟨rfl, rfl⟩ := Prod.mk.inj hsp
        rw [hbk] at k2
        clear hsp hbk hon
        go_enter Try.func19, Try.ntmps19
        go_wp2_with (first
      | (go_at_call 96
         (with_reducible refine (hg _).mono ?_)
         rintro e w1 ⟨rfl, rfl⟩
         rw [hd.out])
        )
        go_ret
        exact ⟨rfl, HK.out, Fr.refl _ _⟩
      · rw [if_neg hbk] at hsp
        have hbr : d.broken = false := by simpa using hbk
        rw [hbr] at k2
        have hll := latest_lt d b s
        obtain ⟨⟨l1, l2⟩, hl⟩ : ∃ r, latest d b s = r := ⟨_, rfl⟩
        have hL := fun w (h : Rk w q r c d) => r_Latest h b s
        rw [hl] at hsp hll hL
        simp only at hsp hll hL
        clear hl hbk hon hbr
        by_cases hmx : l1 = 4294967295
        · rw [if_pos hmx] at hsp
          obtain ⟨rfl, rfl⟩ := Prod.mk.inj hsp
          subst hmx
          clear hsp
          go_enter Try.func19, Try.ntmps19
          go_wp2_with (first
        | (go_at_call 96
           (with_reducible refine (hg _).mono ?_)
           rintro e w1 ⟨rfl, rfl⟩
           rw [hd.out])
        | (go_at_call 27
           (with_reducible refine (hL _ HK.out).mono ?_)
           rintro e w3 ⟨rfl, hb3⟩
           have HF3 := Lib.hid (Fr.of_bel (S := fun k => k = q ∨ k = r) hb3)
           have HK3 := Lib.hid (HK.out.bel hb3)
           clear hb3 hL k0 k1 k2 k3)
          )
          go_ret
          exact ⟨rfl, HK3.out, HF3.out⟩
        · rw [if_neg hmx] at hsp
          have hpl : ∀ w, Calls Try.prog 97 #[.int .u32 ((l1 : Int) + 1), .int .i64 b, .int .i64 s] w fun e w' => e = .returned (.int .i64 (place b s (l1 + 1))) ∧ w = w' := fun w => by
            have := c_rPlace b s (l1 + 1) w (by omega)
            rw [if_pos hr] at this
            exact this
          have hpr := place_on Hon.out (l1 + 1)
          have hrec : ∀ w, Calls Try.prog 98 #[.int .u32 ((l1 : Int) + 1), .int .u64 (x : Int)] w fun e w' => e = .returned (.agg (bytesV (Seal.rec (l1 + 1) x)).toArray) ∧ Below w.heap.size w w' := fun w => Seal.c_rRecord (l1 + 1) x w (by omega) hx
          have hrl := rec_len (l1 + 1) x
          have hwr := fun w (h : Rk w q r c d) => r_Write h (by omega) (place b s (l1 + 1)) (Seal.rec (l1 + 1) x) hrl
          have hwo := write_ops d (place b s (l1 + 1)) (Seal.rec (l1 + 1) x)
          have hwe := write_err d (place b s (l1 + 1)) (Seal.rec (l1 + 1) x)
          generalize place b s (l1 + 1) = at1 at *
          generalize Seal.rec (l1 + 1) x = sc at *
          obtain ⟨⟨dw, ew⟩, hw⟩ : ∃ r, d.write at1 sc = r := ⟨_, rfl⟩
          rw [hw] at hsp hwo hwe
          simp only [hw] at hsp hwo hwe hwr
          clear hw hrl
          have hflush := fun w (h : Rk w q r c dw) => r_Flush h (by omega)
          by_cases hew : ew = 0
          · rw [if_pos hew] at hsp
            subst hew
            have Hsp := Lib.hid hsp
            clear hsp
            go_enter Try.func19, Try.ntmps19
            go_wp2_with (first
          | (go_at_call 96
             (with_reducible refine (hg _).mono ?_)
             rintro e w1 ⟨rfl, rfl⟩
             rw [hd.out])
          | (go_at_call 27
             (with_reducible refine (hL _ HK.out).mono ?_)
             rintro e w3 ⟨rfl, hb3⟩
             have HF3 := Lib.hid (Fr.of_bel (S := fun k => k = q ∨ k = r) hb3)
             have HK3 := Lib.hid (HK.out.bel hb3)
             clear hb3 hL k0 k1 k2 k3)
          | (go_at_call 97
             (with_reducible refine (hpl _).mono ?_)
             rintro e w6 ⟨rfl, rfl⟩
             clear hpl)
          | (go_at_call 98
             (with_reducible refine (hrec _).mono ?_)
             rintro e w7 ⟨rfl, hb7⟩
             have HF7 := Lib.hid (HF3.out.trans (Fr.of_bel (S := fun _ => False) hb7) (fun _ _ e => e.elim))
             have HK7 := Lib.hid (HK3.out.bel hb7)
             clear hb7 hrec)
          | (go_at_call 25
             (with_reducible refine (hwr _ HK7.out).mono ?_)
             rintro e w8 ⟨rfl, hk8, f8⟩
             have HF8 := Lib.hid (HF7.out.trans f8 (fun _ _ e => e))
             have HK8 := Lib.hid hk8
             clear hk8 f8 hwr)
            | (go_at_call 99
               (with_reducible refine (hflush _ HK8.out).mono ?_)
               rintro e w9 ⟨rfl, hk9, f9⟩
               rw [Hsp.out] at hk9 ⊢
               have HF9 := Lib.hid (HF8.out.trans f9 (fun _ _ e => e))
               have HK9 := Lib.hid hk9
               clear hk9 f9 hflush))
            go_ret
            exact ⟨rfl, HK9.out, HF9.out⟩
          · rw [if_neg hew] at hsp
            obtain ⟨rfl, rfl⟩ := Prod.mk.inj hsp
            have hne : ((ew : Int) != 0) = true := by simp; omega
            clear hsp hew
            go_enter Try.func19, Try.ntmps19
            go_wp2_with (first
          | (go_at_call 96
             (with_reducible refine (hg _).mono ?_)
             rintro e w1 ⟨rfl, rfl⟩
             rw [hd.out])
          | (go_at_call 27
             (with_reducible refine (hL _ HK.out).mono ?_)
             rintro e w3 ⟨rfl, hb3⟩
             have HF3 := Lib.hid (Fr.of_bel (S := fun k => k = q ∨ k = r) hb3)
             have HK3 := Lib.hid (HK.out.bel hb3)
             clear hb3 hL k0 k1 k2 k3)
          | (go_at_call 97
             (with_reducible refine (hpl _).mono ?_)
             rintro e w6 ⟨rfl, rfl⟩
             clear hpl)
          | (go_at_call 98
             (with_reducible refine (hrec _).mono ?_)
             rintro e w7 ⟨rfl, hb7⟩
             have HF7 := Lib.hid (HF3.out.trans (Fr.of_bel (S := fun _ => False) hb7) (fun _ _ e => e.elim))
             have HK7 := Lib.hid (HK3.out.bel hb7)
             clear hb7 hrec)
          | (go_at_call 25
             (with_reducible refine (hwr _ HK7.out).mono ?_)
             rintro e w8 ⟨rfl, hk8, f8⟩
             have HF8 := Lib.hid (HF7.out.trans f8 (fun _ _ e => e))
             have HK8 := Lib.hid hk8
             clear hk8 f8 hwr)
            )
            go_ret
            exact ⟨rfl, HK8.out, HF8.out⟩
    · have hon : ¬ On b s d.cells.length := fun e => hbl e.2
      rw [if_neg hon] at hsp
      obtain ⟨rfl, rfl⟩ := Prod.mk.inj hsp
      unfold RingOk at hr
      clear hsp hon
      go_enter Try.func19, Try.ntmps19
      go_wp2_with (first
    | (go_at_call 96
       (with_reducible refine (hg _).mono ?_)
       rintro e w1 ⟨rfl, rfl⟩
       rw [hd.out])
      )
      go_ret
      exact ⟨rfl, HK.out, Fr.refl _ _⟩
  · have hon : ¬ On b s d.cells.length := fun e => hr e.1
    rw [if_neg hon] at hsp
    obtain ⟨rfl, rfl⟩ := Prod.mk.inj hsp
    have hd := Lib.hid (decide_eq_false hr)
    clear hsp hon hr
    go_enter Try.func19, Try.ntmps19
    go_wp2_with (first
  | (go_at_call 96
     (with_reducible refine (hg _).mono ?_)
     rintro e w1 ⟨rfl, rfl⟩
     rw [hd.out])
    )
    go_ret
    exact ⟨rfl, HK.out, Fr.refl _ _⟩
end
end Go.Proofs.Ytpbcmghfhflkbaa.Slots
