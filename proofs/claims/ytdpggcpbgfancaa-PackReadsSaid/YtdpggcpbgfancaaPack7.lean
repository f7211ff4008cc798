/- Contracts of the package pack's reference: Bytes. Conditions: none. -/
import Derived.Test.YtdpggcpbgfancaaPack6
import Derived.Test.YtdpggcpbgfancaaPack4
set_option linter.unusedVariables false
set_option linter.unusedSimpArgs false
namespace Go.Proofs.Ytdpggcpbgfancaa.Tw
open Go.RowKit
theorem wpL_append_full {P : Program} {ops : Array Oper} {rest : List Oper} {w : World} {o : Oper} {a : Act} {Q : Exit → Act → World → Prop} (hgd : o.guard = none) (s x : Operand) (t : TypeId)
    (ho : o.op = .call { callee := .builtin .append, args := #[s, x], argTypes := #[t, t] })
    (base : Nat) (hbase : base ≤ w.heap.size) (e : TypeId) (z : Value) (size bytes : Nat) (ht : P.underlying t = some (.slice e)) (hinfo : (P.info? e).map (fun i => (i.zero, i.size, i.bytes)) = some (some z, size, bytes))
    (hzs : z.cells.size = size) (A : Option Addr) (n : Nat) (xs : List Value) (hs : a.eval s = .slice A n n) (hr0 : Rd w size A n n xs)
    (A' : Option Addr) (m c' : Nat) (news : List Value) (hx : a.eval x = .slice A' m c') (hr : Rd w size A' m c' news) (hm : 0 < m)
    (N : Nat) (ys : List Value) (hN : n + m = N) (hys : xs ++ news = ys) (h63 : N ≤ maxLen) (hbytes : N * bytes ≤ 140737488355328)
    (h : ∀ A2 c2 w', Own w' base e size A2 N c2 ys → w.grownBy w' none → wpList P ops Q rest (a.put o.dst (.slice A2 N c2)) w') : wpList P ops Q (o :: rest) a w :=
  wpList_plain hgd fun _ hK => wp_append_full w s x t ho base hbase e z size bytes ht hinfo hzs A n xs hs hr0 A' m c' news hx hr hm N ys hN hys h63 hbytes fun c2 w' h2 h3 => hK _ _ (h _ c2 w' h2 h3)
end Go.Proofs.Ytdpggcpbgfancaa.Tw
namespace Go.Proofs.Ytdpggcpbgfancaa.Pack
open Go.RowKit Tw
set_option maxHeartbeats 8000000
set_option maxRecDepth 100000
theorem c_rBytes (k i o : Int) (m : Nat) (wb : Bool) (A : Option Addr) (n cp : Nat) (d : List UInt8) (w : World) (hm : m < 18446744073709551616) (hb : Byt w A n cp d) :
    Calls Try.prog 32 #[.agg #[.int .i64 k, .int .i64 i, .int .i64 o, .int .u64 (m : Int), .bool wb, .slice A n cp]] w fun e w' => ∃ A2 n2 c2, e = .returned (.slice A2 n2 c2) ∧ Byt w' A2 n2 c2 (bytes k i o m wb d) ∧ Below w.heap.size w w' := by
  have hlen := hb.blen
  have HB := Lib.hid ((Below.refl _ _).alloc (Nat.le_refl w.heap.size) (.cells #[.int .i64 k, .int .i64 i, .int .i64 o, .int .u64 (m : Int), .bool wb, .slice A n cp] 42))
  have HX := Lib.hid (heap_alloc_new w (.cells #[.int .i64 k, .int .i64 i, .int .i64 o, .int .u64 (m : Int), .bool wb, .slice A n cp] 42))
  have Hd := Lib.hid hb
  have hgd := fun w => c_rGood k i o m wb A n cp w
  have hby : bytes k i o m wb d = if Good k i o m wb n then raw k i o m wb d else [] := by unfold bytes; rw [hlen]
  clear hb
  by_cases hG : Good k i o m wb n
  · rw [if_pos hG] at hby
    have hd := Lib.hid (decide_eq_true hG)
    have hg' : (1 ≤ k ∧ k ≤ 8) ∧ 0 ≤ i ∧ i ≤ 72057594037927935 ∧ 0 ≤ o ∧ o ≤ 255 ∧ n ≤ 128 := by unfold Good at hG; omega
    obtain ⟨⟨q1, q2⟩, q3, q4, q5, q6, q7⟩ := hg'
    obtain ⟨K, rfl⟩ : ∃ K : Nat, k = (K : Int) := ⟨k.toNat, by omega⟩
    obtain ⟨I, rfl⟩ : ∃ I : Nat, i = (I : Int) := ⟨i.toNat, by omega⟩
    obtain ⟨O, rfl⟩ : ∃ O : Nat, o = (O : Int) := ⟨o.toNat, by omega⟩
    clear hG
    have hW := fun w => c_hasWas (K : Int) w
    have hI := fun w => c_hasId (K : Int) w
    have hO := fun w => c_hasOff (K : Int) w
    unfold raw at hby
    simp only [Int.toNat_natCast] at hby
    generalize bytes (K : Int) (I : Int) (O : Int) m wb d = BY at *
    have hk5 : (kW (K : Int) = true ∧ kI (K : Int) = false ∧ kO (K : Int) = false) ∨ (kW (K : Int) = false ∧ kI (K : Int) = true ∧ kO (K : Int) = true) ∨ (kW (K : Int) = false ∧ kI (K : Int) = true ∧ kO (K : Int) = false) ∨ (kW (K : Int) = false ∧ kI (K : Int) = false ∧ kO (K : Int) = true) ∨ (kW (K : Int) = false ∧ kI (K : Int) = false ∧ kO (K : Int) = false) := by
      unfold kW kI kO
      simp only [decide_eq_true_eq, decide_eq_false_iff_not]
      omega
    generalize kW (K : Int) = a at *
    generalize kI (K : Int) = b at *
    generalize kO (K : Int) = c at *
    have hkk : Hid (IntKind.u8.wrap (K : Int) = (K : Int)) := Lib.hid (by rw [IntKind.wrap_u8]; omega)
    have hOO : Hid (((O : Int) % 65536).toNat = O) := Lib.hid (by omega)
    have h01 : Hid ([Value.int .u8 (K : Int)] = bytesV [UInt8.ofNat K]) := Lib.hid (by simp [bytesV]; omega)
    have hII : Hid (IntKind.u64.wrap (I : Int) = (I : Int)) := Lib.hid (by rw [IntKind.wrap_u64]; omega)
    obtain ⟨M, hM⟩ : ∃ M : Int, (m : Int) = M := ⟨_, rfl⟩
    rw [hM] at HB HX hgd
    have HM := Lib.hid hM
    have Hby := Lib.hid hby
    have Hn := Lib.hid hlen
    clear hM hby hlen
    go_enter Try.func32, Try.ntmps32
    go_upto_region 1 with (fail)
    rw [HM.out]
    generalize w.alloc (.cells #[.int .i64 (K : Int), .int .i64 (I : Int), .int .i64 (O : Int), .int .u64 M, .bool wb, .slice A n cp] 42) = W1 at *
    obtain ⟨k0, k1, k2, k3, k4, k5⟩ := Bx.cells6 HX.out
    have Hk5 := Lib.hid hk5
    clear hk5
    go_upto_region 3 with (first
      | (go_at_call 30
         (with_reducible refine (hgd _).mono ?_)
         rintro e w1 ⟨rfl, hb1⟩
         rw [hd.out]
         have HB := Lib.hid (HB.out.trans (hb1.mono HB.out.size))
         have HX := Lib.hid ((hb1.block _ (heap_lt HX.out)).trans HX.out)
         clear k0 k1 k2 k3 k4 k5 hb1 hgd
         obtain ⟨k0, k1, k2, k3, k4, k5⟩ := Bx.cells6 HX.out)
      | fail)
    go_upto_region 4 with (first
      | (simp only [hkk.out])
      | fail)
    have HO : Hid (Own (w1.alloc (.cells #[.int .u8 (K : Int)] 5)) w.heap.size 5 1 (some ⟨w1.heap.size, 0, none⟩) 1 1 (bytesV [UInt8.ofNat K])) := Lib.hid (h01.out ▸ own_lit w1 w.heap.size 5 1 #[.int .u8 (K : Int)] 1 HB.out.size (by simp [maxLen]) (by simp))
    replace HX := Lib.hid ((Below.heap_alloc w1 (.cells #[.int .u8 (K : Int)] 5) _ (heap_lt HX.out)).trans HX.out)
    replace HB := Lib.hid (bel_alloc HB.out HB.out.size (.cells #[.int .u8 (K : Int)] 5))
    clear k0 k1 k2 k3 k4 k5
    generalize w1.alloc (.cells #[.int .u8 (K : Int)] 5) = W5 at *
    generalize w1.heap.size = g0 at *
    obtain ⟨k0, k1, k2, k3, k4, k5⟩ := Bx.cells6 HX.out
    rcases Hk5.out with ⟨rfl, rfl, rfl⟩ | ⟨rfl, rfl, rfl⟩ | ⟨rfl, rfl, rfl⟩ | ⟨rfl, rfl, rfl⟩ | ⟨rfl, rfl, rfl⟩
    · cases wb with
      | true =>
        go_upto_region 10 with (first
        | (go_at_call 88
           (with_reducible refine (hW _).mono ?_)
           rintro e w5 ⟨rfl, rfl⟩)
        | (go_at_call 89
           (with_reducible refine (hI _).mono ?_)
           rintro e w5 ⟨rfl, rfl⟩)
        | (go_at_call 90
           (with_reducible refine (hO _).mono ?_)
           rintro e w5 ⟨rfl, rfl⟩)
          | (refine wpL_append_full rfl (.tmp 17) (.tmp 19) 23 rfl w.heap.size (size_alloc_le HB.out.size _) 5 _ 1 1 Try.underlying23 Num.info_u8 rfl _ 1 _ rfl (Tw.Own.bel HO.out ((Below.refl _ _).alloc (Nat.le_refl _) _)).rd _ 1 1 (bytesV [1]) rfl (rd_one _ _ _) (by omega) 2 _ rfl (bytesV_append _ _).symm (by unfold maxLen; omega) (by omega) ?_
             intro A6 c6 w6 ho6 hg6
             have hb6 := (bel_grown (((World.grownBy_alloc W5 _ none)).trans hg6))
             have HO := Lib.hid ho6
             have HX := Lib.hid ((hb6.block _ (heap_lt HX.out)).trans HX.out)
             have HB := Lib.hid (HB.out.trans (hb6.mono HB.out.size))
             clear k0 k1 k2 k3 k4 k5 ho6 hb6 hg6
             obtain ⟨k0, k1, k2, k3, k4, k5⟩ := Bx.cells6 HX.out)
          | (go_at_call 94
             (with_reducible refine (Num.c_rPut64 _ _ _ _ _ m _ _ HO.out.rd HM.out.symm hm rfl (by omega)).mono ?_)
             rintro e w7 ⟨A7, c7, rfl, ho7, hb7⟩
             have HO := Lib.hid (Tw.Own.mono ho7 HB.out.size)
             have HX := Lib.hid ((hb7.block _ (heap_lt HX.out)).trans HX.out)
             have HB := Lib.hid (HB.out.trans (hb7.mono HB.out.size))
             clear k0 k1 k2 k3 k4 k5 ho7 hb7
             obtain ⟨k0, k1, k2, k3, k4, k5⟩ := Bx.cells6 HX.out
             )
          | fail)
        go_wp2_with (first
          | (go_at_call 88
             (with_reducible refine (hW _).mono ?_)
             rintro e w5 ⟨rfl, rfl⟩)
          | (go_at_call 89
             (with_reducible refine (hI _).mono ?_)
             rintro e w5 ⟨rfl, rfl⟩)
          | (go_at_call 90
             (with_reducible refine (hO _).mono ?_)
             rintro e w5 ⟨rfl, rfl⟩)
          | (go_at_call 94
             (with_reducible refine (Num.c_rPut64 _ _ _ _ _ I _ _ HO.out.rd (by first | rfl | exact hII.out | omega) (by omega) rfl (by omega)).mono ?_)
             rintro e w7 ⟨A7, c7, rfl, ho7, hb7⟩
             have HO := Lib.hid (Tw.Own.mono ho7 HB.out.size)
             have HX := Lib.hid ((hb7.block _ (heap_lt HX.out)).trans HX.out)
             have HB := Lib.hid (HB.out.trans (hb7.mono HB.out.size))
             clear k0 k1 k2 k3 k4 k5 ho7 hb7
             obtain ⟨k0, k1, k2, k3, k4, k5⟩ := Bx.cells6 HX.out
             )
          | (go_at_call 75
             (with_reducible refine (Num.c_rPut16 _ _ _ _ _ _ _ HO.out.rd rfl (by omega)).mono ?_)
             rintro e w7 ⟨A7, c7, rfl, ho7, hb7⟩
             rw [hOO.out] at ho7
             have HO := Lib.hid (Tw.Own.mono ho7 HB.out.size)
             have HX := Lib.hid ((hb7.block _ (heap_lt HX.out)).trans HX.out)
             have HB := Lib.hid (HB.out.trans (hb7.mono HB.out.size))
             clear k0 k1 k2 k3 k4 k5 ho7 hb7
             obtain ⟨k0, k1, k2, k3, k4, k5⟩ := Bx.cells6 HX.out
             )
          | (refine wpL_append _ rfl (.tmp 40) (.tmp 42) _ rfl w w.heap.size HB.out HB.out.size 5 _ 1 1 Try.underlying23 Num.info_u8 rfl (by omega) _ _ _ _ rfl HO.out _ _ _ _ rfl (Hd.out.below HB.out (Nat.le_refl _)) bytesV_one _ _ rfl (bytesV_append _ _).symm (by unfold maxLen; omega) (by omega) ?_
             intro A11 c11 w11 ho11 hb11 hg11 hl11
             have HB11 := Lib.hid hb11
             have O11 := Lib.hid ho11.rd
             clear ho11 hb11 hg11 hl11))
        go_ret
        exact ⟨A11, _, c11, rfl, by rw [Hby.out]; simpa [fb] using O11.out, HB11.out⟩
      | false =>
        go_upto_region 10 with (first
        | (go_at_call 88
           (with_reducible refine (hW _).mono ?_)
           rintro e w5 ⟨rfl, rfl⟩)
        | (go_at_call 89
           (with_reducible refine (hI _).mono ?_)
           rintro e w5 ⟨rfl, rfl⟩)
        | (go_at_call 90
           (with_reducible refine (hO _).mono ?_)
           rintro e w5 ⟨rfl, rfl⟩)
          | (refine wpL_append_full rfl (.tmp 17) (.tmp 19) 23 rfl w.heap.size (size_alloc_le HB.out.size _) 5 _ 1 1 Try.underlying23 Num.info_u8 rfl _ 1 _ rfl (Tw.Own.bel HO.out ((Below.refl _ _).alloc (Nat.le_refl _) _)).rd _ 1 1 (bytesV [0]) rfl (rd_one _ _ _) (by omega) 2 _ rfl (bytesV_append _ _).symm (by unfold maxLen; omega) (by omega) ?_
             intro A6 c6 w6 ho6 hg6
             have hb6 := (bel_grown (((World.grownBy_alloc W5 _ none)).trans hg6))
             have HO := Lib.hid ho6
             have HX := Lib.hid ((hb6.block _ (heap_lt HX.out)).trans HX.out)
             have HB := Lib.hid (HB.out.trans (hb6.mono HB.out.size))
             clear k0 k1 k2 k3 k4 k5 ho6 hb6 hg6
             obtain ⟨k0, k1, k2, k3, k4, k5⟩ := Bx.cells6 HX.out)
          | (go_at_call 94
             (with_reducible refine (Num.c_rPut64 _ _ _ _ _ m _ _ HO.out.rd HM.out.symm hm rfl (by omega)).mono ?_)
             rintro e w7 ⟨A7, c7, rfl, ho7, hb7⟩
             have HO := Lib.hid (Tw.Own.mono ho7 HB.out.size)
             have HX := Lib.hid ((hb7.block _ (heap_lt HX.out)).trans HX.out)
             have HB := Lib.hid (HB.out.trans (hb7.mono HB.out.size))
             clear k0 k1 k2 k3 k4 k5 ho7 hb7
             obtain ⟨k0, k1, k2, k3, k4, k5⟩ := Bx.cells6 HX.out
             )
          | fail)
        go_wp2_with (first
          | (go_at_call 88
             (with_reducible refine (hW _).mono ?_)
             rintro e w5 ⟨rfl, rfl⟩)
          | (go_at_call 89
             (with_reducible refine (hI _).mono ?_)
             rintro e w5 ⟨rfl, rfl⟩)
          | (go_at_call 90
             (with_reducible refine (hO _).mono ?_)
             rintro e w5 ⟨rfl, rfl⟩)
          | (go_at_call 94
             (with_reducible refine (Num.c_rPut64 _ _ _ _ _ I _ _ HO.out.rd (by first | rfl | exact hII.out | omega) (by omega) rfl (by omega)).mono ?_)
             rintro e w7 ⟨A7, c7, rfl, ho7, hb7⟩
             have HO := Lib.hid (Tw.Own.mono ho7 HB.out.size)
             have HX := Lib.hid ((hb7.block _ (heap_lt HX.out)).trans HX.out)
             have HB := Lib.hid (HB.out.trans (hb7.mono HB.out.size))
             clear k0 k1 k2 k3 k4 k5 ho7 hb7
             obtain ⟨k0, k1, k2, k3, k4, k5⟩ := Bx.cells6 HX.out
             )
          | (go_at_call 75
             (with_reducible refine (Num.c_rPut16 _ _ _ _ _ _ _ HO.out.rd rfl (by omega)).mono ?_)
             rintro e w7 ⟨A7, c7, rfl, ho7, hb7⟩
             rw [hOO.out] at ho7
             have HO := Lib.hid (Tw.Own.mono ho7 HB.out.size)
             have HX := Lib.hid ((hb7.block _ (heap_lt HX.out)).trans HX.out)
             have HB := Lib.hid (HB.out.trans (hb7.mono HB.out.size))
             clear k0 k1 k2 k3 k4 k5 ho7 hb7
             obtain ⟨k0, k1, k2, k3, k4, k5⟩ := Bx.cells6 HX.out
             )
          | (refine wpL_append _ rfl (.tmp 40) (.tmp 42) _ rfl w w.heap.size HB.out HB.out.size 5 _ 1 1 Try.underlying23 Num.info_u8 rfl (by omega) _ _ _ _ rfl HO.out _ _ _ _ rfl (Hd.out.below HB.out (Nat.le_refl _)) bytesV_one _ _ rfl (bytesV_append _ _).symm (by unfold maxLen; omega) (by omega) ?_
             intro A11 c11 w11 ho11 hb11 hg11 hl11
             have HB11 := Lib.hid hb11
             have O11 := Lib.hid ho11.rd
             clear ho11 hb11 hg11 hl11))
        go_ret
        exact ⟨A11, _, c11, rfl, by rw [Hby.out]; simpa [fb] using O11.out, HB11.out⟩
    · skip
      go_wp2_with (first
        | (go_at_call 88
           (with_reducible refine (hW _).mono ?_)
           rintro e w5 ⟨rfl, rfl⟩)
        | (go_at_call 89
           (with_reducible refine (hI _).mono ?_)
           rintro e w5 ⟨rfl, rfl⟩)
        | (go_at_call 90
           (with_reducible refine (hO _).mono ?_)
           rintro e w5 ⟨rfl, rfl⟩)
        | (go_at_call 94
           (with_reducible refine (Num.c_rPut64 _ _ _ _ _ I _ _ HO.out.rd (by first | rfl | exact hII.out | omega) (by omega) rfl (by omega)).mono ?_)
           rintro e w7 ⟨A7, c7, rfl, ho7, hb7⟩
           have HO := Lib.hid (Tw.Own.mono ho7 HB.out.size)
           have HX := Lib.hid ((hb7.block _ (heap_lt HX.out)).trans HX.out)
           have HB := Lib.hid (HB.out.trans (hb7.mono HB.out.size))
           clear k0 k1 k2 k3 k4 k5 ho7 hb7
           obtain ⟨k0, k1, k2, k3, k4, k5⟩ := Bx.cells6 HX.out
           )
        | (go_at_call 75
           (with_reducible refine (Num.c_rPut16 _ _ _ _ _ _ _ HO.out.rd rfl (by omega)).mono ?_)
           rintro e w7 ⟨A7, c7, rfl, ho7, hb7⟩
           rw [hOO.out] at ho7
           have HO := Lib.hid (Tw.Own.mono ho7 HB.out.size)
           have HX := Lib.hid ((hb7.block _ (heap_lt HX.out)).trans HX.out)
           have HB := Lib.hid (HB.out.trans (hb7.mono HB.out.size))
           clear k0 k1 k2 k3 k4 k5 ho7 hb7
           obtain ⟨k0, k1, k2, k3, k4, k5⟩ := Bx.cells6 HX.out
           )
        | (refine wpL_append _ rfl (.tmp 40) (.tmp 42) _ rfl w w.heap.size HB.out HB.out.size 5 _ 1 1 Try.underlying23 Num.info_u8 rfl (by omega) _ _ _ _ rfl HO.out _ _ _ _ rfl (Hd.out.below HB.out (Nat.le_refl _)) bytesV_one _ _ rfl (bytesV_append _ _).symm (by unfold maxLen; omega) (by omega) ?_
           intro A11 c11 w11 ho11 hb11 hg11 hl11
           have HB11 := Lib.hid hb11
           have O11 := Lib.hid ho11.rd
           clear ho11 hb11 hg11 hl11))
      go_ret
      exact ⟨A11, _, c11, rfl, by rw [Hby.out]; simpa [fb] using O11.out, HB11.out⟩
    · skip
      go_wp2_with (first
        | (go_at_call 88
           (with_reducible refine (hW _).mono ?_)
           rintro e w5 ⟨rfl, rfl⟩)
        | (go_at_call 89
           (with_reducible refine (hI _).mono ?_)
           rintro e w5 ⟨rfl, rfl⟩)
        | (go_at_call 90
           (with_reducible refine (hO _).mono ?_)
           rintro e w5 ⟨rfl, rfl⟩)
        | (go_at_call 94
           (with_reducible refine (Num.c_rPut64 _ _ _ _ _ I _ _ HO.out.rd (by first | rfl | exact hII.out | omega) (by omega) rfl (by omega)).mono ?_)
           rintro e w7 ⟨A7, c7, rfl, ho7, hb7⟩
           have HO := Lib.hid (Tw.Own.mono ho7 HB.out.size)
           have HX := Lib.hid ((hb7.block _ (heap_lt HX.out)).trans HX.out)
           have HB := Lib.hid (HB.out.trans (hb7.mono HB.out.size))
           clear k0 k1 k2 k3 k4 k5 ho7 hb7
           obtain ⟨k0, k1, k2, k3, k4, k5⟩ := Bx.cells6 HX.out
           )
        | (go_at_call 75
           (with_reducible refine (Num.c_rPut16 _ _ _ _ _ _ _ HO.out.rd rfl (by omega)).mono ?_)
           rintro e w7 ⟨A7, c7, rfl, ho7, hb7⟩
           rw [hOO.out] at ho7
           have HO := Lib.hid (Tw.Own.mono ho7 HB.out.size)
           have HX := Lib.hid ((hb7.block _ (heap_lt HX.out)).trans HX.out)
           have HB := Lib.hid (HB.out.trans (hb7.mono HB.out.size))
           clear k0 k1 k2 k3 k4 k5 ho7 hb7
           obtain ⟨k0, k1, k2, k3, k4, k5⟩ := Bx.cells6 HX.out
           )
        | (refine wpL_append _ rfl (.tmp 40) (.tmp 42) _ rfl w w.heap.size HB.out HB.out.size 5 _ 1 1 Try.underlying23 Num.info_u8 rfl (by omega) _ _ _ _ rfl HO.out _ _ _ _ rfl (Hd.out.below HB.out (Nat.le_refl _)) bytesV_one _ _ rfl (bytesV_append _ _).symm (by unfold maxLen; omega) (by omega) ?_
           intro A11 c11 w11 ho11 hb11 hg11 hl11
           have HB11 := Lib.hid hb11
           have O11 := Lib.hid ho11.rd
           clear ho11 hb11 hg11 hl11))
      go_ret
      exact ⟨A11, _, c11, rfl, by rw [Hby.out]; simpa [fb] using O11.out, HB11.out⟩
    · skip
      go_wp2_with (first
        | (go_at_call 88
           (with_reducible refine (hW _).mono ?_)
           rintro e w5 ⟨rfl, rfl⟩)
        | (go_at_call 89
           (with_reducible refine (hI _).mono ?_)
           rintro e w5 ⟨rfl, rfl⟩)
        | (go_at_call 90
           (with_reducible refine (hO _).mono ?_)
           rintro e w5 ⟨rfl, rfl⟩)
        | (go_at_call 94
           (with_reducible refine (Num.c_rPut64 _ _ _ _ _ I _ _ HO.out.rd (by first | rfl | exact hII.out | omega) (by omega) rfl (by omega)).mono ?_)
           rintro e w7 ⟨A7, c7, rfl, ho7, hb7⟩
           have HO := Lib.hid (Tw.Own.mono ho7 HB.out.size)
           have HX := Lib.hid ((hb7.block _ (heap_lt HX.out)).trans HX.out)
           have HB := Lib.hid (HB.out.trans (hb7.mono HB.out.size))
           clear k0 k1 k2 k3 k4 k5 ho7 hb7
           obtain ⟨k0, k1, k2, k3, k4, k5⟩ := Bx.cells6 HX.out
           )
        | (go_at_call 75
           (with_reducible refine (Num.c_rPut16 _ _ _ _ _ _ _ HO.out.rd rfl (by omega)).mono ?_)
           rintro e w7 ⟨A7, c7, rfl, ho7, hb7⟩
           rw [hOO.out] at ho7
           have HO := Lib.hid (Tw.Own.mono ho7 HB.out.size)
           have HX := Lib.hid ((hb7.block _ (heap_lt HX.out)).trans HX.out)
           have HB := Lib.hid (HB.out.trans (hb7.mono HB.out.size))
           clear k0 k1 k2 k3 k4 k5 ho7 hb7
           obtain ⟨k0, k1, k2, k3, k4, k5⟩ := Bx.cells6 HX.out
           )
        | (refine wpL_append _ rfl (.tmp 40) (.tmp 42) _ rfl w w.heap.size HB.out HB.out.size 5 _ 1 1 Try.underlying23 Num.info_u8 rfl (by omega) _ _ _ _ rfl HO.out _ _ _ _ rfl (Hd.out.below HB.out (Nat.le_refl _)) bytesV_one _ _ rfl (bytesV_append _ _).symm (by unfold maxLen; omega) (by omega) ?_
           intro A11 c11 w11 ho11 hb11 hg11 hl11
           have HB11 := Lib.hid hb11
           have O11 := Lib.hid ho11.rd
           clear ho11 hb11 hg11 hl11))
      go_ret
      exact ⟨A11, _, c11, rfl, by rw [Hby.out]; simpa [fb] using O11.out, HB11.out⟩
    · skip
      go_wp2_with (first
        | (go_at_call 88
           (with_reducible refine (hW _).mono ?_)
           rintro e w5 ⟨rfl, rfl⟩)
        | (go_at_call 89
           (with_reducible refine (hI _).mono ?_)
           rintro e w5 ⟨rfl, rfl⟩)
        | (go_at_call 90
           (with_reducible refine (hO _).mono ?_)
           rintro e w5 ⟨rfl, rfl⟩)
        | (go_at_call 94
           (with_reducible refine (Num.c_rPut64 _ _ _ _ _ I _ _ HO.out.rd (by first | rfl | exact hII.out | omega) (by omega) rfl (by omega)).mono ?_)
           rintro e w7 ⟨A7, c7, rfl, ho7, hb7⟩
           have HO := Lib.hid (Tw.Own.mono ho7 HB.out.size)
           have HX := Lib.hid ((hb7.block _ (heap_lt HX.out)).trans HX.out)
           have HB := Lib.hid (HB.out.trans (hb7.mono HB.out.size))
           clear k0 k1 k2 k3 k4 k5 ho7 hb7
           obtain ⟨k0, k1, k2, k3, k4, k5⟩ := Bx.cells6 HX.out
           )
        | (go_at_call 75
           (with_reducible refine (Num.c_rPut16 _ _ _ _ _ _ _ HO.out.rd rfl (by omega)).mono ?_)
           rintro e w7 ⟨A7, c7, rfl, ho7, hb7⟩
           rw [hOO.out] at ho7
           have HO := Lib.hid (Tw.Own.mono ho7 HB.out.size)
           have HX := Lib.hid ((hb7.block _ (heap_lt HX.out)).trans HX.out)
           have HB := Lib.hid (HB.out.trans (hb7.mono HB.out.size))
           clear k0 k1 k2 k3 k4 k5 ho7 hb7
           obtain ⟨k0, k1, k2, k3, k4, k5⟩ := Bx.cells6 HX.out
           )
        | (refine wpL_append _ rfl (.tmp 40) (.tmp 42) _ rfl w w.heap.size HB.out HB.out.size 5 _ 1 1 Try.underlying23 Num.info_u8 rfl (by omega) _ _ _ _ rfl HO.out _ _ _ _ rfl (Hd.out.below HB.out (Nat.le_refl _)) bytesV_one _ _ rfl (bytesV_append _ _).symm (by unfold maxLen; omega) (by omega) ?_
           intro A11 c11 w11 ho11 hb11 hg11 hl11
           have HB11 := Lib.hid hb11
           have O11 := Lib.hid ho11.rd
           clear ho11 hb11 hg11 hl11))
      go_ret
      exact ⟨A11, _, c11, rfl, by rw [Hby.out]; simpa [fb] using O11.out, HB11.out⟩
  · rw [if_neg hG] at hby
    have hd := Lib.hid (decide_eq_false hG)
    have Hby := Lib.hid hby
    generalize bytes k i o m wb d = BY at *
    obtain ⟨M, hM⟩ : ∃ M : Int, (m : Int) = M := ⟨_, rfl⟩
    rw [hM] at HB HX hgd
    have HM := Lib.hid hM
    clear hG hby hM
    go_enter Try.func32, Try.ntmps32
    go_upto_region 1 with (fail)
    rw [HM.out]
    generalize w.alloc (.cells #[.int .i64 k, .int .i64 i, .int .i64 o, .int .u64 M, .bool wb, .slice A n cp] 42) = W1 at *
    obtain ⟨k0, k1, k2, k3, k4, k5⟩ := Bx.cells6 HX.out
    go_wp2_with (first
      | (go_at_call 30
         (with_reducible refine (hgd _).mono ?_)
         rintro e w1 ⟨rfl, hb1⟩
         rw [hd.out]
         have HB1 := Lib.hid (HB.out.trans (hb1.mono HB.out.size))
         clear hb1 hgd))
    go_ret
    exact ⟨none, 0, 0, rfl, by rw [Hby.out]; exact Rd.nil_, HB1.out⟩
end Go.Proofs.Ytdpggcpbgfancaa.Pack
