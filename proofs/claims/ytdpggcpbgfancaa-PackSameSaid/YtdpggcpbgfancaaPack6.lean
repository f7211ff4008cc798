/- Contracts of the package pack: Bytes. Conditions: none. -/
import Derived.Test.YtdpggcpbgfancaaPack3
set_option linter.unusedVariables false
set_option linter.unusedSimpArgs false
namespace Go.Proofs.Ytdpggcpbgfancaa.Tw
open Go.RowKit
section
variable {P : Program} (w : World)
/-- append onto a full slice, as one operation -/
theorem wp_append_full {o : Oper} {a : Act} {K : Act → World → Prop} {Q : Exit → Act → World → Prop} (s x : Operand) (t : TypeId)
    (ho : o.op = .call { callee := .builtin .append, args := #[s, x], argTypes := #[t, t] })
    (base : Nat) (hbase : base ≤ w.heap.size) (e : TypeId) (z : Value) (size bytes : Nat) (ht : P.underlying t = some (.slice e)) (hinfo : (P.info? e).map (fun i => (i.zero, i.size, i.bytes)) = some (some z, size, bytes))
    (hzs : z.cells.size = size) (A : Option Addr) (n : Nat) (xs : List Value) (hs : a.eval s = .slice A n n) (hr0 : Rd w size A n n xs)
    (A' : Option Addr) (m c' : Nat) (news : List Value) (hx : a.eval x = .slice A' m c') (hr : Rd w size A' m c' news) (hm : 0 < m)
    (N : Nat) (ys : List Value) (hN : n + m = N) (hys : xs ++ news = ys) (h63 : N ≤ maxLen) (hbytes : N * bytes ≤ 140737488355328)
    (h : ∀ c2 w', Own w' base e size (some ⟨w.heap.size, 0, none⟩) N c2 ys → w.grownBy w' none → K (a.put o.dst (.slice (some ⟨w.heap.size, 0, none⟩) N c2)) w') : o.wp P a w K Q := by
  subst hN hys
  obtain ⟨c2, w', hrun, h2, h3⟩ := run_append_full (P := P) w base t o.type e z size bytes ht hinfo hzs A n xs hr0 A' m c' news hr hm h63 hbytes hbase
  unfold Oper.wp execOp
  simp only [ho, resolve, invoke, builtin, Sem.run_bind, Sem.run_pure, Result.andThen_ok, List.map_toArray, List.map_cons, List.map_nil, hs, hx, hrun]
  exact h c2 w' h2 h3
end
end Go.Proofs.Ytdpggcpbgfancaa.Tw
namespace Go.Proofs.Ytdpggcpbgfancaa.Pack
open Go.RowKit Tw
set_option maxHeartbeats 8000000
set_option maxRecDepth 100000
def fb (wb : Bool) : UInt8 := if wb = true then 1 else 0
def raw (k i o : Int) (m : Nat) (wb : Bool) (d : List UInt8) : List UInt8 :=
  ((([UInt8.ofNat k.toNat] ++ (if kW k = true then [fb wb] ++ Num.be 8 m else [])) ++ (if kI k = true then Num.be 8 i.toNat else [])) ++ (if kO k = true then Num.be 2 o.toNat else [])) ++ d
def bytes (k i o : Int) (m : Nat) (wb : Bool) (d : List UInt8) : List UInt8 := if Good k i o m wb d.length then raw k i o m wb d else []
theorem c_Bytes (k i o : Int) (m : Nat) (wb : Bool) (A : Option Addr) (n cp : Nat) (d : List UInt8) (w : World) (hm : m < 18446744073709551616) (hb : Byt w A n cp d) :
    Calls Try.prog 31 #[.agg #[.int .i64 k, .int .i64 i, .int .i64 o, .int .u64 (m : Int), .bool wb, .slice A n cp]] w fun e w' => ∃ A2 n2 c2, e = .returned (.slice A2 n2 c2) ∧ Byt w' A2 n2 c2 (bytes k i o m wb d) ∧ Below w.heap.size w w' := by
  have hlen := hb.blen
  have HB := Lib.hid ((Below.refl _ _).alloc (Nat.le_refl w.heap.size) (.cells #[.int .i64 k, .int .i64 i, .int .i64 o, .int .u64 (m : Int), .bool wb, .slice A n cp] 42))
  have HX := Lib.hid (heap_alloc_new w (.cells #[.int .i64 k, .int .i64 i, .int .i64 o, .int .u64 (m : Int), .bool wb, .slice A n cp] 42))
  have Hd := Lib.hid hb
  have hgd := fun w => c_Good k i o m wb A n cp w
  have hby : bytes k i o m wb d = if Good k i o m wb n then raw k i o m wb d else [] := by unfold bytes; rw [hlen]
  clear hb
  by_cases hG : Good k i o m wb n
  · rw [if_pos hG] at hby
    have hd := Lib.hid (decide_eq_true hG)
    have hg' : (1 ≤ k ∧ k ≤ 8) ∧ 0 ≤ i ∧ i ≤ 72057594037927935 ∧ 0 ≤ o ∧ o ≤ 255 ∧ n ≤ 128 := by unfold Good at hG; omega
    obtain ⟨⟨q1, q2⟩, q3, q4, q5, q6, q7⟩ := hg'
    obtain ⟨K, rfl⟩ : ∃ K : Nat, k = (K : Int) := ⟨k.toNat, by omega⟩
    obtain ⟨I, rfl⟩ : ∃ I : Nat, i = (I : Int) := ⟨i.toNat, by omega⟩
    obtain ⟨O, rfl⟩ : ∃ O : Nat, o = (O : Int) := ⟨o.toNat, by omega⟩
    clear hG
    have hof : ∀ w, Calls Try.prog 85 #[.int .i64 (K : Int)] w fun e w' => e = .returned (.tuple #[.agg #[.string (nm (K : Int)), .bool (kW (K : Int)), .bool (kI (K : Int)), .bool (kO (K : Int)), .bool (kD (K : Int))], .bool (kk (K : Int))]) ∧ Below w.heap.size w w' := fun w => c_of (K : Int) w
    unfold raw at hby
    simp only [Int.toNat_natCast] at hby
    generalize bytes (K : Int) (I : Int) (O : Int) m wb d = BY at *
    have hk5 : (kW (K : Int) = true ∧ kI (K : Int) = false ∧ kO (K : Int) = false) ∨ (kW (K : Int) = false ∧ kI (K : Int) = true ∧ kO (K : Int) = true) ∨ (kW (K : Int) = false ∧ kI (K : Int) = true ∧ kO (K : Int) = false) ∨ (kW (K : Int) = false ∧ kI (K : Int) = false ∧ kO (K : Int) = true) ∨ (kW (K : Int) = false ∧ kI (K : Int) = false ∧ kO (K : Int) = false) := by
      unfold kW kI kO
      simp only [decide_eq_true_eq, decide_eq_false_iff_not]
      omega
    generalize nm (K : Int) = s at *
    generalize kW (K : Int) = a at *
    generalize kI (K : Int) = b at *
    generalize kO (K : Int) = c at *
    generalize kD (K : Int) = e at *
    generalize kk (K : Int) = q at *
    have hkk : Hid (IntKind.u8.wrap (K : Int) = (K : Int)) := Lib.hid (by rw [IntKind.wrap_u8]; omega)
    have hOO : Hid (((O : Int) % 65536).toNat = O) := Lib.hid (by omega)
    have h01 : Hid ([Value.int .u8 (K : Int)] = bytesV [UInt8.ofNat K]) := Lib.hid (by simp [bytesV]; omega)
    obtain ⟨M, hM⟩ : ∃ M : Int, (m : Int) = M := ⟨_, rfl⟩
    rw [hM] at HB HX hgd
    have HM := Lib.hid hM
    have Hby := Lib.hid hby
    have Hn := Lib.hid hlen
    clear hM hby hlen
    go_enter Try.func31, Try.ntmps31
    go_upto_region 1 with (fail)
    rw [HM.out]
    generalize w.alloc (.cells #[.int .i64 (K : Int), .int .i64 (I : Int), .int .i64 (O : Int), .int .u64 M, .bool wb, .slice A n cp] 42) = W1 at *
    obtain ⟨k0, k1, k2, k3, k4, k5⟩ := Bx.cells6 HX.out
    have Hk5 := Lib.hid hk5
    clear hk5
    go_upto_region 4 with (first
      | (go_at_call 29
         (with_reducible refine (hgd _).mono ?_)
         rintro e w1 ⟨rfl, hb1⟩
         rw [hd.out]
         have HB := Lib.hid (HB.out.trans (hb1.mono HB.out.size))
         have HX := Lib.hid ((hb1.block _ (heap_lt HX.out)).trans HX.out)
         clear k0 k1 k2 k3 k4 k5 hb1 hgd
         obtain ⟨k0, k1, k2, k3, k4, k5⟩ := Bx.cells6 HX.out)
      | (go_at_call 85
         (with_reducible refine (hof _).mono ?_)
         rintro e w2 ⟨rfl, hb1⟩
         have HB := Lib.hid (HB.out.trans (hb1.mono HB.out.size))
         have HX := Lib.hid ((hb1.block _ (heap_lt HX.out)).trans HX.out)
         clear hb1 hof)
      | (refine Bx.wpL_store_all rfl rfl 119 (.tmp 3) (.tmp 14) rfl _ rfl _ rfl _ _ (heap_alloc_new w2 _) (by kernel_rfl) rfl (one5 _ _ _ _ _) ?_
         intro w4 x4 g4
         have F4 : Fr (fun k => k = w2.heap.size) w2 w4 := (Fr.alloc _).trans (Fr.grown (S := fun k => k = w2.heap.size) g4 (by rintro k ⟨⟩; rfl)) (fun _ _ h => h)
         have bel4 : Below w2.heap.size w2 w4 := F4.bel (fun k e => by omega) (Nat.le_refl _)
         have HX := Lib.hid ((bel4.block _ (heap_lt HX.out)).trans HX.out)
         have HS := Lib.hid x4
         have HB := Lib.hid (HB.out.trans (bel4.mono HB.out.size))
         clear x4 g4 F4 bel4 k0 k1 k2 k3 k4 k5
         obtain ⟨k0, k1, k2, k3, k4, k5⟩ := Bx.cells6 HX.out)
      | fail)
    go_upto_region 5 with (first
      | (simp only [hkk.out])
      | fail)
    have HO : Hid (Own (w4.alloc (.cells #[.int .u8 (K : Int)] 5)) w.heap.size 5 1 (some ⟨w4.heap.size, 0, none⟩) 1 1 (bytesV [UInt8.ofNat K])) := Lib.hid (h01.out ▸ own_lit w4 w.heap.size 5 1 #[.int .u8 (K : Int)] 1 HB.out.size (by simp [maxLen]) (by simp))
    replace HX := Lib.hid ((Below.heap_alloc w4 (.cells #[.int .u8 (K : Int)] 5) _ (heap_lt HX.out)).trans HX.out)
    replace HS := Lib.hid ((Below.heap_alloc w4 (.cells #[.int .u8 (K : Int)] 5) _ (heap_lt HS.out)).trans HS.out)
    replace HB := Lib.hid (bel_alloc HB.out HB.out.size (.cells #[.int .u8 (K : Int)] 5))
    clear k0 k1 k2 k3 k4 k5
    generalize w4.alloc (.cells #[.int .u8 (K : Int)] 5) = W5 at *
    generalize w4.heap.size = g0 at *
    obtain ⟨k0, k1, k2, k3, k4, k5⟩ := Bx.cells6 HX.out
    obtain ⟨l0, l1, l2, l3, l4⟩ := cells5 HS.out
    have hII : Hid (IntKind.u64.wrap (I : Int) = (I : Int)) := Lib.hid (by rw [IntKind.wrap_u64]; omega)
    rcases Hk5.out with ⟨rfl, rfl, rfl⟩ | ⟨rfl, rfl, rfl⟩ | ⟨rfl, rfl, rfl⟩ | ⟨rfl, rfl, rfl⟩ | ⟨rfl, rfl, rfl⟩
    · cases wb with
      | true =>
        go_upto_region 9 with (fail)
        skip
        refine wp_region_phi (by kernel_rfl) 7 none (fun _ => false) (fun i_ v wz => match i_ with
          | 0 => v = .slice (some ⟨g0, 0, none⟩) 1 1
          | 1 => v = .int .u8 1
          | 2 => ∃ g8, v = .slice (some ⟨g8, 0, none⟩) 1 1 ∧ Own wz w.heap.size 5 1 (some ⟨g8, 0, none⟩) 1 1 (bytesV [1])
          | 3 => ∃ A6 c6, v = .slice A6 2 c6 ∧ Own wz w.heap.size 5 1 A6 2 c6 (bytesV ([UInt8.ofNat K] ++ [1]))
          | 4 => v = .pointer (some ⟨w.heap.size, 3, none⟩)
          | 5 => v = .int .u64 M
          | 6 => ∃ A6 c6, v = .slice A6 10 c6 ∧ Own wz w.heap.size 5 1 A6 10 c6 (bytesV (([UInt8.ofNat K] ++ [1]) ++ Num.be 8 m))
          | _ => True) (by kernel_rfl) ?_ ?_ ?_
        · (repeat' (first | exact allLt_zero | refine allLt_succ ?_ ?_))
          · exact fun _ _ _ h _ => h
          · exact fun _ _ _ h _ => h
          · intro v w1 w2 h hg
            rw [show kindRow _ _ = none from by kernel_rfl] at hg
            obtain ⟨g8, rfl, hr⟩ := h
            exact ⟨g8, rfl, Tw.Own.bel hr (bel_grown hg)⟩
          · intro v w1 w2 h hg
            rw [show kindRow _ _ = none from by kernel_rfl] at hg
            obtain ⟨A6, c6, rfl, hr⟩ := h
            exact ⟨A6, c6, rfl, Tw.Own.bel hr (bel_grown hg)⟩
          · exact fun _ _ _ h _ => h
          · exact fun _ _ _ h _ => h
          · intro v w1 w2 h hg
            rw [show kindRow _ _ = none from by kernel_rfl] at hg
            obtain ⟨A6, c6, rfl, hr⟩ := h
            exact ⟨A6, c6, rfl, Tw.Own.bel hr (bel_grown hg)⟩
        · (repeat' (first | exact allLt_zero | refine allLt_succ ?_ ?_))
          · intro a w' hf he
            have k5 : a.tmps.getD 5 undef = .slice (some ⟨g0, 0, none⟩) 1 1 := hf.var (by kernel_rfl) rfl
            refine wpOp_step rfl (fun K hK => ?_)
            go_simp
            exact hK _ _ ⟨_, rfl, rfl, World.grownBy.refl _ _⟩
          · intro a w' hf he
            have k6 : a.tmps.getD 6 undef = .int .u8 1 := hf.var (by kernel_rfl) rfl
            refine wpOp_step rfl (fun K hK => ?_)
            go_simp
            exact hK _ _ ⟨_, rfl, rfl, World.grownBy.refl _ _⟩
          · intro a w' hf he
            have f1 : a.tmps.getD 25 undef = .int .u8 1 := he 1 (by kernel_rfl)
            have e1 : a.tmps[25]?.getD undef = _ := Array.getD_eq_getD_getElem? .. ▸ f1
            rw [show kindRow _ _ = none from by kernel_rfl] at hf
            refine wpOp_step rfl (fun K hK => ?_)
            go_simp
            exact hK _ _ ⟨_, rfl, ⟨_, rfl, own_lit w' _ _ 1 _ 1 (Nat.le_trans HB.out.size hf.bel.size) (by simp [maxLen]) (by simp)⟩, World.grownBy_alloc _ _ _⟩
          · intro a w' hf he
            have f0 : a.tmps.getD 24 undef = .slice (some ⟨g0, 0, none⟩) 1 1 := he 0 (by kernel_rfl)
            obtain ⟨g2, hv2, hr2⟩ := he 2 (by kernel_rfl)
            have f2 : a.tmps.getD 26 undef = _ := hv2
            rw [show kindRow _ _ = none from by kernel_rfl] at hf
            refine wpOp_step rfl (fun K hK => ?_)
            refine wp_append_full w' (.tmp 24) (.tmp 26) 23 rfl w.heap.size (Nat.le_trans HB.out.size hf.bel.size) 5 _ 1 1 Try.underlying23 Num.info_u8 rfl _ 1 _ f0 (Tw.Own.bel HO.out hf.bel).rd _ 1 1 _ f2 hr2.rd (by omega) 2 _ rfl (bytesV_append _ _).symm (by unfold maxLen; omega) (by omega) ?_
            intro c2 w2 hown2 hg2
            exact hK _ _ ⟨_, rfl, ⟨_, c2, rfl, hown2⟩, hg2⟩
          · intro a w' hf he
            have k1 : a.tmps.getD 1 undef = .pointer (some ⟨w.heap.size, 0, none⟩) := hf.var (by kernel_rfl) rfl
            refine wpOp_step rfl (fun K hK => ?_)
            go_simp
            exact hK _ _ ⟨_, rfl, rfl, World.grownBy.refl _ _⟩
          · intro a w' hf he
            have f4 : a.tmps.getD 28 undef = .pointer (some ⟨w.heap.size, 3, none⟩) := he 4 (by kernel_rfl)
            rw [show kindRow _ _ = none from by kernel_rfl] at hf
            have q3 := (Bx.cells6 ((hf.bel.block _ (heap_lt HX.out)).trans HX.out)).2.2.2.1
            refine wpOp_step rfl (fun K hK => ?_)
            go_simp
            exact hK _ _ ⟨_, rfl, rfl, World.grownBy.refl _ _⟩
          · intro a w' hf he
            obtain ⟨A3, c3, hv3, hr3⟩ := he 3 (by kernel_rfl)
            have f3 : a.tmps.getD 27 undef = _ := hv3
            have f5 : a.tmps.getD 29 undef = .int .u64 M := he 5 (by kernel_rfl)
            rw [show kindRow _ _ = none from by kernel_rfl] at hf
            refine wpOp_step rfl (fun K hK => ?_)
            go_simp
            (with_reducible refine (Num.c_Put64 _ _ _ _ _ m 10 _ hr3.rd HM.out.symm hm rfl (by omega)).mono ?_)
            rintro e w2 ⟨A2, c2, rfl, ho2, hb2⟩
            exact hK _ _ ⟨_, rfl, ⟨_, _, rfl, Tw.Own.mono ho2 (Nat.le_trans HB.out.size hf.bel.size)⟩, grown_bel hb2⟩
        · intro a w' hf he
          obtain ⟨u24, f0⟩ : ∃ u, a.tmps.getD 24 undef = u := ⟨_, rfl⟩
          obtain ⟨u25, f1⟩ : ∃ u, a.tmps.getD 25 undef = u := ⟨_, rfl⟩
          obtain ⟨u26, f2⟩ : ∃ u, a.tmps.getD 26 undef = u := ⟨_, rfl⟩
          obtain ⟨u27, f3⟩ : ∃ u, a.tmps.getD 27 undef = u := ⟨_, rfl⟩
          obtain ⟨u28, f4⟩ : ∃ u, a.tmps.getD 28 undef = u := ⟨_, rfl⟩
          obtain ⟨u29, f5⟩ : ∃ u, a.tmps.getD 29 undef = u := ⟨_, rfl⟩
          obtain ⟨A6, c6, hv6, hr6⟩ := he 6 (by decide)
          have f6 : a.tmps.getD 30 undef = _ := hv6
          have hlit := hf.lit ((24, u24) :: (25, u25) :: (26, u26) :: (27, u27) :: (28, u28) :: (29, u29) :: (30, _) :: []) (by kernel_rfl) ⟨f0, f1, f2, f3, f4, f5, f6, trivial⟩
          have hB := hf.bel
          clear he hf f0 f1 f2 f3 f4 f5 f6 hv6
          subst hlit
          simp only [putAll_nil, putAll_cons, Act.put, List.setIfInBounds_toArray, List.set_cons_zero, List.set_cons_succ]
          simp only [List.drop_succ_cons, List.drop_zero]
          have HO := Lib.hid hr6
          have HX := Lib.hid ((hB.block _ (heap_lt HX.out)).trans HX.out)
          have HS := Lib.hid ((hB.block _ (heap_lt HS.out)).trans HS.out)
          have HB := Lib.hid (HB.out.trans (hB.mono HB.out.size))
          clear k0 k1 k2 k3 k4 k5 l0 l1 l2 l3 l4 hr6 hB
          obtain ⟨k0, k1, k2, k3, k4, k5⟩ := Bx.cells6 HX.out
          obtain ⟨l0, l1, l2, l3, l4⟩ := cells5 HS.out
          go_wp2_with (first
            | (go_at_call 92
               (with_reducible refine (Num.c_Put64 _ _ _ _ _ I _ _ HO.out.rd (by first | rfl | exact hII.out | omega) (by omega) rfl (by omega)).mono ?_)
               rintro e w7 ⟨A7, c7, rfl, ho7, hb7⟩
               have HO := Lib.hid (Tw.Own.mono ho7 HB.out.size)
               have HX := Lib.hid ((hb7.block _ (heap_lt HX.out)).trans HX.out)
               have HS := Lib.hid ((hb7.block _ (heap_lt HS.out)).trans HS.out)
               have HB := Lib.hid (HB.out.trans (hb7.mono HB.out.size))
               clear k0 k1 k2 k3 k4 k5 l0 l1 l2 l3 l4 ho7 hb7
               obtain ⟨k0, k1, k2, k3, k4, k5⟩ := Bx.cells6 HX.out
               obtain ⟨l0, l1, l2, l3, l4⟩ := cells5 HS.out
               )
            | (go_at_call 93
               (with_reducible refine (Num.c_Put16 _ _ _ _ _ _ _ HO.out.rd rfl (by omega)).mono ?_)
               rintro e w7 ⟨A7, c7, rfl, ho7, hb7⟩
               rw [hOO.out] at ho7
               have HO := Lib.hid (Tw.Own.mono ho7 HB.out.size)
               have HX := Lib.hid ((hb7.block _ (heap_lt HX.out)).trans HX.out)
               have HS := Lib.hid ((hb7.block _ (heap_lt HS.out)).trans HS.out)
               have HB := Lib.hid (HB.out.trans (hb7.mono HB.out.size))
               clear k0 k1 k2 k3 k4 k5 l0 l1 l2 l3 l4 ho7 hb7
               obtain ⟨k0, k1, k2, k3, k4, k5⟩ := Bx.cells6 HX.out
               obtain ⟨l0, l1, l2, l3, l4⟩ := cells5 HS.out
               )
            | (refine wpL_append _ rfl (.tmp 44) (.tmp 46) _ rfl w w.heap.size HB.out HB.out.size 5 _ 1 1 Try.underlying23 Num.info_u8 rfl (by omega) _ _ _ _ rfl HO.out _ _ _ _ rfl (Hd.out.below HB.out (Nat.le_refl _)) bytesV_one _ _ rfl (bytesV_append _ _).symm (by unfold maxLen; omega) (by omega) ?_
               intro A11 c11 w11 ho11 hb11 hg11 hl11
               have HB11 := Lib.hid hb11
               have O11 := Lib.hid ho11.rd
               clear ho11 hb11 hg11 hl11))
          go_ret
          exact ⟨A11, _, c11, rfl, by rw [Hby.out]; simpa [fb] using O11.out, HB11.out⟩
      | false =>
        go_upto_region 9 with (fail)
        skip
        refine wp_region_phi (by kernel_rfl) 7 none (fun _ => false) (fun i_ v wz => match i_ with
          | 0 => v = .slice (some ⟨g0, 0, none⟩) 1 1
          | 1 => v = .int .u8 0
          | 2 => ∃ g8, v = .slice (some ⟨g8, 0, none⟩) 1 1 ∧ Own wz w.heap.size 5 1 (some ⟨g8, 0, none⟩) 1 1 (bytesV [0])
          | 3 => ∃ A6 c6, v = .slice A6 2 c6 ∧ Own wz w.heap.size 5 1 A6 2 c6 (bytesV ([UInt8.ofNat K] ++ [0]))
          | 4 => v = .pointer (some ⟨w.heap.size, 3, none⟩)
          | 5 => v = .int .u64 M
          | 6 => ∃ A6 c6, v = .slice A6 10 c6 ∧ Own wz w.heap.size 5 1 A6 10 c6 (bytesV (([UInt8.ofNat K] ++ [0]) ++ Num.be 8 m))
          | _ => True) (by kernel_rfl) ?_ ?_ ?_
        · (repeat' (first | exact allLt_zero | refine allLt_succ ?_ ?_))
          · exact fun _ _ _ h _ => h
          · exact fun _ _ _ h _ => h
          · intro v w1 w2 h hg
            rw [show kindRow _ _ = none from by kernel_rfl] at hg
            obtain ⟨g8, rfl, hr⟩ := h
            exact ⟨g8, rfl, Tw.Own.bel hr (bel_grown hg)⟩
          · intro v w1 w2 h hg
            rw [show kindRow _ _ = none from by kernel_rfl] at hg
            obtain ⟨A6, c6, rfl, hr⟩ := h
            exact ⟨A6, c6, rfl, Tw.Own.bel hr (bel_grown hg)⟩
          · exact fun _ _ _ h _ => h
          · exact fun _ _ _ h _ => h
          · intro v w1 w2 h hg
            rw [show kindRow _ _ = none from by kernel_rfl] at hg
            obtain ⟨A6, c6, rfl, hr⟩ := h
            exact ⟨A6, c6, rfl, Tw.Own.bel hr (bel_grown hg)⟩
        · (repeat' (first | exact allLt_zero | refine allLt_succ ?_ ?_))
          · intro a w' hf he
            have k5 : a.tmps.getD 5 undef = .slice (some ⟨g0, 0, none⟩) 1 1 := hf.var (by kernel_rfl) rfl
            refine wpOp_step rfl (fun K hK => ?_)
            go_simp
            exact hK _ _ ⟨_, rfl, rfl, World.grownBy.refl _ _⟩
          · intro a w' hf he
            have k6 : a.tmps.getD 6 undef = .int .u8 0 := hf.var (by kernel_rfl) rfl
            refine wpOp_step rfl (fun K hK => ?_)
            go_simp
            exact hK _ _ ⟨_, rfl, rfl, World.grownBy.refl _ _⟩
          · intro a w' hf he
            have f1 : a.tmps.getD 25 undef = .int .u8 0 := he 1 (by kernel_rfl)
            have e1 : a.tmps[25]?.getD undef = _ := Array.getD_eq_getD_getElem? .. ▸ f1
            rw [show kindRow _ _ = none from by kernel_rfl] at hf
            refine wpOp_step rfl (fun K hK => ?_)
            go_simp
            exact hK _ _ ⟨_, rfl, ⟨_, rfl, own_lit w' _ _ 1 _ 1 (Nat.le_trans HB.out.size hf.bel.size) (by simp [maxLen]) (by simp)⟩, World.grownBy_alloc _ _ _⟩
          · intro a w' hf he
            have f0 : a.tmps.getD 24 undef = .slice (some ⟨g0, 0, none⟩) 1 1 := he 0 (by kernel_rfl)
            obtain ⟨g2, hv2, hr2⟩ := he 2 (by kernel_rfl)
            have f2 : a.tmps.getD 26 undef = _ := hv2
            rw [show kindRow _ _ = none from by kernel_rfl] at hf
            refine wpOp_step rfl (fun K hK => ?_)
            refine wp_append_full w' (.tmp 24) (.tmp 26) 23 rfl w.heap.size (Nat.le_trans HB.out.size hf.bel.size) 5 _ 1 1 Try.underlying23 Num.info_u8 rfl _ 1 _ f0 (Tw.Own.bel HO.out hf.bel).rd _ 1 1 _ f2 hr2.rd (by omega) 2 _ rfl (bytesV_append _ _).symm (by unfold maxLen; omega) (by omega) ?_
            intro c2 w2 hown2 hg2
            exact hK _ _ ⟨_, rfl, ⟨_, c2, rfl, hown2⟩, hg2⟩
          · intro a w' hf he
            have k1 : a.tmps.getD 1 undef = .pointer (some ⟨w.heap.size, 0, none⟩) := hf.var (by kernel_rfl) rfl
            refine wpOp_step rfl (fun K hK => ?_)
            go_simp
            exact hK _ _ ⟨_, rfl, rfl, World.grownBy.refl _ _⟩
          · intro a w' hf he
            have f4 : a.tmps.getD 28 undef = .pointer (some ⟨w.heap.size, 3, none⟩) := he 4 (by kernel_rfl)
            rw [show kindRow _ _ = none from by kernel_rfl] at hf
            have q3 := (Bx.cells6 ((hf.bel.block _ (heap_lt HX.out)).trans HX.out)).2.2.2.1
            refine wpOp_step rfl (fun K hK => ?_)
            go_simp
            exact hK _ _ ⟨_, rfl, rfl, World.grownBy.refl _ _⟩
          · intro a w' hf he
            obtain ⟨A3, c3, hv3, hr3⟩ := he 3 (by kernel_rfl)
            have f3 : a.tmps.getD 27 undef = _ := hv3
            have f5 : a.tmps.getD 29 undef = .int .u64 M := he 5 (by kernel_rfl)
            rw [show kindRow _ _ = none from by kernel_rfl] at hf
            refine wpOp_step rfl (fun K hK => ?_)
            go_simp
            (with_reducible refine (Num.c_Put64 _ _ _ _ _ m 10 _ hr3.rd HM.out.symm hm rfl (by omega)).mono ?_)
            rintro e w2 ⟨A2, c2, rfl, ho2, hb2⟩
            exact hK _ _ ⟨_, rfl, ⟨_, _, rfl, Tw.Own.mono ho2 (Nat.le_trans HB.out.size hf.bel.size)⟩, grown_bel hb2⟩
        · intro a w' hf he
          obtain ⟨u24, f0⟩ : ∃ u, a.tmps.getD 24 undef = u := ⟨_, rfl⟩
          obtain ⟨u25, f1⟩ : ∃ u, a.tmps.getD 25 undef = u := ⟨_, rfl⟩
          obtain ⟨u26, f2⟩ : ∃ u, a.tmps.getD 26 undef = u := ⟨_, rfl⟩
          obtain ⟨u27, f3⟩ : ∃ u, a.tmps.getD 27 undef = u := ⟨_, rfl⟩
          obtain ⟨u28, f4⟩ : ∃ u, a.tmps.getD 28 undef = u := ⟨_, rfl⟩
          obtain ⟨u29, f5⟩ : ∃ u, a.tmps.getD 29 undef = u := ⟨_, rfl⟩
          obtain ⟨A6, c6, hv6, hr6⟩ := he 6 (by decide)
          have f6 : a.tmps.getD 30 undef = _ := hv6
          have hlit := hf.lit ((24, u24) :: (25, u25) :: (26, u26) :: (27, u27) :: (28, u28) :: (29, u29) :: (30, _) :: []) (by kernel_rfl) ⟨f0, f1, f2, f3, f4, f5, f6, trivial⟩
          have hB := hf.bel
          clear he hf f0 f1 f2 f3 f4 f5 f6 hv6
          subst hlit
          simp only [putAll_nil, putAll_cons, Act.put, List.setIfInBounds_toArray, List.set_cons_zero, List.set_cons_succ]
          simp only [List.drop_succ_cons, List.drop_zero]
          have HO := Lib.hid hr6
          have HX := Lib.hid ((hB.block _ (heap_lt HX.out)).trans HX.out)
          have HS := Lib.hid ((hB.block _ (heap_lt HS.out)).trans HS.out)
          have HB := Lib.hid (HB.out.trans (hB.mono HB.out.size))
          clear k0 k1 k2 k3 k4 k5 l0 l1 l2 l3 l4 hr6 hB
          obtain ⟨k0, k1, k2, k3, k4, k5⟩ := Bx.cells6 HX.out
          obtain ⟨l0, l1, l2, l3, l4⟩ := cells5 HS.out
          go_wp2_with (first
            | (go_at_call 92
               (with_reducible refine (Num.c_Put64 _ _ _ _ _ I _ _ HO.out.rd (by first | rfl | exact hII.out | omega) (by omega) rfl (by omega)).mono ?_)
               rintro e w7 ⟨A7, c7, rfl, ho7, hb7⟩
               have HO := Lib.hid (Tw.Own.mono ho7 HB.out.size)
               have HX := Lib.hid ((hb7.block _ (heap_lt HX.out)).trans HX.out)
               have HS := Lib.hid ((hb7.block _ (heap_lt HS.out)).trans HS.out)
               have HB := Lib.hid (HB.out.trans (hb7.mono HB.out.size))
               clear k0 k1 k2 k3 k4 k5 l0 l1 l2 l3 l4 ho7 hb7
               obtain ⟨k0, k1, k2, k3, k4, k5⟩ := Bx.cells6 HX.out
               obtain ⟨l0, l1, l2, l3, l4⟩ := cells5 HS.out
               )
            | (go_at_call 93
               (with_reducible refine (Num.c_Put16 _ _ _ _ _ _ _ HO.out.rd rfl (by omega)).mono ?_)
               rintro e w7 ⟨A7, c7, rfl, ho7, hb7⟩
               rw [hOO.out] at ho7
               have HO := Lib.hid (Tw.Own.mono ho7 HB.out.size)
               have HX := Lib.hid ((hb7.block _ (heap_lt HX.out)).trans HX.out)
               have HS := Lib.hid ((hb7.block _ (heap_lt HS.out)).trans HS.out)
               have HB := Lib.hid (HB.out.trans (hb7.mono HB.out.size))
               clear k0 k1 k2 k3 k4 k5 l0 l1 l2 l3 l4 ho7 hb7
               obtain ⟨k0, k1, k2, k3, k4, k5⟩ := Bx.cells6 HX.out
               obtain ⟨l0, l1, l2, l3, l4⟩ := cells5 HS.out
               )
            | (refine wpL_append _ rfl (.tmp 44) (.tmp 46) _ rfl w w.heap.size HB.out HB.out.size 5 _ 1 1 Try.underlying23 Num.info_u8 rfl (by omega) _ _ _ _ rfl HO.out _ _ _ _ rfl (Hd.out.below HB.out (Nat.le_refl _)) bytesV_one _ _ rfl (bytesV_append _ _).symm (by unfold maxLen; omega) (by omega) ?_
               intro A11 c11 w11 ho11 hb11 hg11 hl11
               have HB11 := Lib.hid hb11
               have O11 := Lib.hid ho11.rd
               clear ho11 hb11 hg11 hl11))
          go_ret
          exact ⟨A11, _, c11, rfl, by rw [Hby.out]; simpa [fb] using O11.out, HB11.out⟩
    · skip
      go_wp2_with (first
        | (go_at_call 92
           (with_reducible refine (Num.c_Put64 _ _ _ _ _ I _ _ HO.out.rd (by first | rfl | exact hII.out | omega) (by omega) rfl (by omega)).mono ?_)
           rintro e w7 ⟨A7, c7, rfl, ho7, hb7⟩
           have HO := Lib.hid (Tw.Own.mono ho7 HB.out.size)
           have HX := Lib.hid ((hb7.block _ (heap_lt HX.out)).trans HX.out)
           have HS := Lib.hid ((hb7.block _ (heap_lt HS.out)).trans HS.out)
           have HB := Lib.hid (HB.out.trans (hb7.mono HB.out.size))
           clear k0 k1 k2 k3 k4 k5 l0 l1 l2 l3 l4 ho7 hb7
           obtain ⟨k0, k1, k2, k3, k4, k5⟩ := Bx.cells6 HX.out
           obtain ⟨l0, l1, l2, l3, l4⟩ := cells5 HS.out
           )
        | (go_at_call 93
           (with_reducible refine (Num.c_Put16 _ _ _ _ _ _ _ HO.out.rd rfl (by omega)).mono ?_)
           rintro e w7 ⟨A7, c7, rfl, ho7, hb7⟩
           rw [hOO.out] at ho7
           have HO := Lib.hid (Tw.Own.mono ho7 HB.out.size)
           have HX := Lib.hid ((hb7.block _ (heap_lt HX.out)).trans HX.out)
           have HS := Lib.hid ((hb7.block _ (heap_lt HS.out)).trans HS.out)
           have HB := Lib.hid (HB.out.trans (hb7.mono HB.out.size))
           clear k0 k1 k2 k3 k4 k5 l0 l1 l2 l3 l4 ho7 hb7
           obtain ⟨k0, k1, k2, k3, k4, k5⟩ := Bx.cells6 HX.out
           obtain ⟨l0, l1, l2, l3, l4⟩ := cells5 HS.out
           )
        | (refine wpL_append _ rfl (.tmp 44) (.tmp 46) _ rfl w w.heap.size HB.out HB.out.size 5 _ 1 1 Try.underlying23 Num.info_u8 rfl (by omega) _ _ _ _ rfl HO.out _ _ _ _ rfl (Hd.out.below HB.out (Nat.le_refl _)) bytesV_one _ _ rfl (bytesV_append _ _).symm (by unfold maxLen; omega) (by omega) ?_
           intro A11 c11 w11 ho11 hb11 hg11 hl11
           have HB11 := Lib.hid hb11
           have O11 := Lib.hid ho11.rd
           clear ho11 hb11 hg11 hl11))
      go_ret
      exact ⟨A11, _, c11, rfl, by rw [Hby.out]; simpa [fb] using O11.out, HB11.out⟩
    · skip
      go_wp2_with (first
        | (go_at_call 92
           (with_reducible refine (Num.c_Put64 _ _ _ _ _ I _ _ HO.out.rd (by first | rfl | exact hII.out | omega) (by omega) rfl (by omega)).mono ?_)
           rintro e w7 ⟨A7, c7, rfl, ho7, hb7⟩
           have HO := Lib.hid (Tw.Own.mono ho7 HB.out.size)
           have HX := Lib.hid ((hb7.block _ (heap_lt HX.out)).trans HX.out)
           have HS := Lib.hid ((hb7.block _ (heap_lt HS.out)).trans HS.out)
           have HB := Lib.hid (HB.out.trans (hb7.mono HB.out.size))
           clear k0 k1 k2 k3 k4 k5 l0 l1 l2 l3 l4 ho7 hb7
           obtain ⟨k0, k1, k2, k3, k4, k5⟩ := Bx.cells6 HX.out
           obtain ⟨l0, l1, l2, l3, l4⟩ := cells5 HS.out
           )
        | (go_at_call 93
           (with_reducible refine (Num.c_Put16 _ _ _ _ _ _ _ HO.out.rd rfl (by omega)).mono ?_)
           rintro e w7 ⟨A7, c7, rfl, ho7, hb7⟩
           rw [hOO.out] at ho7
           have HO := Lib.hid (Tw.Own.mono ho7 HB.out.size)
           have HX := Lib.hid ((hb7.block _ (heap_lt HX.out)).trans HX.out)
           have HS := Lib.hid ((hb7.block _ (heap_lt HS.out)).trans HS.out)
           have HB := Lib.hid (HB.out.trans (hb7.mono HB.out.size))
           clear k0 k1 k2 k3 k4 k5 l0 l1 l2 l3 l4 ho7 hb7
           obtain ⟨k0, k1, k2, k3, k4, k5⟩ := Bx.cells6 HX.out
           obtain ⟨l0, l1, l2, l3, l4⟩ := cells5 HS.out
           )
        | (refine wpL_append _ rfl (.tmp 44) (.tmp 46) _ rfl w w.heap.size HB.out HB.out.size 5 _ 1 1 Try.underlying23 Num.info_u8 rfl (by omega) _ _ _ _ rfl HO.out _ _ _ _ rfl (Hd.out.below HB.out (Nat.le_refl _)) bytesV_one _ _ rfl (bytesV_append _ _).symm (by unfold maxLen; omega) (by omega) ?_
           intro A11 c11 w11 ho11 hb11 hg11 hl11
           have HB11 := Lib.hid hb11
           have O11 := Lib.hid ho11.rd
           clear ho11 hb11 hg11 hl11))
      go_ret
      exact ⟨A11, _, c11, rfl, by rw [Hby.out]; simpa [fb] using O11.out, HB11.out⟩
    · skip
      go_wp2_with (first
        | (go_at_call 92
           (with_reducible refine (Num.c_Put64 _ _ _ _ _ I _ _ HO.out.rd (by first | rfl | exact hII.out | omega) (by omega) rfl (by omega)).mono ?_)
           rintro e w7 ⟨A7, c7, rfl, ho7, hb7⟩
           have HO := Lib.hid (Tw.Own.mono ho7 HB.out.size)
           have HX := Lib.hid ((hb7.block _ (heap_lt HX.out)).trans HX.out)
           have HS := Lib.hid ((hb7.block _ (heap_lt HS.out)).trans HS.out)
           have HB := Lib.hid (HB.out.trans (hb7.mono HB.out.size))
           clear k0 k1 k2 k3 k4 k5 l0 l1 l2 l3 l4 ho7 hb7
           obtain ⟨k0, k1, k2, k3, k4, k5⟩ := Bx.cells6 HX.out
           obtain ⟨l0, l1, l2, l3, l4⟩ := cells5 HS.out
           )
        | (go_at_call 93
           (with_reducible refine (Num.c_Put16 _ _ _ _ _ _ _ HO.out.rd rfl (by omega)).mono ?_)
           rintro e w7 ⟨A7, c7, rfl, ho7, hb7⟩
           rw [hOO.out] at ho7
           have HO := Lib.hid (Tw.Own.mono ho7 HB.out.size)
           have HX := Lib.hid ((hb7.block _ (heap_lt HX.out)).trans HX.out)
           have HS := Lib.hid ((hb7.block _ (heap_lt HS.out)).trans HS.out)
           have HB := Lib.hid (HB.out.trans (hb7.mono HB.out.size))
           clear k0 k1 k2 k3 k4 k5 l0 l1 l2 l3 l4 ho7 hb7
           obtain ⟨k0, k1, k2, k3, k4, k5⟩ := Bx.cells6 HX.out
           obtain ⟨l0, l1, l2, l3, l4⟩ := cells5 HS.out
           )
        | (refine wpL_append _ rfl (.tmp 44) (.tmp 46) _ rfl w w.heap.size HB.out HB.out.size 5 _ 1 1 Try.underlying23 Num.info_u8 rfl (by omega) _ _ _ _ rfl HO.out _ _ _ _ rfl (Hd.out.below HB.out (Nat.le_refl _)) bytesV_one _ _ rfl (bytesV_append _ _).symm (by unfold maxLen; omega) (by omega) ?_
           intro A11 c11 w11 ho11 hb11 hg11 hl11
           have HB11 := Lib.hid hb11
           have O11 := Lib.hid ho11.rd
           clear ho11 hb11 hg11 hl11))
      go_ret
      exact ⟨A11, _, c11, rfl, by rw [Hby.out]; simpa [fb] using O11.out, HB11.out⟩
    · skip
      go_wp2_with (first
        | (go_at_call 92
           (with_reducible refine (Num.c_Put64 _ _ _ _ _ I _ _ HO.out.rd (by first | rfl | exact hII.out | omega) (by omega) rfl (by omega)).mono ?_)
           rintro e w7 ⟨A7, c7, rfl, ho7, hb7⟩
           have HO := Lib.hid (Tw.Own.mono ho7 HB.out.size)
           have HX := Lib.hid ((hb7.block _ (heap_lt HX.out)).trans HX.out)
           have HS := Lib.hid ((hb7.block _ (heap_lt HS.out)).trans HS.out)
           have HB := Lib.hid (HB.out.trans (hb7.mono HB.out.size))
           clear k0 k1 k2 k3 k4 k5 l0 l1 l2 l3 l4 ho7 hb7
           obtain ⟨k0, k1, k2, k3, k4, k5⟩ := Bx.cells6 HX.out
           obtain ⟨l0, l1, l2, l3, l4⟩ := cells5 HS.out
           )
        | (go_at_call 93
           (with_reducible refine (Num.c_Put16 _ _ _ _ _ _ _ HO.out.rd rfl (by omega)).mono ?_)
           rintro e w7 ⟨A7, c7, rfl, ho7, hb7⟩
           rw [hOO.out] at ho7
           have HO := Lib.hid (Tw.Own.mono ho7 HB.out.size)
           have HX := Lib.hid ((hb7.block _ (heap_lt HX.out)).trans HX.out)
           have HS := Lib.hid ((hb7.block _ (heap_lt HS.out)).trans HS.out)
           have HB := Lib.hid (HB.out.trans (hb7.mono HB.out.size))
           clear k0 k1 k2 k3 k4 k5 l0 l1 l2 l3 l4 ho7 hb7
           obtain ⟨k0, k1, k2, k3, k4, k5⟩ := Bx.cells6 HX.out
           obtain ⟨l0, l1, l2, l3, l4⟩ := cells5 HS.out
           )
        | (refine wpL_append _ rfl (.tmp 44) (.tmp 46) _ rfl w w.heap.size HB.out HB.out.size 5 _ 1 1 Try.underlying23 Num.info_u8 rfl (by omega) _ _ _ _ rfl HO.out _ _ _ _ rfl (Hd.out.below HB.out (Nat.le_refl _)) bytesV_one _ _ rfl (bytesV_append _ _).symm (by unfold maxLen; omega) (by omega) ?_
           intro A11 c11 w11 ho11 hb11 hg11 hl11
           have HB11 := Lib.hid hb11
           have O11 := Lib.hid ho11.rd
           clear ho11 hb11 hg11 hl11))
      go_ret
      exact ⟨A11, _, c11, rfl, by rw [Hby.out]; simpa [fb] using O11.out, HB11.out⟩
  · rw [if_neg hG] at hby
    have hd := Lib.hid (decide_eq_false hG)
    have Hby := Lib.hid hby
    generalize bytes k i o m wb d = BY at *
    obtain ⟨M, hM⟩ : ∃ M : Int, (m : Int) = M := ⟨_, rfl⟩
    rw [hM] at HB HX hgd
    have HM := Lib.hid hM
    clear hG hby hM
    go_enter Try.func31, Try.ntmps31
    go_upto_region 1 with (fail)
    rw [HM.out]
    generalize w.alloc (.cells #[.int .i64 k, .int .i64 i, .int .i64 o, .int .u64 M, .bool wb, .slice A n cp] 42) = W1 at *
    obtain ⟨k0, k1, k2, k3, k4, k5⟩ := Bx.cells6 HX.out
    go_wp2_with (first
      | (go_at_call 29
         (with_reducible refine (hgd _).mono ?_)
         rintro e w1 ⟨rfl, hb1⟩
         rw [hd.out]
         have HB1 := Lib.hid (HB.out.trans (hb1.mono HB.out.size))
         clear hb1 hgd))
    go_ret
    exact ⟨none, 0, 0, rfl, by rw [Hby.out]; exact Rd.nil_, HB1.out⟩
end Go.Proofs.Ytdpggcpbgfancaa.Pack
