/- Contracts of Gather, in the program and in its reference. Conditions: at most 64 pieces. -/
import Derived.Test.YtdpggcpbgfancaaVolJ3
import Derived.Test.YtdpggcpbgfancaaNum
set_option linter.unusedVariables false
set_option linter.unusedSimpArgs false
namespace Go.Proofs.Ytdpggcpbgfancaa.Vol
open Go.RowKit Tw
set_option maxHeartbeats 4000000
set_option maxRecDepth 100000

theorem FitR.yes {l : List Pi} {tl : List (List UInt8)} {e : Ending} (h : FitR l tl e) (hf : Fits l tl) : e = .returned (.bool true) := by
  rcases h with h | h
  · exact h.1
  · exact absurd hf h.2
theorem FitR.no {l : List Pi} {tl : List (List UInt8)} {e : Ending} (h : FitR l tl e) (hf : ¬ Fits l tl) : e = .returned (.bool false) := by
  rcases h with h | h
  · exact absurd h.2 hf
  · exact h.1
/-- what is gathered of one piece -/
def gatAt (p : Pi) (t : List UInt8) : List UInt8 := (t.take p.2.2.2.toNat).drop p.2.2.1.toNat
def gat (l : List Pi) (tl : List (List UInt8)) : List UInt8 := (l.zip tl).flatMap fun q => gatAt q.1 q.2
theorem gat_next {l : List Pi} {tl : List (List UInt8)} {k : Nat} {p : Pi} {t : List UInt8} (hp : l[k]? = some p) (ht : tl[k]? = some t) : gat (l.take (k + 1)) (tl.take (k + 1)) = gat (l.take k) (tl.take k) ++ gatAt p t := by
  have h1 := (List.getElem?_eq_some_iff.1 hp).1
  have h2 := (List.getElem?_eq_some_iff.1 ht).1
  rw [take_next hp, take_next ht, gat, List.zip_append (by simp; omega)]
  simp [gat]
theorem gatAt_length {p : Pi} {t : List UInt8} (hg : Good p) (hl : (t.length : Int) = 16 * p.2.1) : (gatAt p t).length = (p.2.2.2 - p.2.2.1).toNat := by
  unfold Good at hg
  simp [gatAt]
  omega

theorem c_Gather_no (A A' : Option Addr) (n m c c' : Nat) (l : List Pi) (tl : List (List UInt8)) (w : World) (h : Rd w 4 A n c (pisV l)) (h2 : SlIn w A' m c' tl) (hn : n ≤ 64) (hm : m ≤ 64) (hF : ¬ Fits l tl) :
    Calls Try.prog 62 #[.slice A n c, .slice A' m c'] w fun e w' => e = .returned (.tuple #[.slice none 0 0, .int .i64 2]) ∧ Below w.heap.size w w' := by
  have Hh := Lib.hid h
  have Hh2 := Lib.hid h2
  clear h h2
  go_enter Try.func62, Try.ntmps62
  go_wp2_with (first
    | (go_at_call 121
       (with_reducible refine (c_check _ _ _ _ _ _ l tl _ Hh.out Hh2.out hn hm).mono ?_)
       rintro e w1 ⟨hfr, hb1⟩
       obtain rfl := hfr.no hF))
  go_ret2
  exact ⟨rfl, hb1⟩
theorem c_Gather (A A' : Option Addr) (n m c c' : Nat) (l : List Pi) (tl : List (List UInt8)) (w : World) (h : Rd w 4 A n c (pisV l)) (h2 : SlIn w A' m c' tl) (hn : n ≤ 64) (hm : m ≤ 64) (hF : Fits l tl) :
    Calls Try.prog 62 #[.slice A n c, .slice A' m c'] w fun e w' => ∃ A2 c2, e = .returned (.tuple #[.slice A2 (gat l tl).length c2, .int .i64 0]) ∧ Tw.Own w' w.heap.size 5 1 A2 (gat l tl).length c2 (bytesV (gat l tl)) ∧ Below w.heap.size w w' := by
  have hl : l.length = n := by have := h.len; rw [pisV_length] at this; omega
  have hl2 := h2.len
  have hf0 := hF.1
  obtain rfl : n = m := by omega
  have Hh := Lib.hid h
  have Hh2 := Lib.hid h2
  clear h h2
  go_enter Try.func62, Try.ntmps62
  go_wp2_with (first
    | (go_at_call 121
       (with_reducible refine (c_check _ _ _ _ _ _ l tl _ Hh.out Hh2.out hn hm).mono ?_)
       rintro e w1 ⟨hfr, hb1⟩
       obtain rfl := hfr.yes hF
       clear hfr))
  go_loopw [6, 15] (fun v i wr => ∃ (k : Nat) (A2 : Option Addr) (z c2 : Nat), k ≤ n ∧ i = .int .i64 (k : Int) ∧ v = .slice A2 z c2 ∧ z ≤ 128 * k ∧ Hid (Tw.Own wr w.heap.size 5 1 A2 z c2 (bytesV (gat (l.take k) (tl.take k)))) ∧ Below w.heap.size w wr) (fun _ i _ => n - (intOf i).toNat)
  case atStart => exact ⟨0, none, 0, 0, Nat.zero_le _, rfl, rfl, Nat.zero_le _, Lib.hid (World.ownsRow_nil _ _ _ _), hb1⟩
  case round =>
    clear hb1
    obtain ⟨k, A2, z, c2, hk, rfl, rfl, hz, hown, hB⟩ := hrel
    by_cases hkn : k < n
    · obtain ⟨⟨x1, x2, x3, x4⟩, hp⟩ : ∃ p, l[k]? = some p := ⟨_, List.getElem?_eq_getElem (by omega)⟩
      obtain ⟨t, ht⟩ : ∃ p, tl[k]? = some p := ⟨_, List.getElem?_eq_getElem (by omega)⟩
      obtain ⟨hg, hlt⟩ := hF.2 k _ _ hp ht
      have hgl := gatAt_length hg hlt
      simp only [Good] at hg
      simp only at hlt hgl
      obtain ⟨f, rfl⟩ : ∃ f : Nat, x3 = (f : Int) := ⟨x3.toNat, by omega⟩
      obtain ⟨g, rfl⟩ : ∃ g : Nat, x4 = (g : Int) := ⟨x4.toNat, by omega⟩
      obtain ⟨ad, rfl, hcs⟩ := pi_at (Hh.out.below hB (Nat.le_refl _)) hp
      obtain ⟨ad2, B2, n2, d2, rfl, d1, hby⟩ := (Hh2.out.below hB (Nat.le_refl _)).at_ k _ ht
      have hbl := hby.blen
      have hle := Hh.out.le
      have hle2 := Hh2.out.le
      have hle3 := hby.le
      have Hcs := Lib.hid hcs
      have Hnx := Lib.hid (gat_next hp ht)
      have HB0 := (Below.refl wr.heap.size wr).alloc (Nat.le_refl wr.heap.size) (.cells #[.int .i64 x1, .int .i64 x2, .int .i64 (f : Int), .int .i64 (g : Int)] 158)
      have HX := Lib.hid (heap_alloc_new wr (.cells #[.int .i64 x1, .int .i64 x2, .int .i64 (f : Int), .int .i64 (g : Int)] 158))
      have HB := Lib.hid (hB.alloc hB.size (.cells #[.int .i64 x1, .int .i64 x2, .int .i64 (f : Int), .int .i64 (g : Int)] 158))
      have HD := Lib.hid ((HB0.cell (block_lt_of_cell d1)).trans d1)
      have HT := Lib.hid (hby.bel HB0)
      have HO := Lib.hid (Tw.Own.bel hown.out HB0)
      clear hcs hp ht d1 hby HB0 hown
      go_wp2_with (first
        | (refine wpL_load_rd rfl 158 (.tmp 18) rfl (ad.add (k * 4)) rfl (piV (x1, x2, (f : Int), (g : Int))) _ Hcs.out Try.underlying158 rfl (by kernel_rfl) ?_
           simp only [piV]))
      generalize (wr.alloc (.cells #[.int .i64 x1, .int .i64 x2, .int .i64 (f : Int), .int .i64 (g : Int)] 158)) = W1 at *
      refine wp_region_phi (by kernel_rfl) 10 none (fun _ => false) (fun i_ v wz => match i_ with
        | 0 => v = .slice A2 z c2
        | 1 => v = .slice (some ad2) n c'
        | 2 => v = .int .i64 (k : Int)
        | 3 => v = .pointer (some (ad2.add k))
        | 4 => v = .slice B2 n2 d2
        | 5 => v = .pointer (some ⟨wr.heap.size, 2, none⟩)
        | 6 => v = .int .i64 (f : Int)
        | 7 => v = .pointer (some ⟨wr.heap.size, 3, none⟩)
        | 8 => v = .int .i64 (g : Int)
        | 9 => ∃ A3 c3, v = .slice A3 (g - f) c3 ∧ Byt wz A3 (g - f) c3 (gatAt (x1, x2, (f : Int), (g : Int)) t)
        | _ => True) (by kernel_rfl) ?_ ?_ ?_
      · (repeat' (first | exact allLt_zero | refine allLt_succ ?_ ?_))
        · exact fun _ _ _ h _ => h
        · exact fun _ _ _ h _ => h
        · exact fun _ _ _ h _ => h
        · exact fun _ _ _ h _ => h
        · exact fun _ _ _ h _ => h
        · exact fun _ _ _ h _ => h
        · exact fun _ _ _ h _ => h
        · exact fun _ _ _ h _ => h
        · exact fun _ _ _ h _ => h
        · intro v w1 w2 h hg
          rw [show kindRow _ _ = none from by kernel_rfl] at hg
          obtain ⟨A3, c3, rfl, hr⟩ := h
          exact ⟨A3, c3, rfl, hr.bel (bel_grown hg)⟩
      · (repeat' (first | exact allLt_zero | refine allLt_succ ?_ ?_))
        · intro a w' hf he
          have k6 : a.tmps.getD 6 undef = .slice A2 z c2 := hf.var (by kernel_rfl) rfl
          refine wpOp_step rfl (fun K hK => ?_)
          go_simp
          exact hK _ _ ⟨_, rfl, rfl, World.grownBy.refl _ _⟩
        · intro a w' hf he
          have k1 : a.tmps.getD 1 undef = .slice (some ad2) n c' := hf.var (by kernel_rfl) rfl
          refine wpOp_step rfl (fun K hK => ?_)
          go_simp
          exact hK _ _ ⟨_, rfl, rfl, World.grownBy.refl _ _⟩
        · intro a w' hf he
          have k7 : a.tmps.getD 7 undef = .int .i64 (k : Int) := hf.var (by kernel_rfl) rfl
          refine wpOp_step rfl (fun K hK => ?_)
          go_simp
          exact hK _ _ ⟨_, rfl, rfl, World.grownBy.refl _ _⟩
        · intro a w' hf he
          have f1 : a.tmps.getD 21 undef = .slice (some ad2) n c' := he 1 (by kernel_rfl)
          have f2 : a.tmps.getD 22 undef = .int .i64 (k : Int) := he 2 (by kernel_rfl)
          refine wpOp_step rfl (fun K hK => ?_)
          go_simp
          exact hK _ _ ⟨_, rfl, rfl, World.grownBy.refl _ _⟩
        · intro a w' hf he
          have f3 : a.tmps.getD 23 undef = .pointer (some (ad2.add k)) := he 3 (by kernel_rfl)
          rw [show kindRow _ _ = none from by kernel_rfl] at hf
          have dd := (hf.bel.cell (block_lt_of_cell HD.out)).trans HD.out
          refine wpOp_step rfl (fun K hK => ?_)
          go_simp
          exact hK _ _ ⟨_, rfl, rfl, World.grownBy.refl _ _⟩
        · intro a w' hf he
          have k8 : a.tmps.getD 8 undef = .pointer (some ⟨wr.heap.size, 0, none⟩) := hf.var (by kernel_rfl) rfl
          refine wpOp_step rfl (fun K hK => ?_)
          go_simp
          exact hK _ _ ⟨_, rfl, rfl, World.grownBy.refl _ _⟩
        · intro a w' hf he
          have f5 : a.tmps.getD 25 undef = .pointer (some ⟨wr.heap.size, 2, none⟩) := he 5 (by kernel_rfl)
          rw [show kindRow _ _ = none from by kernel_rfl] at hf
          have d0 := (hf.bel.block _ (heap_lt HX.out)).trans HX.out
          have dd : w'.cell? ⟨wr.heap.size, 2, none⟩ = some (.int .i64 (f : Int)) := by simp [World.cell?, d0]
          clear d0
          refine wpOp_step rfl (fun K hK => ?_)
          go_simp
          exact hK _ _ ⟨_, rfl, rfl, World.grownBy.refl _ _⟩
        · intro a w' hf he
          have k8 : a.tmps.getD 8 undef = .pointer (some ⟨wr.heap.size, 0, none⟩) := hf.var (by kernel_rfl) rfl
          refine wpOp_step rfl (fun K hK => ?_)
          go_simp
          exact hK _ _ ⟨_, rfl, rfl, World.grownBy.refl _ _⟩
        · intro a w' hf he
          have f7 : a.tmps.getD 27 undef = .pointer (some ⟨wr.heap.size, 3, none⟩) := he 7 (by kernel_rfl)
          rw [show kindRow _ _ = none from by kernel_rfl] at hf
          have d0 := (hf.bel.block _ (heap_lt HX.out)).trans HX.out
          have dd : w'.cell? ⟨wr.heap.size, 3, none⟩ = some (.int .i64 (g : Int)) := by simp [World.cell?, d0]
          clear d0
          refine wpOp_step rfl (fun K hK => ?_)
          go_simp
          exact hK _ _ ⟨_, rfl, rfl, World.grownBy.refl _ _⟩
        · intro a w' hf he
          have f4 : a.tmps.getD 24 undef = .slice B2 n2 d2 := he 4 (by kernel_rfl)
          have f6 : a.tmps.getD 26 undef = .int .i64 (f : Int) := he 6 (by kernel_rfl)
          have f8 : a.tmps.getD 28 undef = .int .i64 (g : Int) := he 8 (by kernel_rfl)
          rw [show kindRow _ _ = none from by kernel_rfl] at hf
          refine wpOp_step rfl (fun K hK => ?_)
          go_simp
          rw [if_pos (by omega), if_pos (by omega)]
          exact hK _ _ ⟨_, rfl, ⟨_, _, rfl, ((HT.out.bel hf.bel).uptoB (k := g) (by omega)).cutB (k := f) (by omega)⟩, World.grownBy.refl _ _⟩
      · intro a w' hf he
        have f0 : a.tmps.getD 20 undef = .slice A2 z c2 := he 0 (by decide)
        obtain ⟨u21, f1⟩ : ∃ u, a.tmps.getD 21 undef = u := ⟨_, rfl⟩
        obtain ⟨u22, f2⟩ : ∃ u, a.tmps.getD 22 undef = u := ⟨_, rfl⟩
        obtain ⟨u23, f3⟩ : ∃ u, a.tmps.getD 23 undef = u := ⟨_, rfl⟩
        obtain ⟨u24, f4⟩ : ∃ u, a.tmps.getD 24 undef = u := ⟨_, rfl⟩
        obtain ⟨u25, f5⟩ : ∃ u, a.tmps.getD 25 undef = u := ⟨_, rfl⟩
        obtain ⟨u26, f6⟩ : ∃ u, a.tmps.getD 26 undef = u := ⟨_, rfl⟩
        obtain ⟨u27, f7⟩ : ∃ u, a.tmps.getD 27 undef = u := ⟨_, rfl⟩
        obtain ⟨u28, f8⟩ : ∃ u, a.tmps.getD 28 undef = u := ⟨_, rfl⟩
        obtain ⟨A9, c9, hv9, hr9⟩ := he 9 (by decide)
        have f9 : a.tmps.getD 29 undef = _ := hv9
        have hlit := hf.lit ((20, .slice A2 z c2) :: (21, u21) :: (22, u22) :: (23, u23) :: (24, u24) :: (25, u25) :: (26, u26) :: (27, u27) :: (28, u28) :: (29, _) :: []) (by kernel_rfl) ⟨f0, f1, f2, f3, f4, f5, f6, f7, f8, f9, trivial⟩
        have hB := hf.bel
        clear he hf f0 f1 f2 f3 f4 f5 f6 f7 f8 f9 hv9
        subst hlit
        simp only [putAll_nil, putAll_cons, Act.put, List.setIfInBounds_toArray, List.set_cons_zero, List.set_cons_succ]
        simp only [List.drop_succ_cons, List.drop_zero]
        have hB2 : Below w.heap.size w w' := HB.out.trans (hB.mono HB.out.size)
        have HO2 := Lib.hid (Tw.Own.bel HO.out hB)
        clear HO HT HD HX HB hB
        refine wpL_append _ rfl (.tmp 20) (.tmp 29) _ rfl w w.heap.size hB2 hB2.size 5 _ 1 1 Try.underlying23 Num.info_u8 rfl (by omega) _ _ _ _ rfl HO2.out _ _ _ _ rfl hr9 bytesV_one (z + (g - f)) (bytesV (gat (l.take (k + 1)) (tl.take (k + 1)))) rfl (by rw [Hnx.out, bytesV_append]) (by unfold maxLen; omega) (by omega) ?_
        intro A5 c5 w5 hown5 hb5 hg5 ho5
        clear hg5 ho5
        simp only [Act.put, List.setIfInBounds_toArray, List.set_cons_zero, List.set_cons_succ]
        go_wp2_with fail
        go_roundw
        case rel => exact ⟨k + 1, A5, z + (g - f), c5, by omega, by go_num, rfl, by omega, Lib.hid hown5, hb5⟩
        case measure => simp [intOf] <;> omega
    · obtain rfl : k = n := by omega
      have htk : l.take k = l := List.take_of_length_le (by omega)
      have htk2 : tl.take k = tl := List.take_of_length_le (by omega)
      rw [htk, htk2] at hown
      obtain rfl : z = (gat l tl).length := by have := hown.out.rd.blen; exact this.symm
      go_wp2_with fail
      go_ret2
      exact ⟨A2, c2, rfl, hown.out, hB⟩
end Go.Proofs.Ytdpggcpbgfancaa.Vol
