/- Contract of the reference's Writes. Conditions: at most 64 pieces. -/
import Derived.Test.YtlfphoablloodaaVolJ6
namespace Go.Proofs.Ytlfphoablloodaa.Vol
open Go.RowKit Tw
set_option maxHeartbeats 4000000
set_option maxRecDepth 100000

/-- a piece's bytes, put in up to place p -/
def putTo (f p : Nat) (t b : List UInt8) : List UInt8 := t.take f ++ (b.take (p - f) ++ t.drop p)
theorem putTo_start (f : Nat) (t b : List UInt8) : putTo f f t b = t := by simp [putTo]
theorem putTo_length {f p : Nat} {t b : List UInt8} (h1 : f ≤ p) (h2 : p ≤ t.length) (h3 : p - f ≤ b.length) : (putTo f p t b).length = t.length := by
  unfold putTo
  simp
  omega
theorem putTo_next {f p : Nat} {t b : List UInt8} {x : UInt8} (h1 : f ≤ p) (h2 : p < t.length) (hx : b[p - f]? = some x) : (putTo f p t b).set p x = putTo f (p + 1) t b := by
  have hb := (List.getElem?_eq_some_iff.1 hx).1
  unfold putTo
  rw [List.set_append_right _ _ (by simp; omega), List.set_append_right _ _ (by simp; omega)]
  have h4 : p + 1 - f = (p - f) + 1 := by omega
  rw [h4, take_next hx, List.drop_eq_getElem_cons h2]
  have h5 : p - (List.take f t).length - (List.take (p - f) b).length = 0 := by simp; omega
  rw [h5, List.set_cons_zero]
  simp
theorem putTo_setV {f p : Nat} {t b : List UInt8} {x : UInt8} (h1 : f ≤ p) (h2 : p < t.length) (hx : b[p - f]? = some x) : (bytesV (putTo f p t b)).set p (.int .u8 (x.toNat : Int)) = bytesV (putTo f (p + 1) t b) := by
  rw [← putTo_next h1 h2 hx]
  simp [bytesV, List.map_set]
theorem putTo_all {p : Pi} {t b : List UInt8} {f g : Nat} (hf : p.2.2.1.toNat = f) (hg : p.2.2.2.toNat = g) (hpl : pl p = g - f) : putTo f g t b = putAt p t b := by
  unfold putTo putAt
  rw [hf, hg, hpl]

theorem cell_at {w : World} {g j : Nat} {cs : Array Value} {t : TypeId} {v : Value} (h : w.heap[g]? = some (.cells cs t (0, 0))) (hj : cs[j]? = some v) : w.cell? ⟨g, j, none⟩ = some v := by
  simp [World.cell?, h, hj]
theorem c_rWrites_no1 (A A' AB : Option Addr) (n m nb c c' cb : Nat) (l : List Pi) (tl : List (List UInt8)) (w : World) (h : Rd w 4 A n c (pisV l)) (h2 : SlIn w A' m c' tl) (hn : n ≤ 64) (hm : m ≤ 64) (hF : ¬ Fits l tl) :
    Calls Try.prog 70 #[.slice A n c, .slice A' m c', .slice AB nb cb] w fun e w' => e = .returned (.tuple #[.slice none 0 0, .int .i64 2]) ∧ Below w.heap.size w w' := by
  have Hh := Lib.hid h
  have Hh2 := Lib.hid h2
  clear h h2
  go_enter Try.func70, Try.ntmps70
  go_wp2_with (first
    | (go_at_call 68
       (with_reducible refine (c_rGather_no _ _ _ _ _ _ l tl _ Hh.out Hh2.out hn hm hF).mono ?_)
       rintro e w1 ⟨rfl, hb1⟩))
  go_ret2
  exact ⟨rfl, hb1⟩
theorem c_rWrites_no2 (A A' AB : Option Addr) (n m nb c c' cb : Nat) (l : List Pi) (tl : List (List UInt8)) (w : World) (h : Rd w 4 A n c (pisV l)) (h2 : SlIn w A' m c' tl) (hn : n ≤ 64) (hm : m ≤ 64) (hF : Fits l tl) (hb : nb ≠ ato l l.length) :
    Calls Try.prog 70 #[.slice A n c, .slice A' m c', .slice AB nb cb] w fun e w' => e = .returned (.tuple #[.slice none 0 0, .int .i64 2]) ∧ Below w.heap.size w w' := by
  have Hh := Lib.hid h
  have Hh2 := Lib.hid h2
  have hgl := gat_all hF
  have hne : (((gat l tl).length : Int) != (nb : Int)) = true := by rw [hgl]; simp; omega
  clear h h2 hb hgl
  go_enter Try.func70, Try.ntmps70
  go_wp2_with (first
    | (go_at_call 68
       (with_reducible refine (c_rGather _ _ _ _ _ _ l tl _ Hh.out Hh2.out hn hm hF).mono ?_)
       rintro e w1 ⟨A2, c2, rfl, _, hb1⟩))
  go_ret2
  exact ⟨rfl, hb1⟩

theorem c_rWrites (A A' AB : Option Addr) (n m nb c c' cb : Nat) (l : List Pi) (tl : List (List UInt8)) (b : List UInt8) (w : World) (h : Rd w 4 A n c (pisV l)) (h2 : SlIn w A' m c' tl) (h3 : Byt w AB nb cb b) (hn : n ≤ 64) (hm : m ≤ 64) (hF : Fits l tl) (hb : nb = ato l l.length) :
    Calls Try.prog 70 #[.slice A n c, .slice A' m c', .slice AB nb cb] w fun e w' => ∃ A2 c2 vs, e = .returned (.tuple #[.slice A2 n c2, .int .i64 0]) ∧ RqOwn w' w.heap.size A2 n c2 (wrs l tl b n) vs ∧ Below w.heap.size w w' := by
  have hl : l.length = n := by have := h.len; rw [pisV_length] at this; omega
  have hl2 := h2.len
  have hf0 := hF.1
  obtain rfl : n = m := by omega
  have hg : ∀ (i : Nat) (p : Pi), l[i]? = some p → Good p := fun i p hp => by
    have h1 := (List.getElem?_eq_some_iff.1 hp).1
    exact (hF.2 i p _ hp (List.getElem?_eq_getElem (by omega))).1
  have hgl := gat_all hF
  have hne : (((gat l tl).length : Int) != (nb : Int)) = false := by rw [hgl, hb]; simp
  have hnb : nb ≤ 8192 := by
    have := ato_le hg l.length (Nat.le_refl _)
    omega
  have hbl := h3.blen
  have hbc := h3.le
  have Hh := Lib.hid h
  have Hh2 := Lib.hid h2
  have Hh3 := Lib.hid h3
  rw [hl] at hb
  have Hb := Lib.hid hb
  have Hbl := Lib.hid hbl
  clear h h2 h3 hg hb hbl hgl
  go_enter Try.func70, Try.ntmps70
  go_wp2_with (first
    | (go_at_call 68
       (with_reducible refine (c_rGather _ _ _ _ _ _ l tl _ Hh.out Hh2.out hn hm hF).mono ?_)
       rintro e w1 ⟨A9, c9, rfl, _, hb1⟩
       have Hb1 := Lib.hid hb1
       clear hb1))
  clear hne
  go_loopw [10, 11, 33] (fun v va i wr => ∃ (k : Nat) (A2 : Option Addr) (c2 q : Nat) (vs : List Value), k ≤ n ∧ i = .int .i64 (k : Int) ∧ v = .slice A2 k c2 ∧ va = .int .i64 (q : Int) ∧ q ≤ nb ∧ Hid (q = ato l k) ∧ Hid (RqOwn wr w.heap.size A2 k c2 (wrs l tl b k) vs) ∧ Below w.heap.size w wr) (fun _ _ i _ => n - (intOf i).toNat)
  case atStart => exact ⟨0, none, 0, 0, [], Nat.zero_le _, rfl, rfl, rfl, Nat.zero_le _, Lib.hid (ato_zero l).symm, Lib.hid (RqOwn.nil _ _), Hb1.out⟩
  case round =>
    clear Hb1
    obtain ⟨k, A2, c2, q, vs, hk, rfl, rfl, rfl, hq, Hq, Hrq, hB⟩ := hrel
    by_cases hkn : k < n
    · obtain ⟨⟨x1, x2, x3, x4⟩, hp⟩ : ∃ p, l[k]? = some p := ⟨_, List.getElem?_eq_getElem (by omega)⟩
      obtain ⟨t, ht⟩ : ∃ p, tl[k]? = some p := ⟨_, List.getElem?_eq_getElem (by omega)⟩
      obtain ⟨hg, hlt⟩ := hF.2 k _ _ hp ht
      have hle0 := ato_mono (l := l) (j := k + 1) (k := n) (by omega)
      rw [ato_next hp, ← Hb.out, ← Hq.out] at hle0
      have hnx := wrs_next (b := b) hp ht
      have hax := ato_next hp
      rw [← Hq.out] at hnx hax
      simp only [Good] at hg
      simp only at hlt
      obtain ⟨u, rfl⟩ : ∃ u : Nat, x1 = (u : Int) := ⟨x1.toNat, by omega⟩
      obtain ⟨v, rfl⟩ : ∃ v : Nat, x2 = (v : Int) := ⟨x2.toNat, by omega⟩
      obtain ⟨f, rfl⟩ : ∃ f : Nat, x3 = (f : Int) := ⟨x3.toNat, by omega⟩
      obtain ⟨g, rfl⟩ : ∃ g : Nat, x4 = (g : Int) := ⟨x4.toNat, by omega⟩
      have hpl : pl ((u : Int), (v : Int), (f : Int), (g : Int)) = g - f := by simp only [pl]; omega
      rw [hpl] at hle0 hax
      simp only [Int.toNat_natCast] at hnx
      have Hnx := Lib.hid hnx
      have Hpl := Lib.hid hpl
      have Hax := Lib.hid hax
      obtain ⟨ad, rfl, hcs⟩ := pi_at (Hh.out.below hB (Nat.le_refl _)) hp
      obtain ⟨ad2, B2, n2, d2, rfl, d1, hby⟩ := (Hh2.out.below hB (Nat.le_refl _)).at_ k _ ht
      have htl := hby.blen
      have hgn : g ≤ n2 := by omega
      have hn2 : n2 ≤ 128 := by omega
      have hn3 : 0 < n2 := by omega
      have hle := Hh.out.le
      have hle2 := Hh2.out.le
      have hle3 := hby.le
      have Hcs := Lib.hid hcs
      have HX := Lib.hid (heap_alloc_new wr (.cells #[.int .i64 (u : Int), .int .i64 (v : Int), .int .i64 (f : Int), .int .i64 (g : Int)] 57))
      have HB0 := (Below.refl wr.heap.size wr).alloc (Nat.le_refl wr.heap.size) (.cells #[.int .i64 (u : Int), .int .i64 (v : Int), .int .i64 (f : Int), .int .i64 (g : Int)] 57)
      have HB := Lib.hid (hB.alloc hB.size (.cells #[.int .i64 (u : Int), .int .i64 (v : Int), .int .i64 (f : Int), .int .i64 (g : Int)] 57))
      have HD := Lib.hid ((HB0.cell (block_lt_of_cell d1)).trans d1)
      have HT := Lib.hid (hby.bel HB0)
      have HR := Lib.hid (Hrq.out.bel HB0)
      have Hlt := Lib.hid hlt
      have Htl := Lib.hid htl
      clear hcs hp ht d1 hby HB0 Hrq hB hpl htl hlt hnx hax
      go_upto_region 9 with (first
        | (refine wpL_load_rd rfl 57 (.tmp 36) rfl (ad.add (k * 4)) rfl (piV ((u : Int), (v : Int), (f : Int), (g : Int))) _ Hcs.out Try.underlying57 rfl (by kernel_rfl) ?_
           simp only [piV]))
      generalize (wr.alloc (.cells #[.int .i64 (u : Int), .int .i64 (v : Int), .int .i64 (f : Int), .int .i64 (g : Int)] 57)) = W1 at *
      have hxl := heap_lt HX.out
      have e1 := (((Below.refl W1.heap.size W1).alloc (Nat.le_refl _) (.cells #[] 5)).cell (block_lt_of_cell HD.out)).trans HD.out
      go_wp2_with (first
        | (at_builtin
           refine wpL_append _ rfl (.tmp 38) (.tmp 42) _ rfl W1 W1.heap.size ((Below.refl _ _).alloc (Nat.le_refl _) _) (size_alloc_le (Nat.le_refl _) _) 5 _ 1 1 Try.underlying22 Num.info_u8 rfl (by omega) _ _ _ [] rfl (own_empty _ _ _ _ (Nat.le_refl _)) _ _ _ _ rfl (HT.out.alloc _) bytesV_one n2 (bytesV t) (by omega) rfl (by unfold maxLen; omega) (by omega) ?_
           intro A3 c3 w3 hown3 hb3 hg3 ho3
           obtain ⟨G, rfl⟩ := own_form hown3 hn3
           have hG := hown3.at0 _ rfl
           simp only at hG
           have O3 := Lib.hid hown3
           have B3 := Lib.hid hb3
           have x3 := (hb3.block _ hxl).trans HX.out
           have c31 : w3.cell? ⟨wr.heap.size, 2, none⟩ = some (.int .i64 (f : Int)) := by simp [World.cell?, x3]
           have X3 := Lib.hid x3
           clear hown3 hb3 hg3 ho3 e1 x3))
      clear c31
      clear Hcs
      generalize wr.heap.size = xb at *
      clear wr
      have Hbq : Hid (Byt w AB nb cb b) := Hh3
      go_loopw [11, 15] (fun va vk wr => ∃ p y : Nat, f ≤ p ∧ p ≤ g ∧ vk = .int .i64 (p : Int) ∧ va = .int .i64 (y : Int) ∧ y + f = q + p ∧ Hid (Tw.Own wr W1.heap.size 5 1 (some ⟨G, 0, none⟩) n2 c3 (bytesV (putTo f p t (b.drop q)))) ∧ Hid (w3.grownBy wr (some G))) (fun _ vk _ => g - (intOf vk).toNat)
      case atStart => exact ⟨f, q, Nat.le_refl _, by omega, rfl, rfl, by omega, Lib.hid (by rw [putTo_start]; exact O3.out), Lib.hid (World.grownBy.refl _ _)⟩
      case round =>
        obtain ⟨p, y, hp1, hp2, rfl, rfl, hy, HO, HG⟩ := hrel
        have xr := heap_grown X3.out HG.out (by simp; omega)
        have c1 : wr.cell? ⟨xb, 3, none⟩ = some (.int .i64 (g : Int)) := cell_at xr rfl
        have Xr := Lib.hid xr
        clear xr
        by_cases hpg : p < g
        · have HBw : Hid (Below w.heap.size w wr) := Lib.hid ((HB.out.trans (B3.out.mono HB.out.size)).grown HG.out (Nat.le_trans HB.out.size B3.out.size) (by rintro z ⟨⟩; have := HB.out.size; omega))
          obtain ⟨adb, x, rfl, hx, hcell, hx256⟩ := (Hbq.out.bel HBw.out).atB (k := y) (by omega)
          have hset := putTo_setV (f := f) (p := p) (t := t) (b := b.drop q) (x := x) hp1 (by rw [Htl.out]; omega) (by rw [List.getElem?_drop, show q + (p - f) = y from by omega]; exact hx.out)
          have Hset := Lib.hid hset
          clear hset hx
          go_wp2_with (first
            | (refine wpL_store_own rfl 5 (.tmp 58) (.tmp 57) rfl W1.heap.size 5 G p n2 c3 rfl .u8 _ rfl (by kernel_rfl) _ HO.out (by omega) _ Hset.out ?_
               intro w6 o6 hg6
               have O6 := Lib.hid o6
               have G6 := Lib.hid (HG.out.trans hg6)
               clear o6 hg6 c1 hcell))

          go_roundw
          case rel => exact ⟨p + 1, y + 1, by omega, by omega, by go_num, by go_num, by omega, O6, G6⟩
          case measure => simp [intOf] <;> omega
        · obtain rfl : p = g := by omega
          have hpa := putTo_all (p := ((u : Int), (v : Int), (f : Int), (p : Int))) (t := t) (b := b.drop q) (f := f) (g := p) (by simp) (by simp) Hpl.out
          rw [hpa] at HO
          have G4 := Lib.hid (B3.out)
          have BW := Lib.hid (B3.out.grown HG.out B3.out.size (by rintro z ⟨⟩; exact hG.1))
          have B4 := Lib.hid (HB.out.trans (BW.out.mono HB.out.size))
          have R4 := Lib.hid (HR.out.bel BW.out)
          have Glt := Lib.hid (HO.out.at0 _ rfl)
          clear hpa
          go_wp2_with (first
            | (refine wpL_load_rd rfl 55 (.tmp 62) rfl ⟨xb, 0, none⟩ rfl [.int .i64 (u : Int), .int .i64 (v : Int)] _ (fun j z hj => cells_of Xr.out j z (by match j, hj with | 0, hj => exact hj | 1, hj => exact hj)) Try.underlying55 rfl (by kernel_rfl) ?_)
            | (at_builtin
               go_loud (refine wpL_append _ rfl (.tmp 61) (.tmp 66) _ rfl w w.heap.size (bel_alloc B4.out B4.out.size _) (size_alloc_le B4.out.size _) 68 _ 4 48 Try.underlying51 info_rq rfl (by omega) _ _ _ _ rfl (Tw.Own.bel R4.out.own ((Below.refl _ _).alloc (Nat.le_refl _) _)) _ _ _ _ rfl ((own_lit wr wr.heap.size 68 4 #[.int .i64 1, .int .i64 (u : Int), .int .i64 (v : Int), .slice (some ⟨G, 0, none⟩) n2 c3] 1 (Nat.le_refl _) (by simp [maxLen]) (by simp)).rd) (by simp [Value.oneCell']) (k + 1) (vs ++ cellsOf (1, u, v, putAt ((u : Int), (v : Int), (f : Int), (p : Int)) t (b.drop q)) (some ⟨G, 0, none⟩) n2 c3) rfl rfl (by unfold maxLen; omega) (by omega) ?_)
               intro A5 c5 w5 hown5 hb5 hg5 ho5))
          go_roundw
          case rel =>
            refine ⟨k + 1, A5, c5, y, _, by omega, by go_num, rfl, rfl, by omega, Lib.hid (by rw [Hax.out]; omega), Lib.hid (by rw [Hnx.out]; exact RqOwn.snoc (w := wr.alloc _) (wrs_length _ _ _ _) R4.out.own.1 (R4.out.bel ((Below.refl _ _).alloc (Nat.le_refl _) _)).all (HO.out.rd.alloc _) (fun ad' e => by injection e with e; subst e; exact ⟨by have := Glt.out; simp only at this; simp; omega, fun ad e2 => by have := (HR.out.own.at0 ad e2).2; simp only; omega⟩) hown5 hg5 ho5), hb5⟩
          case measure => simp [intOf] <;> omega
    · obtain rfl : k = n := by omega
      go_wp2_with fail
      go_ret2
      exact ⟨A2, c2, vs, rfl, Hrq.out, hB⟩
end Go.Proofs.Ytlfphoablloodaa.Vol
