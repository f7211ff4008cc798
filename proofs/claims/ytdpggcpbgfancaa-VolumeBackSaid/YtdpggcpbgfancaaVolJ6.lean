/- Contract of Writes (volume). Conditions: at most 64 pieces. -/
import Derived.Test.YtdpggcpbgfancaaVolJ5
import Derived.Deep.Cut
set_option linter.unusedVariables false
set_option linter.unusedSimpArgs false
namespace Go.Proofs.Ytdpggcpbgfancaa.Vol
open Go.RowKit Tw
set_option maxHeartbeats 4000000
set_option maxRecDepth 100000

theorem rd_new {w w' : World} {size n c : Nat} {A : Option Addr} {xs : List Value} {row : Nat} (h : Rd w size A n c xs) (hg : w.grownBy w' (some row)) (hr : w.heap.size ≤ row) : Rd w' size A n c xs :=
  ⟨h.len, h.le, h.cap, h.nil, fun ad e j u hu => by
    have hc := h.cell ad e j u hu
    have := block_lt_of_cell hc
    exact hg.cell hc (by rw [block_add] at *; simp; omega)⟩
theorem cells_of {w : World} {g : Nat} {cs : Array Value} {t : TypeId} (h : w.heap[g]? = some (.cells cs t (0, 0))) (j : Nat) (v : Value) (hj : cs[j]? = some v) : w.cell? ((⟨g, 0, none⟩ : Addr).add j) = some v := by
  have ha : (⟨g, 0, none⟩ : Addr).add j = ⟨g, j, none⟩ := by simp [Addr.add]; omega
  rw [ha]
  simp [World.cell?, h, hj]
theorem put_length {p : Pi} {t b : List UInt8} {f g : Nat} (hf : p.2.2.1.toNat = f) (hg : p.2.2.2.toNat = g) (hpl : pl p = g - f) (hfg : f ≤ g) (hgt : g ≤ t.length) (hb : g - f ≤ b.length) : (putAt p t b).length = t.length := by
  unfold putAt
  rw [hf, hg, hpl]
  simp
  omega
theorem put_all {p : Pi} {t b : List UInt8} {f g : Nat} (hf : p.2.2.1.toNat = f) (hg : p.2.2.2.toNat = g) (hpl : pl p = g - f) (hfg : f ≤ g) (hgt : g ≤ t.length) (hb : g - f ≤ b.length) :
    splice (bytesV t) f (bytesV (b.take (g - f))) = bytesV (putAt p t b) := by
  unfold putAt
  rw [hf, hg, hpl]
  simp only [splice, bytesV_append, ← bytesV_take, ← bytesV_drop]
  congr 3
  rw [bytesV_length, List.length_take, Nat.min_eq_left hb]
  congr 1
  omega
theorem c_Writes_no1 (A A' AB : Option Addr) (n m nb c c' cb : Nat) (l : List Pi) (tl : List (List UInt8)) (w : World) (h : Rd w 4 A n c (pisV l)) (h2 : SlIn w A' m c' tl) (hn : n ≤ 64) (hm : m ≤ 64) (hF : ¬ Fits l tl) :
    Calls Try.prog 60 #[.slice A n c, .slice A' m c', .slice AB nb cb] w fun e w' => e = .returned (.tuple #[.slice none 0 0, .int .i64 2]) ∧ Below w.heap.size w w' := by
  have Hh := Lib.hid h
  have Hh2 := Lib.hid h2
  clear h h2
  go_enter Try.func60, Try.ntmps60
  go_wp2_with (first
    | (go_at_call 121
       (with_reducible refine (c_check _ _ _ _ _ _ l tl _ Hh.out Hh2.out hn hm).mono ?_)
       rintro e w1 ⟨hfr, hb1⟩
       obtain rfl := hfr.no hF))
  go_ret2
  exact ⟨rfl, hb1⟩
theorem c_Writes_no2 (A A' AB : Option Addr) (n m nb c c' cb : Nat) (l : List Pi) (tl : List (List UInt8)) (w : World) (h : Rd w 4 A n c (pisV l)) (h2 : SlIn w A' m c' tl) (hn : n ≤ 64) (hm : m ≤ 64) (hF : Fits l tl) (hb : nb ≠ ato l l.length) :
    Calls Try.prog 60 #[.slice A n c, .slice A' m c', .slice AB nb cb] w fun e w' => e = .returned (.tuple #[.slice none 0 0, .int .i64 2]) ∧ Below w.heap.size w w' := by
  have Hh := Lib.hid h
  have Hh2 := Lib.hid h2
  have hg : ∀ (i : Nat) (p : Pi), l[i]? = some p → Good p := fun i p hp => by
    have h1 := (List.getElem?_eq_some_iff.1 hp).1
    exact (hF.2 i p _ hp (List.getElem?_eq_getElem (by have := hF.1; omega))).1
  have Hg := Lib.hid hg
  have hne : ((nb : Int) != ((ato l l.length : Nat) : Int)) = true := by simp; omega
  have Hne := Lib.hid hne
  clear h h2 hg hb hne
  go_enter Try.func60, Try.ntmps60
  go_wp2_with (first
    | (go_at_call 121
       (with_reducible refine (c_check _ _ _ _ _ _ l tl _ Hh.out Hh2.out hn hm).mono ?_)
       rintro e w1 ⟨hfr, hb1⟩
       obtain rfl := hfr.yes hF
       have Hb1 := Lib.hid hb1
       clear hfr hb1)
    | (go_at_call 122
       (with_reducible refine (c_length _ _ _ l _ (Hh.out.bel Hb1.out) hn Hg.out).mono ?_)
       rintro e w2 ⟨rfl, hb2⟩
       have hne := Hne.out
       have Hb2 := Lib.hid (Hb1.out.trans (hb2.mono Hb1.out.size))
       clear hb2))
  go_ret2
  exact ⟨rfl, Hb2.out⟩

theorem c_Writes (A A' AB : Option Addr) (n m nb c c' cb : Nat) (l : List Pi) (tl : List (List UInt8)) (b : List UInt8) (w : World) (h : Rd w 4 A n c (pisV l)) (h2 : SlIn w A' m c' tl) (h3 : Byt w AB nb cb b) (hn : n ≤ 64) (hm : m ≤ 64) (hF : Fits l tl) (hb : nb = ato l l.length) :
    Calls Try.prog 60 #[.slice A n c, .slice A' m c', .slice AB nb cb] w fun e w' => ∃ A2 c2 vs, e = .returned (.tuple #[.slice A2 n c2, .int .i64 0]) ∧ RqOwn w' w.heap.size A2 n c2 (wrs l tl b n) vs ∧ Below w.heap.size w w' := by
  have hl : l.length = n := by have := h.len; rw [pisV_length] at this; omega
  have hl2 := h2.len
  have hf0 := hF.1
  obtain rfl : n = m := by omega
  have hg : ∀ (i : Nat) (p : Pi), l[i]? = some p → Good p := fun i p hp => by
    have h1 := (List.getElem?_eq_some_iff.1 hp).1
    exact (hF.2 i p _ hp (List.getElem?_eq_getElem (by omega))).1
  have hne : ((nb : Int) != ((ato l n : Nat) : Int)) = false := by rw [hb, hl]; simp
  have hnb : nb ≤ 8192 := by
    have := ato_le hg l.length (Nat.le_refl _)
    omega
  have hbl := h3.blen
  have Hh := Lib.hid h
  have Hh2 := Lib.hid h2
  have Hh3 := Lib.hid h3
  have Hg := Lib.hid hg
  have Hne := Lib.hid hne
  rw [hl] at hb
  have Hb := Lib.hid hb
  have Hbl := Lib.hid hbl
  clear h h2 h3 hg hne hb hbl
  go_enter Try.func60, Try.ntmps60
  go_wp2_with (first
    | (go_at_call 121
       (with_reducible refine (c_check _ _ _ _ _ _ l tl _ Hh.out Hh2.out hn hm).mono ?_)
       rintro e w1 ⟨hfr, hb1⟩
       obtain rfl := hfr.yes hF
       have Hb1 := Lib.hid hb1
       clear hfr hb1)
    | (go_at_call 122
       (with_reducible refine (c_length _ _ _ l _ (Hh.out.bel Hb1.out) hn Hg.out).mono ?_)
       rintro e w2 ⟨rfl, hb2⟩
       have hne := Hne.out
       have Hb2 := Lib.hid (Hb1.out.trans (hb2.mono Hb1.out.size))
       clear hb2))
  clear hne
  go_loopw [2, 8, 25] (fun vb v i wr => ∃ (k : Nat) (A2 : Option Addr) (c2 : Nat) (AC : Option Addr) (nc cc : Nat) (vs : List Value), k ≤ n ∧ i = .int .i64 (k : Int) ∧ v = .slice A2 k c2 ∧ vb = .slice AC nc cc ∧ nc ≤ 8192 ∧ Hid (nc + ato l k = nb) ∧ Hid (Byt w AC nc cc (b.drop (ato l k))) ∧ Hid (RqOwn wr w.heap.size A2 k c2 (wrs l tl b k) vs) ∧ Below w.heap.size w wr) (fun _ _ i _ => n - (intOf i).toNat)
  case atStart => exact ⟨0, none, 0, AB, nb, cb, [], Nat.zero_le _, rfl, rfl, rfl, hnb, Lib.hid (by rw [ato_zero]; rfl), Lib.hid (by rw [ato_zero]; exact Hh3.out), Lib.hid (RqOwn.nil _ _), Hb2.out⟩
  case round =>
    clear Hb2 Hb1 Hne
    obtain ⟨k, A2, c2, AC, nc, cc, vs, hk, rfl, rfl, rfl, hnc, Hsum, Hby, Hrq, hB⟩ := hrel
    by_cases hkn : k < n
    · obtain ⟨⟨x1, x2, x3, x4⟩, hp⟩ : ∃ p, l[k]? = some p := ⟨_, List.getElem?_eq_getElem (by omega)⟩
      obtain ⟨t, ht⟩ : ∃ p, tl[k]? = some p := ⟨_, List.getElem?_eq_getElem (by omega)⟩
      obtain ⟨hg, hlt⟩ := hF.2 k _ _ hp ht
      have hle0 := ato_mono (l := l) (j := k + 1) (k := n) (by omega)
      rw [ato_next hp, ← Hb.out] at hle0
      have hnx := wrs_next (b := b) hp ht
      have hax := ato_next hp
      have hs0 := Hsum.out
      simp only [Good] at hg
      simp only at hlt
      obtain ⟨u, rfl⟩ : ∃ u : Nat, x1 = (u : Int) := ⟨x1.toNat, by omega⟩
      obtain ⟨v, rfl⟩ : ∃ v : Nat, x2 = (v : Int) := ⟨x2.toNat, by omega⟩
      obtain ⟨f, rfl⟩ : ∃ f : Nat, x3 = (f : Int) := ⟨x3.toNat, by omega⟩
      obtain ⟨g, rfl⟩ : ∃ g : Nat, x4 = (g : Int) := ⟨x4.toNat, by omega⟩
      have hpl : pl ((u : Int), (v : Int), (f : Int), (g : Int)) = g - f := by simp only [pl]; omega
      rw [hpl] at hle0
      simp only [Int.toNat_natCast] at hnx
      have Hnx := Lib.hid hnx
      have Hpl := Lib.hid hpl
      rw [hpl] at hax
      have Hax := Lib.hid hax
      have hnc2 : g - f ≤ nc := by omega
      obtain ⟨ad, rfl, hcs⟩ := pi_at (Hh.out.below hB (Nat.le_refl _)) hp
      obtain ⟨ad2, B2, n2, d2, rfl, d1, hby⟩ := (Hh2.out.below hB (Nat.le_refl _)).at_ k _ ht
      have htl := hby.blen
      have hgn : g ≤ n2 := by omega
      have hn2 : n2 ≤ 128 := by omega
      have hle := Hh.out.le
      have hle2 := Hh2.out.le
      have hle3 := hby.le
      have hle4 := Hby.out.le
      have Hcs := Lib.hid hcs
      have HX := Lib.hid (heap_alloc_new wr (.cells #[.int .i64 (u : Int), .int .i64 (v : Int), .int .i64 (f : Int), .int .i64 (g : Int)] 158))
      have HB0 := (Below.refl wr.heap.size wr).alloc (Nat.le_refl wr.heap.size) (.cells #[.int .i64 (u : Int), .int .i64 (v : Int), .int .i64 (f : Int), .int .i64 (g : Int)] 158)
      have HB := Lib.hid (hB.alloc hB.size (.cells #[.int .i64 (u : Int), .int .i64 (v : Int), .int .i64 (f : Int), .int .i64 (g : Int)] 158))
      have HD := Lib.hid ((HB0.cell (block_lt_of_cell d1)).trans d1)
      have HT := Lib.hid (hby.bel HB0)
      have HC := Lib.hid (Hby.out.bel HB.out)
      have HR := Lib.hid (Hrq.out.bel HB0)
      have Hlt := Lib.hid hlt
      have Htl := Lib.hid htl
      clear hcs hp ht d1 hby HB0 Hrq hB hs0 hpl htl hle0 hlt hnx hax
      go_upto_region 7 with (first
        | (refine wpL_load_rd rfl 158 (.tmp 28) rfl (ad.add (k * 4)) rfl (piV ((u : Int), (v : Int), (f : Int), (g : Int))) _ Hcs.out Try.underlying158 rfl (by kernel_rfl) ?_
           simp only [piV]))
      generalize (wr.alloc (.cells #[.int .i64 (u : Int), .int .i64 (v : Int), .int .i64 (f : Int), .int .i64 (g : Int)] 158)) = W1 at *
      have hxl := heap_lt HX.out
      have e1 := HD.out
      by_cases hfm : f = n2
      · go_wp2_with (first
          | (at_make
             refine wpL_make _ rfl _ _ _ rfl w w.heap.size HB.out HB.out.size 5 _ 1 1 Try.underlying23 Num.info_u8 _ _ _ _ n2 rfl rfl (by omega) (by omega) (by omega) (by unfold maxLen; omega) _ (Tw.made_u8 n2) ?_
             intro w2 hown2 hb2 hg2
             have k2 := hown2.heap
             have e2 := hg2.cell HD.out (by simp)
             have T2 := HT.out.grown hg2 (by simp)
             have G2 := Lib.hid (hg2.but (some W1.heap.size))
             have B2' := Lib.hid hb2
             clear hown2 hb2 hg2 e1)
          | (refine wpL_copy rfl (.tmp 36) (.tmp 40) 23 23 rfl 5 Try.underlying23 (by kernel_rfl) _ _ n2 n2 n2 d2 rfl rfl W1.heap.size 0 _ 5 k2 (bytesV t) n2 (by rw [bytesV_length, Htl.out]) (Nat.min_self _).symm (fun h0 => ⟨rfl, T2.src h0⟩) (by rw [bytesV_length, List.length_replicate]; omega) bytesV_one (bytesV t) (splice_all (by rw [bytesV_length, bytesV_length, Htl.out, List.length_replicate])) ?_
             intro w3 h3 hgr
             have G3 := Lib.hid (G2.out.trans hgr)
             have B3' := Lib.hid (B2'.out.grown hgr B2'.out.size (by rintro q ⟨⟩; exact HB.out.size))
             have x3 := heap_grown HX.out G3.out (by simp; omega)
             have c31 : w3.cell? ⟨wr.heap.size, 2, none⟩ = some (.int .i64 (f : Int)) := by simp [World.cell?, x3]
             have c32 : w3.cell? ⟨wr.heap.size, 3, none⟩ = some (.int .i64 (g : Int)) := by simp [World.cell?, x3]
             have C3 := rd_new HC.out G3.out (Nat.le_refl _)
             clear G2 B2' hgr k2 e2 T2 x3)
          | (refine wpL_copy rfl (.tmp 48) (.tmp 49) 23 23 rfl 5 Try.underlying23 (by kernel_rfl) _ _ 0 0 nc cc rfl rfl W1.heap.size f _ 5 h3 (bytesV ((b.drop (ato l k)).take (g - f))) 0 (by rw [bytesV_length, List.length_take]; omega) (Nat.min_eq_right (Nat.zero_le _)).symm (fun h0 => absurd h0 (by omega)) (by rw [bytesV_length, Htl.out]; omega) bytesV_one (bytesV (putAt ((u : Int), (v : Int), (f : Int), (g : Int)) t (b.drop (ato l k)))) (put_all (by simp) (by simp) Hpl.out (by omega) (by rw [Htl.out]; omega) (by rw [C3.blen]; omega)) ?_
             intro w4 h4 hgr
             have G4 := Lib.hid (G3.out.trans hgr)
             have B4 := Lib.hid (B3'.out.grown hgr B3'.out.size (by rintro q ⟨⟩; exact HB.out.size))
             have X4 := Lib.hid (heap_grown HX.out G4.out (by simp; omega))
             have C4 := Lib.hid (rd_new HC.out G4.out (Nat.le_refl _))
             have R4 := Lib.hid (HR.out.grown G4.out (Nat.le_refl _))
             have H4 := Lib.hid h4
             have Gl := Lib.hid (heap_lt h4)
             clear G3 B3' hgr h3 h4 C3 c31 c32)
          | (refine wpL_load_rd rfl 74 (.tmp 53) rfl ⟨wr.heap.size, 0, none⟩ rfl [.int .i64 (u : Int), .int .i64 (v : Int)] _ (fun j z hj => cells_of X4.out j z (by match j, hj with | 0, hj => exact hj | 1, hj => exact hj)) Try.underlying74 rfl (by kernel_rfl) ?_)
          | (at_builtin
             go_loud (refine wpL_append _ rfl (.tmp 52) (.tmp 57) _ rfl w w.heap.size (bel_alloc B4.out B4.out.size _) (size_alloc_le B4.out.size _) 86 _ 4 48 Try.underlying82 info_rq rfl (by omega) _ _ _ _ rfl (Tw.Own.bel R4.out.own ((Below.refl _ _).alloc (Nat.le_refl _) _)) _ _ _ _ rfl ((own_lit w4 w4.heap.size 86 4 #[.int .i64 1, .int .i64 (u : Int), .int .i64 (v : Int), .slice (some ⟨W1.heap.size, 0, none⟩) n2 n2] 1 (Nat.le_refl _) (by simp [maxLen]) (by simp)).rd) (by simp [Value.oneCell']) (k + 1) (vs ++ cellsOf (1, u, v, putAt ((u : Int), (v : Int), (f : Int), (g : Int)) t (b.drop (ato l k))) (some ⟨W1.heap.size, 0, none⟩) n2 n2) rfl rfl (by unfold maxLen; omega) (by omega) ?_)
             intro A5 c5 w5 hown5 hb5 hg5 ho5))
        go_roundw
        case rel =>
          refine ⟨k + 1, A5, c5, _, _, _, _, by omega, by go_num, rfl, rfl, by omega, Lib.hid (by rw [Hax.out]; have := Hsum.out; omega), Lib.hid (by rw [Hax.out, ← List.drop_drop]; exact (by rw [show g - f = 0 from by omega, List.drop_zero]; exact Hby.out)), Lib.hid (by rw [Hnx.out]; exact RqOwn.snoc (w := w4.alloc _) (wrs_length _ _ _ _) R4.out.own.1 (R4.out.bel ((Below.refl _ _).alloc (Nat.le_refl _) _)).all ((rd_of_heap H4.out (by rw [bytesV_length, put_length (by simp) (by simp) Hpl.out (by omega) (by rw [Htl.out]; omega) (by rw [Hby.out.blen]; omega), Htl.out]) (by unfold maxLen; omega)).alloc _) (fun ad' e => by injection e with e; subst e; exact ⟨by have := Gl.out; simp; omega, fun ad e2 => by have := (HR.out.own.at0 ad e2).2; simp only; omega⟩) hown5 hg5 ho5), hb5⟩
        case measure => simp [intOf] <;> omega
      · go_wp2_with (first
          | (at_make
             refine wpL_make _ rfl _ _ _ rfl w w.heap.size HB.out HB.out.size 5 _ 1 1 Try.underlying23 Num.info_u8 _ _ _ _ n2 rfl rfl (by omega) (by omega) (by omega) (by unfold maxLen; omega) _ (Tw.made_u8 n2) ?_
             intro w2 hown2 hb2 hg2
             have k2 := hown2.heap
             have e2 := hg2.cell HD.out (by simp)
             have T2 := HT.out.grown hg2 (by simp)
             have G2 := Lib.hid (hg2.but (some W1.heap.size))
             have B2' := Lib.hid hb2
             clear hown2 hb2 hg2 e1)
          | (refine wpL_copy rfl (.tmp 36) (.tmp 40) 23 23 rfl 5 Try.underlying23 (by kernel_rfl) _ _ n2 n2 n2 d2 rfl rfl W1.heap.size 0 _ 5 k2 (bytesV t) n2 (by rw [bytesV_length, Htl.out]) (Nat.min_self _).symm (fun h0 => ⟨rfl, T2.src h0⟩) (by rw [bytesV_length, List.length_replicate]; omega) bytesV_one (bytesV t) (splice_all (by rw [bytesV_length, bytesV_length, Htl.out, List.length_replicate])) ?_
             intro w3 h3 hgr
             have G3 := Lib.hid (G2.out.trans hgr)
             have B3' := Lib.hid (B2'.out.grown hgr B2'.out.size (by rintro q ⟨⟩; exact HB.out.size))
             have x3 := heap_grown HX.out G3.out (by simp; omega)
             have c31 : w3.cell? ⟨wr.heap.size, 2, none⟩ = some (.int .i64 (f : Int)) := by simp [World.cell?, x3]
             have c32 : w3.cell? ⟨wr.heap.size, 3, none⟩ = some (.int .i64 (g : Int)) := by simp [World.cell?, x3]
             have C3 := rd_new HC.out G3.out (Nat.le_refl _)
             clear G2 B2' hgr k2 e2 T2 x3)
          | (refine wpL_copy rfl (.tmp 48) (.tmp 49) 23 23 rfl 5 Try.underlying23 (by kernel_rfl) _ _ (g - f) (n2 - f) nc cc rfl rfl W1.heap.size f _ 5 h3 (bytesV ((b.drop (ato l k)).take (g - f))) (g - f) (by rw [bytesV_length, List.length_take, C3.blen, Nat.min_eq_left hnc2]) (Nat.min_eq_right hnc2).symm (fun h0 => ⟨rfl, (C3.uptoB (k := g - f) hnc2).src h0⟩) (by rw [bytesV_length, Htl.out]; omega) bytesV_one (bytesV (putAt ((u : Int), (v : Int), (f : Int), (g : Int)) t (b.drop (ato l k)))) (put_all (by simp) (by simp) Hpl.out (by omega) (by rw [Htl.out]; omega) (by rw [C3.blen]; omega)) ?_
             intro w4 h4 hgr
             have G4 := Lib.hid (G3.out.trans hgr)
             have B4 := Lib.hid (B3'.out.grown hgr B3'.out.size (by rintro q ⟨⟩; exact HB.out.size))
             have X4 := Lib.hid (heap_grown HX.out G4.out (by simp; omega))
             have C4 := Lib.hid (rd_new HC.out G4.out (Nat.le_refl _))
             have R4 := Lib.hid (HR.out.grown G4.out (Nat.le_refl _))
             have H4 := Lib.hid h4
             have Gl := Lib.hid (heap_lt h4)
             clear G3 B3' hgr h3 h4 C3 c31 c32)
          | (refine wpL_load_rd rfl 74 (.tmp 53) rfl ⟨wr.heap.size, 0, none⟩ rfl [.int .i64 (u : Int), .int .i64 (v : Int)] _ (fun j z hj => cells_of X4.out j z (by match j, hj with | 0, hj => exact hj | 1, hj => exact hj)) Try.underlying74 rfl (by kernel_rfl) ?_)
          | (at_builtin
             go_loud (refine wpL_append _ rfl (.tmp 52) (.tmp 57) _ rfl w w.heap.size (bel_alloc B4.out B4.out.size _) (size_alloc_le B4.out.size _) 86 _ 4 48 Try.underlying82 info_rq rfl (by omega) _ _ _ _ rfl (Tw.Own.bel R4.out.own ((Below.refl _ _).alloc (Nat.le_refl _) _)) _ _ _ _ rfl ((own_lit w4 w4.heap.size 86 4 #[.int .i64 1, .int .i64 (u : Int), .int .i64 (v : Int), .slice (some ⟨W1.heap.size, 0, none⟩) n2 n2] 1 (Nat.le_refl _) (by simp [maxLen]) (by simp)).rd) (by simp [Value.oneCell']) (k + 1) (vs ++ cellsOf (1, u, v, putAt ((u : Int), (v : Int), (f : Int), (g : Int)) t (b.drop (ato l k))) (some ⟨W1.heap.size, 0, none⟩) n2 n2) rfl rfl (by unfold maxLen; omega) (by omega) ?_)
             intro A5 c5 w5 hown5 hb5 hg5 ho5))
        go_roundw
        case rel =>
          refine ⟨k + 1, A5, c5, _, _, _, _, by omega, by go_num, rfl, rfl, by omega, Lib.hid (by rw [Hax.out]; have := Hsum.out; omega), Lib.hid (by rw [Hax.out, ← List.drop_drop]; exact Hby.out.cutB hnc2), Lib.hid (by rw [Hnx.out]; exact RqOwn.snoc (w := w4.alloc _) (wrs_length _ _ _ _) R4.out.own.1 (R4.out.bel ((Below.refl _ _).alloc (Nat.le_refl _) _)).all ((rd_of_heap H4.out (by rw [bytesV_length, put_length (by simp) (by simp) Hpl.out (by omega) (by rw [Htl.out]; omega) (by rw [Hby.out.blen]; omega), Htl.out]) (by unfold maxLen; omega)).alloc _) (fun ad' e => by injection e with e; subst e; exact ⟨by have := Gl.out; simp; omega, fun ad e2 => by have := (HR.out.own.at0 ad e2).2; simp only; omega⟩) hown5 hg5 ho5), hb5⟩
        case measure => simp [intOf] <;> omega
    · obtain rfl : k = n := by omega
      go_wp2_with fail
      go_ret2
      exact ⟨A2, c2, vs, rfl, Hrq.out, hB⟩
end Go.Proofs.Ytdpggcpbgfancaa.Vol
