/- The law VolumeBack, walked. Conditions: none. -/
import Derived.Test.YtdpggcpbgfancaaVolB5
import Derived.Test.YtdpggcpbgfancaaVolB1
import Derived.Test.YtdpggcpbgfancaaVolJ6
import Derived.Test.YtdpggcpbgfancaaData5
set_option linter.unusedVariables false
set_option linter.unusedSimpArgs false
namespace Go.Proofs.Ytdpggcpbgfancaa.Vol
open Go.RowKit Tw Disk
open Go.Proofs.Ytdpggcpbgfancaa.Data (area Fine dRead dWrite)
set_option maxHeartbeats 16000000
set_option maxRecDepth 100000
/-- bytes do not stand in a disk's own blocks -/
theorem apart_disk {w : World} {p g mb cd : Nat} {d : Dsk} (h : Dk w p g mb cd d) {A : Option Addr} {n c : Nat} {b : List UInt8} (hb : Byt w A n c b) : ∀ ad, A = some ad → 0 < n → ad.block ≠ p ∧ ad.block ≠ mb := by
  intro ad e hn
  obtain ⟨ad', x, e2, -, hc, -⟩ := hb.atB (k := 0) hn
  rw [e] at e2
  injection e2 with e2
  subst e2
  have hc0 : w.cell? ad = some (.int .u8 (x.toNat : Int)) := by simpa [Addr.add] using hc
  refine ⟨fun e3 => ?_, fun e3 => ?_⟩
  · have hb1 := h.blk
    rw [← e3] at hb1
    unfold World.cell? at hc0
    rw [hb1] at hc0
    simp only at hc0
    split at hc0
    · cases hc0
    · generalize ad.off = k at hc0
      rcases k with _ | _ | _ | _ | _ | k <;> simp at hc0
  · obtain ⟨D, m, hm, -, -⟩ := h.map
    obtain ⟨es, clock, hb1, -⟩ := hm
    rw [← e3] at hb1
    unfold World.cell? at hc0
    rw [hb1] at hc0
    simp at hc0
theorem info16 : True := trivial
/-- the bytes that the law's first loop writes -/
def row16 (x : UInt8) : List UInt8 := [x, 1, 2, 3, 4, 5, 6, 7, 8, 9, 10, 11, 12, 13, 14, 15]
theorem w_VolumeBack (o : Int) (A : Option Addr) (n c : Nat) (b : List UInt8) (A' : Option Addr) (n' c' : Nat) (fill : List UInt8) (w : World) (hb : Byt w A n c b) (hfl : Byt w A' n' c' fill) (ho0 : -9223372036854775808 ≤ o) (ho1 : o ≤ 9223372036854775807) :
    Calls Try.prog 15 #[.int .i64 o, .slice A n c, .slice A' n' c'] w fun e w' => e = .returned (.bool true) ∧ Below w.heap.size w w' := by
  have hlen := hb.blen
  have hlen' := hfl.blen
  have Hb := Lib.hid hb
  have Hf := Lib.hid hfl
  have hcap : n ≤ 9223372036854775807 := by have h1 := hb.le; have h2 := hb.cap; unfold maxLen at h2; omega
  clear hb hfl
  by_cases hg : n > 400 ∨ o < 0 ∨ o > 500 ∨ o > 512 - (n : Int)
  · have Hg := Lib.hid hg
    clear hg
    go_enter Try.func15, Try.ntmps15
    go_wp2_with (first
      | (go_at_call 55
         (with_reducible refine (c_lives _).mono ?_)
         rintro e w1 ⟨rfl, hb1⟩)
      | (go_at_call 45
         exfalso
         have := Hg.out
         omega))
    all_goals first
      | (go_ret; exact ⟨rfl, hb1⟩)
      | skip
  · obtain ⟨O, rfl⟩ : ∃ O : Nat, o = (O : Int) := ⟨o.toNat, by omega⟩
    have hOn : O + n ≤ 512 := by omega
    have hO5 : O ≤ 500 := by omega
    have hn4 : n ≤ 400 := by omega
    clear hg ho0 ho1 hcap
    have hg2 : ¬ ((512 : Int) - (n : Int) < (O : Int)) := by omega
    go_enter Try.func15, Try.ntmps15
    go_wp2_with (first
      | (go_at_call 45
         (with_reducible refine (Data.c_dNewI 40 40 rfl _ (by omega) (by omega)).mono ?_)
         rintro e w1 ⟨p, g, mb, rfl, hd1, hge, hb1⟩
         have HD := Lib.hid hd1
         have HB := Lib.hid hb1
         have HG := Lib.hid hge
         clear hd1 hb1 hge))
    go_loopw [9] (fun i wr => ∃ (k : Nat) (d : Dsk), k ≤ 32 ∧ i = .int .i64 (k : Int) ∧ Hid (Dk wr p g mb 40 d) ∧ Hid (Fine d ∧ d.cells.length = 40 ∧ d.ops ≤ 1024 * k) ∧ Hid (Below w.heap.size w wr)) (fun i _ => 32 - (intOf i).toNat)
    case atStart => exact ⟨0, _, by omega, rfl, HD, Lib.hid ⟨Data.fine_new (by omega) (by omega), by simp [Dsk.new], by simp [Dsk.new]⟩, HB⟩
    case round =>
      clear HD HB
      obtain ⟨k, d, hk, rfl, hD, hF, hB⟩ := hrel
      by_cases hkn : k < 32 ∧ k < n'
      · obtain ⟨hk1, hk2⟩ := hkn
        obtain ⟨ad, x, rfl, hx, hc, hxl⟩ := (Hf.out.below hB.out (Nat.le_refl _)).atB (k := k) hk2
        obtain ⟨hf1, hf2, hf3⟩ := hF.out
        have hops : d.ops + 1024 < 1000000000 := by omega
        have aw := area_write hf1 hops (x := k) (y := 1) (b := row16 x) (by omega) (by omega) (by omega) rfl
        rw [show ((1 : Nat) : Int) = 1 from rfl] at aw
        have hfl2 := Hf.out.le
        have hby : Byt (wr.alloc (.cells #[.int .u8 (x.toNat : Int), .int .u8 1, .int .u8 2, .int .u8 3, .int .u8 4, .int .u8 5, .int .u8 6, .int .u8 7, .int .u8 8, .int .u8 9, .int .u8 10, .int .u8 11, .int .u8 12, .int .u8 13, .int .u8 14, .int .u8 15] 5)) (some ⟨wr.heap.size, 0, none⟩) 16 16 (row16 x) := (own_lit wr wr.heap.size 5 1 #[.int .u8 (x.toNat : Int), .int .u8 1, .int .u8 2, .int .u8 3, .int .u8 4, .int .u8 5, .int .u8 6, .int .u8 7, .int .u8 8, .int .u8 9, .int .u8 10, .int .u8 11, .int .u8 12, .int .u8 13, .int .u8 14, .int .u8 15] 16 (Nat.le_refl _) (by simp [maxLen]) (by simp)).rd
        have hdk := hD.out.bel ((Below.refl _ _).alloc (Nat.le_refl _) (.cells #[.int .u8 (x.toNat : Int), .int .u8 1, .int .u8 2, .int .u8 3, .int .u8 4, .int .u8 5, .int .u8 6, .int .u8 7, .int .u8 8, .int .u8 9, .int .u8 10, .int .u8 11, .int .u8 12, .int .u8 13, .int .u8 14, .int .u8 15] 5))
        have hlts := hD.out.lts
        have hcw := Data.c_Write hdk hops (k : Int) 1 _ 16 16 (row16 x) hby (fun ad e _ => by injection e with e; subst e; simp only; omega)
        have hge := HG.out
        have HB5 : Hid (Below w.heap.size w (wr.alloc (.cells #[.int .u8 (x.toNat : Int), .int .u8 1, .int .u8 2, .int .u8 3, .int .u8 4, .int .u8 5, .int .u8 6, .int .u8 7, .int .u8 8, .int .u8 9, .int .u8 10, .int .u8 11, .int .u8 12, .int .u8 13, .int .u8 14, .int .u8 15] 5))) := Lib.hid (bel_alloc hB.out hB.out.size _)
        have Haw := Lib.hid aw
        have Hcw := Lib.hid hcw
        have hc' : wr.cell? (ad.add k) = some (.int .u8 (x.toNat : Int)) := hc
        generalize x.toNat = X at *
        clear aw hcw hby hdk hx hc hf1
        go_wp2_with (first
          | (go_at_call 56
             (with_reducible refine Hcw.out.mono ?_)
             rintro e w5 ⟨rfl, hd5, f5⟩
             have HD5 := Lib.hid hd5
             have HB6 := Lib.hid (HB5.out.trans (f5.bel (fun j e => by omega) HB5.out.size))
             clear hd5 f5)
          | fail)
        obtain ⟨a1, a2, a3, a4, a5⟩ := Haw.out
        go_roundw
        case rel => exact ⟨k + 1, _, by omega, by go_num, HD5, Lib.hid ⟨a2, by omega, by omega⟩, HB6⟩
        case measure => simp [intOf] <;> omega
      · obtain ⟨hf1, hf2, hf3⟩ := hF.out
        have hge := HG.out
        have hlts := hD.out.lts
        have hAl : (area d).length = 512 := by rw [Data.area_len hf1.ok, hf2]
        obtain ⟨l, m, hcut, hpl⟩ := cut_plan O b (by omega)
        rw [hlen] at hcut
        have hci := fun w (h : Dk w p g mb 40 d) => Data.c_Image h hf1 (by omega)
        rw [hAl] at hci
        have hcc := fun w => c_Cut 32 (O : Int) (n : Int) w (by omega) (by omega) (by omega)
        rw [hcut] at hcc
        simp only at hcc
        have hsm := hpl.small
        have hcr := fun w A c (hd : Dk w p g mb 40 d) (h : Rd w 4 A l.length c (pcsV l)) => c_read hd A l.length c l h (by omega) (fun q hq => (hpl.reads d hf1 hf2 q hq).1) (fun q hq => (hpl.reads d hf1 hf2 q hq).2)
        have hats := hpl.ats
        rw [hlen] at hats
        have hcw := fun w A c A2 c2 AB cb (h : Rd w 4 A l.length c (pcsV l)) (h2 : SlIn w A2 l.length c2 (told d l)) (h3 : Byt w AB n cb b) => c_Writes A A2 AB l.length l.length n c c2 cb (l.map toPi) (told d l) b w (by rw [pis_pcs]; exact h) h2 h3 (by omega) (by omega) (hpl.fits d hf1 hf2) (by rw [List.length_map]; exact hats.symm)
        have Hpl := Lib.hid hpl
        have HF := Lib.hid hf1
        obtain ⟨N, hN⟩ : ∃ N, l.length = N := ⟨_, rfl⟩
        have HN := Lib.hid hN
        rw [hN] at hcc hcr hcw hsm
        have hkn' : ¬ (k < 32) ∨ ¬ (k < n') := by omega
        have Hkn := Lib.hid hkn'
        clear hcut hpl hF hN hats hAl hf1 hkn hkn'
        go_wp2_with (first
          | (go_at_call 57
             (with_reducible refine (hci _ hD.out).mono ?_)
             rintro e w2 ⟨A2, c2, rfl, ho2, b2⟩
             have I2 := Lib.hid ho2
             have D2 := Lib.hid (hD.out.bel b2)
             have B2 := Lib.hid (hB.out.trans (b2.mono hB.out.size))
             clear ho2 b2)
          | (go_at_call 58
             (with_reducible refine (hcc _).mono ?_)
             rintro e w3 ⟨A3, c3, rfl, ho3, b3⟩
             have C3 := Lib.hid ho3
             have I3 := Lib.hid (Tw.Own.bel I2.out b3)
             have D3 := Lib.hid (D2.out.bel b3)
             have B3 := Lib.hid (B2.out.trans (b3.mono B2.out.size))
             clear ho3 b3 hcc)
          | (go_at_call 59
             (with_reducible refine (hcr _ _ _ D3.out C3.out.rd).mono ?_)
             rintro e w4 ⟨A4, c4, vs4, rfl, ho4, b4⟩
             have S4 := Lib.hid ho4
             have C4 := Lib.hid (Tw.Own.bel C3.out b4)
             have I4 := Lib.hid (Tw.Own.bel I3.out b4)
             have D4 := Lib.hid (D3.out.bel b4)
             have B4 := Lib.hid (B3.out.trans (b4.mono B3.out.size))
             clear ho4 b4 hcr)
          | (go_at_call 60
             (with_reducible refine (hcw _ _ _ _ _ _ _ C4.out.rd S4.out.slIn (Hb.out.below B4.out (Nat.le_refl _))).mono ?_)
             rintro e w5 ⟨A5, c5, vs5, rfl, ho5, b5⟩
             have R5 := Lib.hid ho5
             have C5 := Lib.hid (Tw.Own.bel C4.out b5)
             have I5 := Lib.hid (Tw.Own.bel I4.out b5)
             have D5 := Lib.hid (D4.out.bel b5)
             have B5 := Lib.hid (B4.out.trans (b5.mono B4.out.size))
             clear ho5 b5 hcw))
        all_goals first
          | (exfalso; have := Hkn.out; omega)
          | skip
        all_goals
          clear hci
          have hl5 := D4.out.lts
          have hsz5 := hlts
          go_loopw [108] (fun i wr' => ∃ (j : Nat) (d' : Dsk), j ≤ N ∧ i = .int .i64 (j : Int) ∧ Hid (Dk wr' p g mb 40 d') ∧ Hid (Fine d' ∧ d'.cells.length = 40 ∧ d'.ops ≤ 1024 * (k + j) ∧ area d' = pat (area d) b O (m j)) ∧ Hid (Fr (fun x => x = p ∨ x = mb) w5 wr')) (fun i _ => N - (intOf i).toNat)
          case atStart => exact ⟨0, d, by omega, rfl, D5, Lib.hid ⟨HF.out, hf2, by omega, by rw [Hpl.out.m0, pat_zero]⟩, Lib.hid (Fr.refl _ _)⟩
          case round =>
            obtain ⟨j, d', hj, rfl, hD', hF', hFr⟩ := hrel
            by_cases hjn : j < N
            · obtain ⟨q1, q2, q3, q4⟩ := hF'.out
              obtain ⟨x, y, data, e1, e2, e3, e4, e5, e6, e7, e8, e9, e10⟩ := Hpl.out.next d d' j HF.out hf2 q1 q2 (by omega) (by rw [HN.out]; exact hjn) q4
              have hwj : (wrs (l.map toPi) (told d l) b N)[j]? = some (1, x, y, data) := by simp [wrs, hjn, e1]
              obtain ⟨ad, DA, dn, dc, rfl, hcs, hdb⟩ := R5.out.rqIn.at_ j _ hwj
              have hdl : data.length = dn := hdb.blen
              obtain rfl : dn = 16 * y := by omega
              have hap := apart_disk D5.out hdb
              have hrow := (R5.out.own.at0 ad rfl).1
              have hle5 := R5.out.own.rd.le
              have hdb2 : Byt wr DA (16 * y) dc data := hdb.fr hFr.out (fun ad2 e => by have := hap ad2 e (by omega); simp only [not_or]; exact this)
              have Hdb := Lib.hid hdb2
              have Hap := Lib.hid hap
              have Hcs : Hid (∀ i v, ([.int .i64 1, .int .i64 (x : Int), .int .i64 (y : Int), .slice DA (16 * y) dc] : List Value)[i]? = some v → wr.cell? ((ad.add (j * 4)).add i) = some v) := Lib.hid fun i v hv => by
                have h1 := hcs i v hv
                have hblk := block_lt_of_cell h1
                rw [World.cell?_of_block (w := w5) (hFr.out.block _ hblk (by rw [block_add, block_add]; omega))]
                exact h1
              have hdk := hD'.out.bel ((Below.refl _ _).alloc (Nat.le_refl _) (.cells #[.int .i64 1, .int .i64 (x : Int), .int .i64 (y : Int), .slice DA (16 * y) dc] 86))
              have Hdk := Lib.hid hdk
              have HXb := Lib.hid (heap_alloc_new wr (.cells #[.int .i64 1, .int .i64 (x : Int), .int .i64 (y : Int), .slice DA (16 * y) dc] 86))
              have He := Lib.hid (⟨e7, e8, e9, e10⟩ : _ ∧ _ ∧ _ ∧ _)
              have He6 := Lib.hid e6
              have hops : d'.ops + 1024 < 1000000000 := by omega
              have hltp := hD'.out.lts
              clear hwj hcs hdb hdb2 hap e1 e5 e6 e7 e8 e9 e10 hdk q1 q4
              go_wp2_with (first
                | (refine wpL_load_rd rfl 86 (.tmp 110) rfl (ad.add (j * 4)) rfl [.int .i64 1, .int .i64 (x : Int), .int .i64 (y : Int), .slice DA (16 * y) dc] _ Hcs.out Try.underlying86 rfl (by kernel_rfl) ?_)
                | (go_at_call 61
                   (with_reducible refine (c_CheckW x y DA (16 * y) dc _ e2 e3 e4 rfl).mono ?_)
                   rintro e w7 ⟨rfl, b7⟩
                   have HXc := (b7.block _ (heap_lt HXb.out)).trans HXb.out
                   have HD7 := Lib.hid (Hdk.out.bel b7)
                   have F7 : Fr (fun x => x = p ∨ x = mb) wr w7 := (Fr.alloc _).trans (Fr.of_bel (S := fun _ => False) b7) (fun _ _ e => e.elim)
                   have HF7 := Lib.hid F7
                   have Hdb7 := Lib.hid (Hdb.out.fr (S := fun _ => False) (by exact ⟨F7.os, F7.tape, F7.output, F7.size, fun k hk _ => by
                     have h1 := b7.block k (by rw [World.size_alloc]; omega)
                     rw [h1]; exact Below.heap_alloc wr _ k hk⟩) (fun _ _ e => e))
                   obtain ⟨l0, l1, l2, l3⟩ := four_cells HXc
                   clear b7 HXc F7)
                | (go_at_call 56
                   (with_reducible refine (Data.c_Write HD7.out hops (x : Int) (y : Int) DA (16 * y) dc data Hdb7.out (fun ad2 e h => Hap.out ad2 e h)).mono ?_)
                   rintro e w8 ⟨rfl, hd8, f8⟩
                   rw [He6.out]
                   have HD8 := Lib.hid hd8
                   have HF8 := Lib.hid (hFr.out.trans (HF7.out.trans f8 (fun _ _ h => h)) (fun _ _ h => h))
                   clear hd8 f8 l0 l1 l2 l3))
              obtain ⟨h1, h2, h3, h4⟩ := He.out
              go_roundw
              case rel => exact ⟨j + 1, _, by omega, by go_num, HD8, Lib.hid ⟨h1, h2, by omega, h4⟩, HF8⟩
              case measure => simp [intOf] <;> omega
            · obtain rfl : j = N := by omega
              obtain ⟨q1, q2, q3, q4⟩ := hF'.out
              have hge := HG.out
              rw [show m j = b.length by rw [← HN.out]; exact Hpl.out.mN] at q4
              have hAl : (area d).length = 512 := by rw [Data.area_len HF.out.ok, hf2]
              have hAl' : (area d').length = 512 := by rw [Data.area_len q1.ok, q2]
              have hgat := Hpl.out.gath d d' HF.out hf2 q1 q2 q4
              obtain ⟨pp1, pp2, pp3⟩ := pat_parts (A := area d) (b := b) (o := O) (by rw [hAl, hlen]; exact hOn)
              rw [← q4, hlen] at pp2 pp3
              rw [← q4] at pp1
              have hci := fun w (h : Dk w p g mb 40 d') => Data.c_Image h q1 (by omega)
              rw [hAl'] at hci
              have hcr := fun w A c (hd : Dk w p g mb 40 d') (h : Rd w 4 A l.length c (pcsV l)) => c_read hd A l.length c l h (by have := Hpl.out.small; omega) (fun q hq => (Hpl.out.reads d' q1 q2 q hq).1) (fun q hq => (Hpl.out.reads d' q1 q2 q hq).2)
              have hcg := fun w A c A' c' (h : Rd w 4 A l.length c (pcsV l)) (h2 : SlIn w A' l.length c' (told d' l)) => c_Gather A A' l.length l.length c c' (l.map toPi) (told d' l) w (by rw [pis_pcs]; exact h) h2 (by have := Hpl.out.small; omega) (by have := Hpl.out.small; omega) (Hpl.out.fits d' q1 q2)
              rw [hgat, hlen] at hcg
              rw [HN.out] at hcr hcg
              have hl2 := D2.out.lts
              have DD := hD'
              have BB := Lib.hid (B5.out.trans (hFr.out.bel (fun x e => by rcases e with e | e <;> omega) B5.out.size))
              have CC := Lib.hid (C5.out.fr hFr.out (fun ad e => by have h1 := (C5.out.at0 ad e).1; rintro (h | h) <;> omega))
              have II := Lib.hid (I5.out.fr hFr.out (fun ad e => by have h1 := (I5.out.at0 ad e).1; rintro (h | h) <;> omega))
              have Hpp := Lib.hid (⟨pp1, pp2, pp3⟩ : _ ∧ _ ∧ _)
              have HAl := Lib.hid hAl
              have HAl' := Lib.hid hAl'
              generalize area d = AA at *
              generalize area d' = BA at *
              clear hF' q1 q2 q3 q4 hgat pp1 pp2 pp3 hAl hAl' HF Hpl hFr hD' I2 D2 B2 C3 I3 D3 B3 S4 C4 I4 D4 B4 C5 I5 D5 B5 R5 hD hB Hf
              go_upto_region 27 with (first
                | (go_at_call 59
                   (with_reducible refine (hcr _ _ _ DD.out CC.out.rd).mono ?_)
                   rintro e w10 ⟨A10, c10, vs10, rfl, ho10, b10⟩
                   have S10 := Lib.hid ho10
                   replace CC := Lib.hid (Tw.Own.bel CC.out b10)
                   replace II := Lib.hid (Tw.Own.bel II.out b10)
                   replace DD := Lib.hid (DD.out.bel b10)
                   replace BB := Lib.hid (BB.out.trans (b10.mono BB.out.size))
                   clear ho10 b10 hcr)
                | (go_at_call 62
                   (with_reducible refine (hcg _ _ _ _ _ CC.out.rd S10.out.slIn).mono ?_)
                   rintro e w11 ⟨A11, c11, rfl, ho11, b11⟩
                   have G11 := Lib.hid ho11
                   replace II := Lib.hid (Tw.Own.bel II.out b11)
                   replace DD := Lib.hid (DD.out.bel b11)
                   replace BB := Lib.hid (BB.out.trans (b11.mono BB.out.size))
                   clear ho11 b11 hcg CC S10)
                | (go_at_call 57
                   (with_reducible refine (hci _ DD.out).mono ?_)
                   rintro e w12 ⟨A12, c12, rfl, ho12, b12⟩
                   have J12 := Lib.hid ho12
                   replace G11 := Lib.hid (Tw.Own.bel G11.out b12)
                   replace II := Lib.hid (Tw.Own.bel II.out b12)
                   replace BB := Lib.hid (BB.out.trans (b12.mono BB.out.size))
                   have s1 := run_str (P := Try.prog) w12 23 9 5 A11 n c11 b Try.underlying23 Try.underlying5 Try.underlying9 G11.out.rd
                   have s2 := run_str (P := Try.prog) w12 23 9 5 A n c b Try.underlying23 Try.underlying5 Try.underlying9 (Hb.out.below BB.out (Nat.le_refl _))
                   clear ho12 b12 hci DD)
                | fail)
              obtain ⟨E, hE⟩ : ∃ E, O + n = E := ⟨_, rfl⟩
              rw [hE] at Hpp
              have hEi : Hid ((O : Int) + (n : Int) = (E : Int)) := Lib.hid (by omega)
              have hEw : Hid (IntKind.i64.wrap (E : Int) = (E : Int)) := Lib.hid (by rw [IntKind.wrap_i64]; omega)
              obtain ⟨p1, p2, p3⟩ := Hpp.out
              obtain ⟨TA, hTA⟩ : ∃ t, AA.take O = t := ⟨_, rfl⟩
              obtain ⟨TD, hTD⟩ : ∃ t, AA.drop E = t := ⟨_, rfl⟩
              rw [hTA] at p1
              rw [hTD] at p2
              have HTA := Lib.hid hTA
              have HTD := Lib.hid hTD
              have P1 := Lib.hid p1
              have P2 := Lib.hid p2
              have P3 := Lib.hid p3
              have RJ : Hid (Byt w12 A12 512 c12 BA) := Lib.hid J12.out.rd
              have RI : Hid (Byt w12 A2 512 c2 AA) := Lib.hid II.out.rd
              have hc12 := RJ.out.le
              have hc2 := RI.out.le
              have hE5 : E ≤ 512 := by omega
              have hOE : O ≤ E := by omega
              have HbW := Lib.hid (Hb.out.below BB.out (Nat.le_refl _))
              clear hTA hTD p1 p2 p3 Hpp s1 s2
              refine wp_region_phi (by kernel_rfl) 42 none (fun _ => false) (fun i_ v wz => match i_ with
                | 0 => v = .slice A12 512 c12
                | 1 => v = .int .i64 (O : Int)
                | 2 => v = .slice A12 O c12
                | 3 => v = .string ⟨TA.toArray⟩
                | 4 => v = .slice A2 512 c2
                | 5 => v = .int .i64 (O : Int)
                | 6 => v = .slice A2 O c2
                | 7 => v = .string ⟨TA.toArray⟩
                | 8 => v = .bool true
                | 9 => v = .bool true
                | 10 => v = .slice A12 512 c12
                | 11 => v = .int .i64 (O : Int)
                | 12 => v = .slice A n c
                | 13 => v = .int .i64 (n : Int)
                | 14 => v = .int .i64 (E : Int)
                | 15 => ∃ A2 n2 c2, v = .slice A2 n2 c2 ∧ Byt wz A2 n2 c2 TD
                | 16 => v = .string ⟨TD.toArray⟩
                | 17 => v = .slice A2 512 c2
                | 18 => v = .int .i64 (O : Int)
                | 19 => v = .slice A n c
                | 20 => v = .int .i64 (n : Int)
                | 21 => v = .int .i64 (E : Int)
                | 22 => ∃ A2 n2 c2, v = .slice A2 n2 c2 ∧ Byt wz A2 n2 c2 TD
                | 23 => v = .string ⟨TD.toArray⟩
                | 24 => v = .bool true
                | 25 => v = .bool true
                | 26 => v = .bool true
                | 27 => v = .slice A12 512 c12
                | 28 => v = .int .i64 (O : Int)
                | 29 => v = .int .i64 (O : Int)
                | 30 => v = .slice A n c
                | 31 => v = .int .i64 (n : Int)
                | 32 => v = .int .i64 (E : Int)
                | 33 => ∃ A2 n2 c2, v = .slice A2 n2 c2 ∧ Byt wz A2 n2 c2 b
                | 34 => v = .string ⟨b.toArray⟩
                | 35 => v = .slice A n c
                | 36 => v = .string ⟨b.toArray⟩
                | 37 => v = .bool true
                | 38 => v = .bool true
                | 39 => v = .bool true
                | 40 => v = .bool true
                | 41 => v = .bool true
                | _ => True) (by kernel_rfl) ?_ ?_ ?_
              · (repeat' (first | exact allLt_zero | refine allLt_succ ?_ ?_))
                · exact fun _ _ _ h _ => h
                · exact fun _ _ _ h _ => h
                · exact fun _ _ _ h _ => h
                · exact fun _ _ _ h _ => h
                · exact fun _ _ _ h _ => h
                · exact fun _ _ _ h _ => h
                · exact fun _ _ _ h _ => h
                · exact fun _ _ _ h _ => h
                · exact fun _ _ _ h _ => h
                · exact fun _ _ _ h _ => h
                · exact fun _ _ _ h _ => h
                · exact fun _ _ _ h _ => h
                · exact fun _ _ _ h _ => h
                · exact fun _ _ _ h _ => h
                · exact fun _ _ _ h _ => h
                · intro v w1 w2 h hg
                  rw [show kindRow _ _ = none from by kernel_rfl] at hg
                  obtain ⟨A2, n2, c2, rfl, hr⟩ := h
                  exact ⟨A2, n2, c2, rfl, hr.bel (bel_grown hg)⟩
                · exact fun _ _ _ h _ => h
                · exact fun _ _ _ h _ => h
                · exact fun _ _ _ h _ => h
                · exact fun _ _ _ h _ => h
                · exact fun _ _ _ h _ => h
                · exact fun _ _ _ h _ => h
                · intro v w1 w2 h hg
                  rw [show kindRow _ _ = none from by kernel_rfl] at hg
                  obtain ⟨A2, n2, c2, rfl, hr⟩ := h
                  exact ⟨A2, n2, c2, rfl, hr.bel (bel_grown hg)⟩
                · exact fun _ _ _ h _ => h
                · exact fun _ _ _ h _ => h
                · exact fun _ _ _ h _ => h
                · exact fun _ _ _ h _ => h
                · exact fun _ _ _ h _ => h
                · exact fun _ _ _ h _ => h
                · exact fun _ _ _ h _ => h
                · exact fun _ _ _ h _ => h
                · exact fun _ _ _ h _ => h
                · exact fun _ _ _ h _ => h
                · intro v w1 w2 h hg
                  rw [show kindRow _ _ = none from by kernel_rfl] at hg
                  obtain ⟨A2, n2, c2, rfl, hr⟩ := h
                  exact ⟨A2, n2, c2, rfl, hr.bel (bel_grown hg)⟩
                · exact fun _ _ _ h _ => h
                · exact fun _ _ _ h _ => h
                · exact fun _ _ _ h _ => h
                · exact fun _ _ _ h _ => h
                · exact fun _ _ _ h _ => h
                · exact fun _ _ _ h _ => h
                · exact fun _ _ _ h _ => h
                · exact fun _ _ _ h _ => h
              · (repeat' (first | exact allLt_zero | refine allLt_succ ?_ ?_))
                · intro a w' hf he
                  have k21 : a.tmps.getD 21 undef = .slice A12 512 c12 := hf.var (by kernel_rfl) rfl
                  refine wpOp_step rfl (fun K hK => ?_)
                  go_simp
                  exact hK _ _ ⟨_, rfl, rfl, World.grownBy.refl _ _⟩
                · intro a w' hf he
                  have k0 : a.tmps.getD 0 undef = .int .i64 (O : Int) := hf.var (by kernel_rfl) rfl
                  refine wpOp_step rfl (fun K hK => ?_)
                  go_simp
                  exact hK _ _ ⟨_, rfl, rfl, World.grownBy.refl _ _⟩
                · intro a w' hf he
                  have f0 : a.tmps.getD 158 undef = .slice A12 512 c12 := he 0 (by kernel_rfl)
                  have f1 : a.tmps.getD 159 undef = .int .i64 (O : Int) := he 1 (by kernel_rfl)
                  rw [show kindRow _ _ = none from by kernel_rfl] at hf
                  refine wpOp_step rfl (fun K hK => ?_)
                  go_simp
                  rw [if_pos (by omega)]
                  exact hK _ _ ⟨_, rfl, rfl, World.grownBy.refl _ _⟩
                · intro a w' hf he
                  have f2 : a.tmps.getD 160 undef = .slice A12 O c12 := he 2 (by kernel_rfl)
                  rw [show kindRow _ _ = none from by kernel_rfl] at hf
                  have hcv := run_str (P := Try.prog) w' 23 9 5 A12 O c12 TA Try.underlying23 Try.underlying5 Try.underlying9 (P1.out ▸ (RJ.out.bel hf.bel).uptoB (k := O) (by omega))
                  refine wpOp_step rfl (fun K hK => ?_)
                  go_simp
                  exact hK _ _ ⟨_, rfl, rfl, World.grownBy.refl _ _⟩
                · intro a w' hf he
                  have k10 : a.tmps.getD 10 undef = .slice A2 512 c2 := hf.var (by kernel_rfl) rfl
                  refine wpOp_step rfl (fun K hK => ?_)
                  go_simp
                  exact hK _ _ ⟨_, rfl, rfl, World.grownBy.refl _ _⟩
                · intro a w' hf he
                  have k0 : a.tmps.getD 0 undef = .int .i64 (O : Int) := hf.var (by kernel_rfl) rfl
                  refine wpOp_step rfl (fun K hK => ?_)
                  go_simp
                  exact hK _ _ ⟨_, rfl, rfl, World.grownBy.refl _ _⟩
                · intro a w' hf he
                  have f4 : a.tmps.getD 162 undef = .slice A2 512 c2 := he 4 (by kernel_rfl)
                  have f5 : a.tmps.getD 163 undef = .int .i64 (O : Int) := he 5 (by kernel_rfl)
                  rw [show kindRow _ _ = none from by kernel_rfl] at hf
                  refine wpOp_step rfl (fun K hK => ?_)
                  go_simp
                  rw [if_pos (by omega)]
                  exact hK _ _ ⟨_, rfl, rfl, World.grownBy.refl _ _⟩
                · intro a w' hf he
                  have f6 : a.tmps.getD 164 undef = .slice A2 O c2 := he 6 (by kernel_rfl)
                  rw [show kindRow _ _ = none from by kernel_rfl] at hf
                  have hcv := run_str (P := Try.prog) w' 23 9 5 A2 O c2 TA Try.underlying23 Try.underlying5 Try.underlying9 (HTA.out ▸ (RI.out.bel hf.bel).uptoB (k := O) (by omega))
                  refine wpOp_step rfl (fun K hK => ?_)
                  go_simp
                  exact hK _ _ ⟨_, rfl, rfl, World.grownBy.refl _ _⟩
                · intro a w' hf he
                  have f3 : a.tmps.getD 161 undef = .string ⟨TA.toArray⟩ := he 3 (by kernel_rfl)
                  have f7 : a.tmps.getD 165 undef = .string ⟨TA.toArray⟩ := he 7 (by kernel_rfl)
                  rw [show kindRow _ _ = none from by kernel_rfl] at hf
                  refine wpOp_step rfl (fun K hK => ?_)
                  go_simp
                  exact hK _ _ ⟨_, rfl, by simp, World.grownBy.refl _ _⟩
                · intro a w' hf he
                  have f8 : a.tmps.getD 166 undef = .bool true := he 8 (by kernel_rfl)
                  refine wpOp_step rfl (fun K hK => ?_)
                  go_simp
                  exact hK _ _ ⟨_, rfl, rfl, World.grownBy.refl _ _⟩
                · intro a w' hf he
                  have k21 : a.tmps.getD 21 undef = .slice A12 512 c12 := hf.var (by kernel_rfl) rfl
                  have f9 : a.tmps.getD 167 undef = .bool true := he 9 (by kernel_rfl)
                  refine wpOp_run rfl rfl rfl f9 (fun K hK => ?_)
                  go_simp
                  exact hK _ _ ⟨_, rfl, rfl, World.grownBy.refl _ _⟩
                · intro a w' hf he
                  have k0 : a.tmps.getD 0 undef = .int .i64 (O : Int) := hf.var (by kernel_rfl) rfl
                  have f9 : a.tmps.getD 167 undef = .bool true := he 9 (by kernel_rfl)
                  refine wpOp_run rfl rfl rfl f9 (fun K hK => ?_)
                  go_simp
                  exact hK _ _ ⟨_, rfl, rfl, World.grownBy.refl _ _⟩
                · intro a w' hf he
                  have k1 : a.tmps.getD 1 undef = .slice A n c := hf.var (by kernel_rfl) rfl
                  have f9 : a.tmps.getD 167 undef = .bool true := he 9 (by kernel_rfl)
                  refine wpOp_run rfl rfl rfl f9 (fun K hK => ?_)
                  go_simp
                  exact hK _ _ ⟨_, rfl, rfl, World.grownBy.refl _ _⟩
                · intro a w' hf he
                  have f12 : a.tmps.getD 170 undef = .slice A n c := he 12 (by kernel_rfl)
                  have f9 : a.tmps.getD 167 undef = .bool true := he 9 (by kernel_rfl)
                  rw [show kindRow _ _ = none from by kernel_rfl] at hf
                  refine wpOp_run rfl rfl rfl f9 (fun K hK => ?_)
                  go_simp
                  exact hK _ _ ⟨_, rfl, rfl, World.grownBy.refl _ _⟩
                · intro a w' hf he
                  have f11 : a.tmps.getD 169 undef = .int .i64 (O : Int) := he 11 (by kernel_rfl)
                  have f13 : a.tmps.getD 171 undef = .int .i64 (n : Int) := he 13 (by kernel_rfl)
                  have f9 : a.tmps.getD 167 undef = .bool true := he 9 (by kernel_rfl)
                  rw [show kindRow _ _ = none from by kernel_rfl] at hf
                  refine wpOp_run rfl rfl rfl f9 (fun K hK => ?_)
                  go_simp
                  (try rw [hEi.out])
                  (try rw [hEw.out])
                  exact hK _ _ ⟨_, rfl, rfl, World.grownBy.refl _ _⟩
                · intro a w' hf he
                  have f10 : a.tmps.getD 168 undef = .slice A12 512 c12 := he 10 (by kernel_rfl)
                  have f14 : a.tmps.getD 172 undef = .int .i64 (E : Int) := he 14 (by kernel_rfl)
                  have f9 : a.tmps.getD 167 undef = .bool true := he 9 (by kernel_rfl)
                  rw [show kindRow _ _ = none from by kernel_rfl] at hf
                  have h9 := P2.out ▸ (RJ.out.bel hf.bel).cutB (k := E) (by omega)
                  refine wpOp_run rfl rfl rfl f9 (fun K hK => ?_)
                  go_simp
                  rw [if_pos (by omega)]
                  exact hK _ _ ⟨_, rfl, ⟨_, _, _, rfl, h9⟩, World.grownBy.refl _ _⟩
                · intro a w' hf he
                  obtain ⟨A15, n15, c15, hv15, hr15⟩ := he 15 (by kernel_rfl)
                  have f15 : a.tmps.getD 173 undef = _ := hv15
                  have f9 : a.tmps.getD 167 undef = .bool true := he 9 (by kernel_rfl)
                  rw [show kindRow _ _ = none from by kernel_rfl] at hf
                  have hcv := run_str (P := Try.prog) w' 23 9 5 A15 n15 c15 TD Try.underlying23 Try.underlying5 Try.underlying9 hr15
                  refine wpOp_run rfl rfl rfl f9 (fun K hK => ?_)
                  go_simp
                  exact hK _ _ ⟨_, rfl, rfl, World.grownBy.refl _ _⟩
                · intro a w' hf he
                  have k10 : a.tmps.getD 10 undef = .slice A2 512 c2 := hf.var (by kernel_rfl) rfl
                  have f9 : a.tmps.getD 167 undef = .bool true := he 9 (by kernel_rfl)
                  refine wpOp_run rfl rfl rfl f9 (fun K hK => ?_)
                  go_simp
                  exact hK _ _ ⟨_, rfl, rfl, World.grownBy.refl _ _⟩
                · intro a w' hf he
                  have k0 : a.tmps.getD 0 undef = .int .i64 (O : Int) := hf.var (by kernel_rfl) rfl
                  have f9 : a.tmps.getD 167 undef = .bool true := he 9 (by kernel_rfl)
                  refine wpOp_run rfl rfl rfl f9 (fun K hK => ?_)
                  go_simp
                  exact hK _ _ ⟨_, rfl, rfl, World.grownBy.refl _ _⟩
                · intro a w' hf he
                  have k1 : a.tmps.getD 1 undef = .slice A n c := hf.var (by kernel_rfl) rfl
                  have f9 : a.tmps.getD 167 undef = .bool true := he 9 (by kernel_rfl)
                  refine wpOp_run rfl rfl rfl f9 (fun K hK => ?_)
                  go_simp
                  exact hK _ _ ⟨_, rfl, rfl, World.grownBy.refl _ _⟩
                · intro a w' hf he
                  have f19 : a.tmps.getD 177 undef = .slice A n c := he 19 (by kernel_rfl)
                  have f9 : a.tmps.getD 167 undef = .bool true := he 9 (by kernel_rfl)
                  rw [show kindRow _ _ = none from by kernel_rfl] at hf
                  refine wpOp_run rfl rfl rfl f9 (fun K hK => ?_)
                  go_simp
                  exact hK _ _ ⟨_, rfl, rfl, World.grownBy.refl _ _⟩
                · intro a w' hf he
                  have f18 : a.tmps.getD 176 undef = .int .i64 (O : Int) := he 18 (by kernel_rfl)
                  have f20 : a.tmps.getD 178 undef = .int .i64 (n : Int) := he 20 (by kernel_rfl)
                  have f9 : a.tmps.getD 167 undef = .bool true := he 9 (by kernel_rfl)
                  rw [show kindRow _ _ = none from by kernel_rfl] at hf
                  refine wpOp_run rfl rfl rfl f9 (fun K hK => ?_)
                  go_simp
                  (try rw [hEi.out])
                  (try rw [hEw.out])
                  exact hK _ _ ⟨_, rfl, rfl, World.grownBy.refl _ _⟩
                · intro a w' hf he
                  have f17 : a.tmps.getD 175 undef = .slice A2 512 c2 := he 17 (by kernel_rfl)
                  have f21 : a.tmps.getD 179 undef = .int .i64 (E : Int) := he 21 (by kernel_rfl)
                  have f9 : a.tmps.getD 167 undef = .bool true := he 9 (by kernel_rfl)
                  rw [show kindRow _ _ = none from by kernel_rfl] at hf
                  have h9 := HTD.out ▸ (RI.out.bel hf.bel).cutB (k := E) (by omega)
                  refine wpOp_run rfl rfl rfl f9 (fun K hK => ?_)
                  go_simp
                  rw [if_pos (by omega)]
                  exact hK _ _ ⟨_, rfl, ⟨_, _, _, rfl, h9⟩, World.grownBy.refl _ _⟩
                · intro a w' hf he
                  obtain ⟨A22, n22, c22, hv22, hr22⟩ := he 22 (by kernel_rfl)
                  have f22 : a.tmps.getD 180 undef = _ := hv22
                  have f9 : a.tmps.getD 167 undef = .bool true := he 9 (by kernel_rfl)
                  rw [show kindRow _ _ = none from by kernel_rfl] at hf
                  have hcv := run_str (P := Try.prog) w' 23 9 5 A22 n22 c22 TD Try.underlying23 Try.underlying5 Try.underlying9 hr22
                  refine wpOp_run rfl rfl rfl f9 (fun K hK => ?_)
                  go_simp
                  exact hK _ _ ⟨_, rfl, rfl, World.grownBy.refl _ _⟩
                · intro a w' hf he
                  have f16 : a.tmps.getD 174 undef = .string ⟨TD.toArray⟩ := he 16 (by kernel_rfl)
                  have f23 : a.tmps.getD 181 undef = .string ⟨TD.toArray⟩ := he 23 (by kernel_rfl)
                  have f9 : a.tmps.getD 167 undef = .bool true := he 9 (by kernel_rfl)
                  rw [show kindRow _ _ = none from by kernel_rfl] at hf
                  refine wpOp_run rfl rfl rfl f9 (fun K hK => ?_)
                  go_simp
                  exact hK _ _ ⟨_, rfl, by simp, World.grownBy.refl _ _⟩
                · intro a w' hf he
                  have f9 : a.tmps.getD 167 undef = .bool true := he 9 (by kernel_rfl)
                  have f24 : a.tmps.getD 182 undef = .bool true := he 24 (by kernel_rfl)
                  refine wpOp_step rfl (fun K hK => ?_)
                  go_simp
                  exact hK _ _ ⟨_, rfl, rfl, World.grownBy.refl _ _⟩
                · intro a w' hf he
                  have f25 : a.tmps.getD 183 undef = .bool true := he 25 (by kernel_rfl)
                  refine wpOp_step rfl (fun K hK => ?_)
                  go_simp
                  exact hK _ _ ⟨_, rfl, rfl, World.grownBy.refl _ _⟩
                · intro a w' hf he
                  have k21 : a.tmps.getD 21 undef = .slice A12 512 c12 := hf.var (by kernel_rfl) rfl
                  have f26 : a.tmps.getD 184 undef = .bool true := he 26 (by kernel_rfl)
                  refine wpOp_run rfl rfl rfl f26 (fun K hK => ?_)
                  go_simp
                  exact hK _ _ ⟨_, rfl, rfl, World.grownBy.refl _ _⟩
                · intro a w' hf he
                  have k0 : a.tmps.getD 0 undef = .int .i64 (O : Int) := hf.var (by kernel_rfl) rfl
                  have f26 : a.tmps.getD 184 undef = .bool true := he 26 (by kernel_rfl)
                  refine wpOp_run rfl rfl rfl f26 (fun K hK => ?_)
                  go_simp
                  exact hK _ _ ⟨_, rfl, rfl, World.grownBy.refl _ _⟩
                · intro a w' hf he
                  have k0 : a.tmps.getD 0 undef = .int .i64 (O : Int) := hf.var (by kernel_rfl) rfl
                  have f26 : a.tmps.getD 184 undef = .bool true := he 26 (by kernel_rfl)
                  refine wpOp_run rfl rfl rfl f26 (fun K hK => ?_)
                  go_simp
                  exact hK _ _ ⟨_, rfl, rfl, World.grownBy.refl _ _⟩
                · intro a w' hf he
                  have k1 : a.tmps.getD 1 undef = .slice A n c := hf.var (by kernel_rfl) rfl
                  have f26 : a.tmps.getD 184 undef = .bool true := he 26 (by kernel_rfl)
                  refine wpOp_run rfl rfl rfl f26 (fun K hK => ?_)
                  go_simp
                  exact hK _ _ ⟨_, rfl, rfl, World.grownBy.refl _ _⟩
                · intro a w' hf he
                  have f30 : a.tmps.getD 188 undef = .slice A n c := he 30 (by kernel_rfl)
                  have f26 : a.tmps.getD 184 undef = .bool true := he 26 (by kernel_rfl)
                  rw [show kindRow _ _ = none from by kernel_rfl] at hf
                  refine wpOp_run rfl rfl rfl f26 (fun K hK => ?_)
                  go_simp
                  exact hK _ _ ⟨_, rfl, rfl, World.grownBy.refl _ _⟩
                · intro a w' hf he
                  have f29 : a.tmps.getD 187 undef = .int .i64 (O : Int) := he 29 (by kernel_rfl)
                  have f31 : a.tmps.getD 189 undef = .int .i64 (n : Int) := he 31 (by kernel_rfl)
                  have f26 : a.tmps.getD 184 undef = .bool true := he 26 (by kernel_rfl)
                  rw [show kindRow _ _ = none from by kernel_rfl] at hf
                  refine wpOp_run rfl rfl rfl f26 (fun K hK => ?_)
                  go_simp
                  (try rw [hEi.out])
                  (try rw [hEw.out])
                  exact hK _ _ ⟨_, rfl, rfl, World.grownBy.refl _ _⟩
                · intro a w' hf he
                  have f27 : a.tmps.getD 185 undef = .slice A12 512 c12 := he 27 (by kernel_rfl)
                  have f28 : a.tmps.getD 186 undef = .int .i64 (O : Int) := he 28 (by kernel_rfl)
                  have f32 : a.tmps.getD 190 undef = .int .i64 (E : Int) := he 32 (by kernel_rfl)
                  have f26 : a.tmps.getD 184 undef = .bool true := he 26 (by kernel_rfl)
                  rw [show kindRow _ _ = none from by kernel_rfl] at hf
                  have h9 := P3.out ▸ ((RJ.out.bel hf.bel).uptoB (k := E) (by omega)).cutB (k := O) (by omega)
                  refine wpOp_run rfl rfl rfl f26 (fun K hK => ?_)
                  go_simp
                  rw [if_pos (by omega)]
                  exact hK _ _ ⟨_, rfl, ⟨_, _, _, rfl, h9⟩, World.grownBy.refl _ _⟩
                · intro a w' hf he
                  obtain ⟨A33, n33, c33, hv33, hr33⟩ := he 33 (by kernel_rfl)
                  have f33 : a.tmps.getD 191 undef = _ := hv33
                  have f26 : a.tmps.getD 184 undef = .bool true := he 26 (by kernel_rfl)
                  rw [show kindRow _ _ = none from by kernel_rfl] at hf
                  have hcv := run_str (P := Try.prog) w' 23 9 5 A33 n33 c33 b Try.underlying23 Try.underlying5 Try.underlying9 hr33
                  refine wpOp_run rfl rfl rfl f26 (fun K hK => ?_)
                  go_simp
                  exact hK _ _ ⟨_, rfl, rfl, World.grownBy.refl _ _⟩
                · intro a w' hf he
                  have k1 : a.tmps.getD 1 undef = .slice A n c := hf.var (by kernel_rfl) rfl
                  have f26 : a.tmps.getD 184 undef = .bool true := he 26 (by kernel_rfl)
                  refine wpOp_run rfl rfl rfl f26 (fun K hK => ?_)
                  go_simp
                  exact hK _ _ ⟨_, rfl, rfl, World.grownBy.refl _ _⟩
                · intro a w' hf he
                  have f35 : a.tmps.getD 193 undef = .slice A n c := he 35 (by kernel_rfl)
                  have f26 : a.tmps.getD 184 undef = .bool true := he 26 (by kernel_rfl)
                  rw [show kindRow _ _ = none from by kernel_rfl] at hf
                  have hcv := run_str (P := Try.prog) w' 23 9 5 A n c b Try.underlying23 Try.underlying5 Try.underlying9 (HbW.out.bel hf.bel)
                  refine wpOp_run rfl rfl rfl f26 (fun K hK => ?_)
                  go_simp
                  exact hK _ _ ⟨_, rfl, rfl, World.grownBy.refl _ _⟩
                · intro a w' hf he
                  have f34 : a.tmps.getD 192 undef = .string ⟨b.toArray⟩ := he 34 (by kernel_rfl)
                  have f36 : a.tmps.getD 194 undef = .string ⟨b.toArray⟩ := he 36 (by kernel_rfl)
                  have f26 : a.tmps.getD 184 undef = .bool true := he 26 (by kernel_rfl)
                  rw [show kindRow _ _ = none from by kernel_rfl] at hf
                  refine wpOp_run rfl rfl rfl f26 (fun K hK => ?_)
                  go_simp
                  exact hK _ _ ⟨_, rfl, by simp, World.grownBy.refl _ _⟩
                · intro a w' hf he
                  have f26 : a.tmps.getD 184 undef = .bool true := he 26 (by kernel_rfl)
                  have f37 : a.tmps.getD 195 undef = .bool true := he 37 (by kernel_rfl)
                  refine wpOp_step rfl (fun K hK => ?_)
                  go_simp
                  exact hK _ _ ⟨_, rfl, rfl, World.grownBy.refl _ _⟩
                · intro a w' hf he
                  have f38 : a.tmps.getD 196 undef = .bool true := he 38 (by kernel_rfl)
                  refine wpOp_step rfl (fun K hK => ?_)
                  go_simp
                  exact hK _ _ ⟨_, rfl, rfl, World.grownBy.refl _ _⟩
                · intro a w' hf he
                  have f39 : a.tmps.getD 197 undef = .bool true := he 39 (by kernel_rfl)
                  rw [show kindRow _ _ = none from by kernel_rfl] at hf
                  refine wpOp_run rfl rfl rfl f39 (fun K hK => ?_)
                  go_simp
                  refine (c_lives _).mono ?_
                  rintro e w2 ⟨rfl, hb2⟩
                  exact hK _ _ ⟨_, rfl, rfl, grown_bel hb2⟩
                · intro a w' hf he
                  have f39 : a.tmps.getD 197 undef = .bool true := he 39 (by kernel_rfl)
                  have f40 : a.tmps.getD 198 undef = .bool true := he 40 (by kernel_rfl)
                  refine wpOp_step rfl (fun K hK => ?_)
                  go_simp
                  exact hK _ _ ⟨_, rfl, rfl, World.grownBy.refl _ _⟩
              · intro a w' hf he
                obtain ⟨u158, f0⟩ : ∃ u, a.tmps.getD 158 undef = u := ⟨_, rfl⟩
                obtain ⟨u159, f1⟩ : ∃ u, a.tmps.getD 159 undef = u := ⟨_, rfl⟩
                obtain ⟨u160, f2⟩ : ∃ u, a.tmps.getD 160 undef = u := ⟨_, rfl⟩
                obtain ⟨u161, f3⟩ : ∃ u, a.tmps.getD 161 undef = u := ⟨_, rfl⟩
                obtain ⟨u162, f4⟩ : ∃ u, a.tmps.getD 162 undef = u := ⟨_, rfl⟩
                obtain ⟨u163, f5⟩ : ∃ u, a.tmps.getD 163 undef = u := ⟨_, rfl⟩
                obtain ⟨u164, f6⟩ : ∃ u, a.tmps.getD 164 undef = u := ⟨_, rfl⟩
                obtain ⟨u165, f7⟩ : ∃ u, a.tmps.getD 165 undef = u := ⟨_, rfl⟩
                obtain ⟨u166, f8⟩ : ∃ u, a.tmps.getD 166 undef = u := ⟨_, rfl⟩
                obtain ⟨u167, f9⟩ : ∃ u, a.tmps.getD 167 undef = u := ⟨_, rfl⟩
                obtain ⟨u168, f10⟩ : ∃ u, a.tmps.getD 168 undef = u := ⟨_, rfl⟩
                obtain ⟨u169, f11⟩ : ∃ u, a.tmps.getD 169 undef = u := ⟨_, rfl⟩
                obtain ⟨u170, f12⟩ : ∃ u, a.tmps.getD 170 undef = u := ⟨_, rfl⟩
                obtain ⟨u171, f13⟩ : ∃ u, a.tmps.getD 171 undef = u := ⟨_, rfl⟩
                obtain ⟨u172, f14⟩ : ∃ u, a.tmps.getD 172 undef = u := ⟨_, rfl⟩
                obtain ⟨u173, f15⟩ : ∃ u, a.tmps.getD 173 undef = u := ⟨_, rfl⟩
                obtain ⟨u174, f16⟩ : ∃ u, a.tmps.getD 174 undef = u := ⟨_, rfl⟩
                obtain ⟨u175, f17⟩ : ∃ u, a.tmps.getD 175 undef = u := ⟨_, rfl⟩
                obtain ⟨u176, f18⟩ : ∃ u, a.tmps.getD 176 undef = u := ⟨_, rfl⟩
                obtain ⟨u177, f19⟩ : ∃ u, a.tmps.getD 177 undef = u := ⟨_, rfl⟩
                obtain ⟨u178, f20⟩ : ∃ u, a.tmps.getD 178 undef = u := ⟨_, rfl⟩
                obtain ⟨u179, f21⟩ : ∃ u, a.tmps.getD 179 undef = u := ⟨_, rfl⟩
                obtain ⟨u180, f22⟩ : ∃ u, a.tmps.getD 180 undef = u := ⟨_, rfl⟩
                obtain ⟨u181, f23⟩ : ∃ u, a.tmps.getD 181 undef = u := ⟨_, rfl⟩
                obtain ⟨u182, f24⟩ : ∃ u, a.tmps.getD 182 undef = u := ⟨_, rfl⟩
                obtain ⟨u183, f25⟩ : ∃ u, a.tmps.getD 183 undef = u := ⟨_, rfl⟩
                obtain ⟨u184, f26⟩ : ∃ u, a.tmps.getD 184 undef = u := ⟨_, rfl⟩
                obtain ⟨u185, f27⟩ : ∃ u, a.tmps.getD 185 undef = u := ⟨_, rfl⟩
                obtain ⟨u186, f28⟩ : ∃ u, a.tmps.getD 186 undef = u := ⟨_, rfl⟩
                obtain ⟨u187, f29⟩ : ∃ u, a.tmps.getD 187 undef = u := ⟨_, rfl⟩
                obtain ⟨u188, f30⟩ : ∃ u, a.tmps.getD 188 undef = u := ⟨_, rfl⟩
                obtain ⟨u189, f31⟩ : ∃ u, a.tmps.getD 189 undef = u := ⟨_, rfl⟩
                obtain ⟨u190, f32⟩ : ∃ u, a.tmps.getD 190 undef = u := ⟨_, rfl⟩
                obtain ⟨u191, f33⟩ : ∃ u, a.tmps.getD 191 undef = u := ⟨_, rfl⟩
                obtain ⟨u192, f34⟩ : ∃ u, a.tmps.getD 192 undef = u := ⟨_, rfl⟩
                obtain ⟨u193, f35⟩ : ∃ u, a.tmps.getD 193 undef = u := ⟨_, rfl⟩
                obtain ⟨u194, f36⟩ : ∃ u, a.tmps.getD 194 undef = u := ⟨_, rfl⟩
                obtain ⟨u195, f37⟩ : ∃ u, a.tmps.getD 195 undef = u := ⟨_, rfl⟩
                obtain ⟨u196, f38⟩ : ∃ u, a.tmps.getD 196 undef = u := ⟨_, rfl⟩
                obtain ⟨u197, f39⟩ : ∃ u, a.tmps.getD 197 undef = u := ⟨_, rfl⟩
                obtain ⟨u198, f40⟩ : ∃ u, a.tmps.getD 198 undef = u := ⟨_, rfl⟩
                have f41 : a.tmps.getD 199 undef = .bool true := he 41 (by decide)
                have hlit := hf.lit ((158, u158) :: (159, u159) :: (160, u160) :: (161, u161) :: (162, u162) :: (163, u163) :: (164, u164) :: (165, u165) :: (166, u166) :: (167, u167) :: (168, u168) :: (169, u169) :: (170, u170) :: (171, u171) :: (172, u172) :: (173, u173) :: (174, u174) :: (175, u175) :: (176, u176) :: (177, u177) :: (178, u178) :: (179, u179) :: (180, u180) :: (181, u181) :: (182, u182) :: (183, u183) :: (184, u184) :: (185, u185) :: (186, u186) :: (187, u187) :: (188, u188) :: (189, u189) :: (190, u190) :: (191, u191) :: (192, u192) :: (193, u193) :: (194, u194) :: (195, u195) :: (196, u196) :: (197, u197) :: (198, u198) :: (199, .bool true) :: []) (by kernel_rfl) ⟨f0, f1, f2, f3, f4, f5, f6, f7, f8, f9, f10, f11, f12, f13, f14, f15, f16, f17, f18, f19, f20, f21, f22, f23, f24, f25, f26, f27, f28, f29, f30, f31, f32, f33, f34, f35, f36, f37, f38, f39, f40, f41, trivial⟩
                have hB := hf.bel
                clear he hf f0 f1 f2 f3 f4 f5 f6 f7 f8 f9 f10 f11 f12 f13 f14 f15 f16 f17 f18 f19 f20 f21 f22 f23 f24 f25 f26 f27 f28 f29 f30 f31 f32 f33 f34 f35 f36 f37 f38 f39 f40 f41 
                subst hlit
                simp only [putAll_nil, putAll_cons, Act.put, List.setIfInBounds_toArray, List.set_cons_zero, List.set_cons_succ]
                simp only [List.drop_succ_cons, List.drop_zero]
                go_wp2_with fail
                go_ret
                exact ⟨rfl, BB.out.trans (hB.mono BB.out.size)⟩
end Go.Proofs.Ytdpggcpbgfancaa.Vol
