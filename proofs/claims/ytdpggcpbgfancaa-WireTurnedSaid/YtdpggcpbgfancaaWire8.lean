/- Contracts of the package wire's reference: Parse. Conditions: none. -/
import Derived.Test.YtdpggcpbgfancaaWire7
import Derived.Test.YtdpggcpbgfancaaSeal7
namespace Go.Proofs.Ytdpggcpbgfancaa.Wire
open Go.RowKit Tw
set_option maxHeartbeats 8000000
set_option maxRecDepth 100000
theorem c_rGet16 (A : Option Addr) (n c : Nat) (b : List UInt8) (w : World) (hb : Byt w A n c b) :
    Calls Try.prog 82 #[.slice A n c] w fun e w' => e = .returned (.tuple #[.int .i64 (Num.gv 2 b : Nat), .bool (Num.gok 2 b)]) ∧ w = w' := by
  have hv := Num.gv_lt 2 b
  have hw : Hid (IntKind.i64.wrap (Num.gv 2 b : Int) = (Num.gv 2 b : Int)) := Lib.hid (by have h2 : Num.gv 2 b < 65536 := hv; rw [IntKind.wrap_i64]; omega)
  go_enter Try.func82, Try.ntmps82
  go_wp2_with (first
    | (go_at_call 98
       (with_reducible refine (Num.c_rGetAll _ n _ b 2 2 _ rfl (by omega) hb).mono ?_)
       rintro e w' ⟨rfl, rfl⟩))
  go_ret2
  exact ⟨rfl, rfl⟩
theorem c_rParse (A : Option Addr) (n c : Nat) (b : List UInt8) (w : World) (hb : Byt w A n c b) (hn : n ≤ 1000) :
    Calls Try.prog 26 #[.slice A n c] w fun e w' => ∃ A2 n2 c2, e = .returned (.tuple #[pkV (parse b).1 A2 n2 c2, .int .i64 ((parse b).2 : Nat)]) ∧ Byt w' A2 n2 c2 (parse b).1.body ∧ Below w.heap.size w w' := by
  have hlen := hb.blen
  have HB := Lib.hid ((Below.refl _ _).alloc (Nat.le_refl w.heap.size) (.cells #[.int .u32 0, .int .u32 0, .int .i64 0, .int .i64 0, .int .i64 0, .slice none 0 0] 25))
  have HX := Lib.hid (heap_alloc_new w (.cells #[.int .u32 0, .int .u32 0, .int .i64 0, .int .i64 0, .int .i64 0, .slice none 0 0] 25))
  have Hb := Lib.hid (hb.bel HB.out)
  obtain ⟨⟨P, er⟩, hp⟩ : ∃ r, parse b = r := ⟨_, rfl⟩
  rw [hp]
  unfold parse at hp
  rw [hlen] at hp
  clear hb
  by_cases h1 : n < 23
  · rw [if_pos h1] at hp
    obtain ⟨rfl, rfl⟩ := Prod.mk.inj hp
    clear hp
    go_enter Try.func26, Try.ntmps26
    go_wp2_with fail
    refine bodyPost_ret (Disk.results_cell2 rfl _ _ w.heap.size _ _ (0, 0) _ rfl HX.out Try.underlying25 rfl (by kernel_rfl) _ rfl) rfl ?_
    exact ⟨none, 0, 0, rfl, Rd.nil_, HB.out⟩
  · rw [if_neg h1] at hp
    by_cases h2 : 223 < n
    · rw [if_pos h2] at hp
      obtain ⟨rfl, rfl⟩ := Prod.mk.inj hp
      clear hp
      go_enter Try.func26, Try.ntmps26
      go_wp2_with fail
      refine bodyPost_ret (Disk.results_cell2 rfl _ _ w.heap.size _ _ (0, 0) _ rfl HX.out Try.underlying25 rfl (by kernel_rfl) _ rfl) rfl ?_
      exact ⟨none, 0, 0, rfl, Rd.nil_, HB.out⟩
    · rw [if_neg h2] at hp
      go_enter Try.func26, Try.ntmps26
      go_upto_region 1 with (fail)
      generalize w.alloc (.cells #[.int .u32 0, .int .u32 0, .int .i64 0, .int .i64 0, .int .i64 0, .slice none 0 0] 25) = W1 at *
      have h16 := fun w (h : Byt w A n c b) => c_rGet16 A n c b w h
      generalize Num.gv 2 b = G at *
      generalize Num.gok 2 b = GK at *
      by_cases h3 : G = n
      · rw [if_neg (by simpa using h3)] at hp
        subst h3
        have hsg := fun w (h : Byt w A G c b) => Seal.c_rGet A G c b w h (by omega)
        have hgl := get_len b
        rw [hlen] at hgl
        obtain ⟨⟨x, e1⟩, hge⟩ : ∃ r, Seal.get b = r := ⟨_, rfl⟩
        rw [hge] at hp hsg hgl
        simp only at hp hsg hgl
        clear hge
        by_cases h4 : e1 = 0
        · rw [if_neg (by simpa using h4)] at hp
          have hm := hgl h4
          subst h4
          have Hp := Lib.hid hp
          clear hp hgl
          go_upto_region 11 with (first
        | (go_at_call 82
           (with_reducible refine (h16 _ Hb.out).mono ?_)
           rintro e w1 ⟨rfl, rfl⟩)
        | (go_at_call 83
           (with_reducible refine (hsg _ Hb.out).mono ?_)
           rintro e w2 ⟨A2, c2, rfl, ho2, hb2⟩
           have HB2 := Lib.hid (HB.out.trans (hb2.mono HB.out.size))
           have HX2 := Lib.hid ((hb2.block _ (heap_lt HX.out)).trans HX.out)
           have O2 := Lib.hid ho2
           clear ho2 hb2 hsg)
          | fail)
          have hx0 : 0 < x.length := by omega
          obtain ⟨ad, u0, rfl, -, -⟩ := O2.out.at1 hx0
          obtain ⟨m, hmm⟩ : ∃ m, x.length = m := ⟨_, rfl⟩
          rw [hmm] at O2 hm hx0 ⊢
          have hB10 : x[10]? = some (x.getD 10 0) := by rw [List.getD_eq_getElem?_getD, List.getElem?_eq_getElem (by omega)]; rfl
          have hsub : ∀ (w' : World) (q : Nat), q + 4 ≤ m → Byt w' (some ad) m c2 x → Byt w' (some (ad.add q)) (m - q) (c2 - q) (x.drop q) := fun w' q hq h => by
            have h9 := h.cutB (k := q) (by omega)
            have hle := h.le
            rw [if_neg (by omega)] at h9
            exact h9
          have hs2 : Hid (Byt w2 (some ⟨ad.block, ad.off + 2, none⟩) (m - 2) (c2 - 2) (x.drop 2)) := Lib.hid (hsub _ 2 (by omega) O2.out)
          have hs6 : Hid (Byt w2 (some ⟨ad.block, ad.off + 6, none⟩) (m - 6) (c2 - 6) (x.drop 6)) := Lib.hid (hsub _ 6 (by omega) O2.out)
          have hs11 : Hid (Byt w2 (some ⟨ad.block, ad.off + 11, none⟩) (m - 11) (c2 - 11) (x.drop 11)) := Lib.hid (hsub _ 11 (by omega) O2.out)
          have hs15 : Hid (Byt w2 (some ⟨ad.block, ad.off + 15, none⟩) (m - 15) (c2 - 15) (x.drop 15)) := Lib.hid (hsub _ 15 (by omega) O2.out)
          have hf2 := Seal.c_rGet32 _ _ _ _ _ hs2.out (by omega)
          have hf6 := Seal.c_rGet32 _ _ _ _ _ hs6.out (by omega)
          have hf11 := Seal.c_rGet32 _ _ _ _ _ hs11.out (by omega)
          have hf15 := Seal.c_rGet32 _ _ _ _ _ hs15.out (by omega)
          have hle2 := O2.out.le
          clear hsub
          have hl11 := Num.gv_lt 4 (x.drop 11)
          have hl15 := Num.gv_lt 4 (x.drop 15)
          unfold fields at Hp
          generalize Num.gv 4 (x.drop 2) = F2 at *
          generalize Num.gv 4 (x.drop 6) = F6 at *
          generalize Num.gv 4 (x.drop 11) = F11 at *
          generalize Num.gv 4 (x.drop 15) = F15 at *
          generalize x.getD 10 0 = B10 at *
          have HB10 := Lib.hid hB10
          clear hB10
          have hl11' : F11 < 4294967296 := hl11
          have hl15' : F15 < 4294967296 := hl15
          have hu11 : Hid (IntKind.i64.wrap (F11 : Int) = (F11 : Int)) := Lib.hid (by rw [IntKind.wrap_i64]; omega)
          have hu15 : Hid (IntKind.i64.wrap (F15 : Int) = (F15 : Int)) := Lib.hid (by rw [IntKind.wrap_i64]; omega)
          have hub : Hid (IntKind.i64.wrap (B10.toNat : Int) = (B10.toNat : Int)) := Lib.hid (by have := B10.toNat_lt; rw [IntKind.wrap_i64]; omega)
          clear hl11 hl15
          go_wp2_with (first
            | (go_at_call 84
               (with_reducible refine hf2.mono ?_)
               rintro e w3 ⟨rfl, rfl⟩
               clear hf2)
            | (go_at_call 84
               (with_reducible refine hf6.mono ?_)
               rintro e w3 ⟨rfl, rfl⟩
               clear hf6)
            | (go_at_call 84
               (with_reducible refine hf11.mono ?_)
               rintro e w3 ⟨rfl, rfl⟩
               clear hf11)
            | (go_at_call 84
               (with_reducible refine hf15.mono ?_)
               rintro e w3 ⟨rfl, rfl⟩
               clear hf15))
          refine wp_region_phi (by kernel_rfl) 16 none (fun _ => false) (fun i_ v wz => match i_ with
            | 0 => v = .int .u32 (F2 : Int)
            | 1 => v = .int .u32 (F6 : Int)
            | 2 => v = .slice (some ad) m c2
            | 3 => v = .pointer (some (ad.add 10))
            | 4 => v = .int .u8 (B10.toNat : Int)
            | 5 => v = .int .i64 (B10.toNat : Int)
            | 6 => v = .int .u32 (F11 : Int)
            | 7 => v = .int .i64 (F11 : Int)
            | 8 => v = .int .u32 (F15 : Int)
            | 9 => v = .int .i64 (F15 : Int)
            | 10 => ∃ g, v = .slice (some ⟨g, 0, none⟩) 0 0 ∧ w2.heap.size ≤ g ∧ wz.heap[g]? = some (.cells #[] 5 (0, 0))
            | 11 => v = .slice (some ad) m c2
            | 12 => ∃ A3 c3, v = .slice A3 (m - 19) c3 ∧ Byt wz A3 (m - 19) c3 (x.drop 19)
            | 13 => ∃ A3 c3, v = .slice A3 (m - 19) c3 ∧ Own wz w2.heap.size 5 1 A3 (m - 19) c3 (bytesV (x.drop 19))
            | 14 => ∃ A3 c3, v = .agg #[.int .u32 (F2 : Int), .int .u32 (F6 : Int), .int .i64 (B10.toNat : Int), .int .i64 (F11 : Int), .int .i64 (F15 : Int), .slice A3 (m - 19) c3] ∧ Own wz w2.heap.size 5 1 A3 (m - 19) c3 (bytesV (x.drop 19))
            | 15 => ∃ g, v = .pointer (some ⟨g, 0, none⟩) ∧ w2.heap.size ≤ g ∧ wz.heap[g]? = some (.cells #[.int .u32 0, .int .u32 0, .int .i64 0, .int .i64 0, .int .i64 0, .slice none 0 0] 25 (0, 0))
            | _ => True) (by kernel_rfl) ?_ ?_ ?_
          · (repeat' (first | exact allLt_zero | refine allLt_succ ?_ ?_))
            · exact fun _ _ _ h _ => h
            · exact fun _ _ _ h _ => h
            · exact fun _ _ _ h _ => h
            · exact fun _ _ _ h _ => h
            · exact fun _ _ _ h _ => h
            · exact fun _ _ _ h _ => h
            · exact fun _ _ _ h _ => h
            · exact fun _ _ _ h _ => h
            · exact fun _ _ _ h _ => h
            · exact fun _ _ _ h _ => h
            · intro v w1 w2 h hg
              rw [show kindRow _ _ = none from by kernel_rfl] at hg
              obtain ⟨g, rfl, hg0, hr⟩ := h
              exact ⟨g, rfl, hg0, ((bel_grown hg).block _ (heap_lt hr)).trans hr⟩
            · exact fun _ _ _ h _ => h
            · intro v w1 w2 h hg
              rw [show kindRow _ _ = none from by kernel_rfl] at hg
              obtain ⟨A3, c3, rfl, hr⟩ := h
              exact ⟨A3, c3, rfl, hr.bel (bel_grown hg)⟩
            · intro v w1 w2 h hg
              rw [show kindRow _ _ = none from by kernel_rfl] at hg
              obtain ⟨A3, c3, rfl, hr⟩ := h
              exact ⟨A3, c3, rfl, Tw.Own.bel hr (bel_grown hg)⟩
            · intro v w1 w2 h hg
              rw [show kindRow _ _ = none from by kernel_rfl] at hg
              obtain ⟨A3, c3, rfl, hr⟩ := h
              exact ⟨A3, c3, rfl, Tw.Own.bel hr (bel_grown hg)⟩
            · intro v w1 w2 h hg
              rw [show kindRow _ _ = none from by kernel_rfl] at hg
              obtain ⟨g, rfl, hg0, hr⟩ := h
              exact ⟨g, rfl, hg0, ((bel_grown hg).block _ (heap_lt hr)).trans hr⟩
          · (repeat' (first | exact allLt_zero | refine allLt_succ ?_ ?_))
            · intro a w' hf he
              have k8 : a.tmps.getD 8 undef = .int .u32 (F2 : Int) := hf.var (by kernel_rfl) rfl
              refine wpOp_step rfl (fun K hK => ?_)
              go_simp
              exact hK _ _ ⟨_, rfl, rfl, World.grownBy.refl _ _⟩
            · intro a w' hf he
              have k10 : a.tmps.getD 10 undef = .int .u32 (F6 : Int) := hf.var (by kernel_rfl) rfl
              refine wpOp_step rfl (fun K hK => ?_)
              go_simp
              exact hK _ _ ⟨_, rfl, rfl, World.grownBy.refl _ _⟩
            · intro a w' hf he
              have k6 : a.tmps.getD 6 undef = .slice (some ad) m c2 := hf.var (by kernel_rfl) rfl
              refine wpOp_step rfl (fun K hK => ?_)
              go_simp
              exact hK _ _ ⟨_, rfl, rfl, World.grownBy.refl _ _⟩
            · intro a w' hf he
              have f2 : a.tmps.getD 70 undef = .slice (some ad) m c2 := he 2 (by kernel_rfl)
              rw [show kindRow _ _ = none from by kernel_rfl] at hf
              refine wpOp_step rfl (fun K hK => ?_)
              go_simp
              rw [if_pos (by omega)]
              exact hK _ _ ⟨_, rfl, rfl, World.grownBy.refl _ _⟩
            · intro a w' hf he
              have f3 : a.tmps.getD 71 undef = .pointer (some (ad.add 10)) := he 3 (by kernel_rfl)
              rw [show kindRow _ _ = none from by kernel_rfl] at hf
              have dd := (O2.out.bel hf.bel).cell ad rfl 10 (.int .u8 (B10.toNat : Int)) (by simp [bytesV, HB10.out])
              have dd2 : w'.cell? ⟨ad.block, ad.off + 10, none⟩ = some (.int .u8 (B10.toNat : Int)) := dd
              refine wpOp_step rfl (fun K hK => ?_)
              go_simp
              exact hK _ _ ⟨_, rfl, rfl, World.grownBy.refl _ _⟩
            · intro a w' hf he
              have f4 : a.tmps.getD 72 undef = .int .u8 (B10.toNat : Int) := he 4 (by kernel_rfl)
              rw [show kindRow _ _ = none from by kernel_rfl] at hf
              refine wpOp_step rfl (fun K hK => ?_)
              go_simp
              (try rw [hub.out])
              exact hK _ _ ⟨_, rfl, rfl, World.grownBy.refl _ _⟩
            · intro a w' hf he
              have k12 : a.tmps.getD 12 undef = .int .u32 (F11 : Int) := hf.var (by kernel_rfl) rfl
              refine wpOp_step rfl (fun K hK => ?_)
              go_simp
              exact hK _ _ ⟨_, rfl, rfl, World.grownBy.refl _ _⟩
            · intro a w' hf he
              have f6 : a.tmps.getD 74 undef = .int .u32 (F11 : Int) := he 6 (by kernel_rfl)
              rw [show kindRow _ _ = none from by kernel_rfl] at hf
              refine wpOp_step rfl (fun K hK => ?_)
              go_simp
              (try rw [hu11.out])
              exact hK _ _ ⟨_, rfl, rfl, World.grownBy.refl _ _⟩
            · intro a w' hf he
              have k14 : a.tmps.getD 14 undef = .int .u32 (F15 : Int) := hf.var (by kernel_rfl) rfl
              refine wpOp_step rfl (fun K hK => ?_)
              go_simp
              exact hK _ _ ⟨_, rfl, rfl, World.grownBy.refl _ _⟩
            · intro a w' hf he
              have f8 : a.tmps.getD 76 undef = .int .u32 (F15 : Int) := he 8 (by kernel_rfl)
              rw [show kindRow _ _ = none from by kernel_rfl] at hf
              refine wpOp_step rfl (fun K hK => ?_)
              go_simp
              (try rw [hu15.out])
              exact hK _ _ ⟨_, rfl, rfl, World.grownBy.refl _ _⟩
            · intro a w' hf he
              rw [show kindRow _ _ = none from by kernel_rfl] at hf
              refine wpOp_step rfl (fun K hK => ?_)
              go_simp
              exact hK _ _ ⟨_, rfl, ⟨_, rfl, hf.bel.size, heap_alloc_new _ _⟩, World.grownBy_alloc _ _ _⟩
            · intro a w' hf he
              have k6 : a.tmps.getD 6 undef = .slice (some ad) m c2 := hf.var (by kernel_rfl) rfl
              refine wpOp_step rfl (fun K hK => ?_)
              go_simp
              exact hK _ _ ⟨_, rfl, rfl, World.grownBy.refl _ _⟩
            · intro a w' hf he
              have f11 : a.tmps.getD 79 undef = .slice (some ad) m c2 := he 11 (by kernel_rfl)
              rw [show kindRow _ _ = none from by kernel_rfl] at hf
              have h9 := (O2.out.bel hf.bel).cutB (k := 19) (by omega)
              refine wpOp_step rfl (fun K hK => ?_)
              go_simp
              rw [if_pos (by omega)]
              exact hK _ _ ⟨_, rfl, ⟨_, _, rfl, h9⟩, World.grownBy.refl _ _⟩
            · intro a w' hf he
              obtain ⟨g10, hv10, hg10, hh10⟩ := he 10 (by kernel_rfl)
              have f10 : a.tmps.getD 78 undef = _ := hv10
              obtain ⟨A12, c12, hv12, hr12⟩ := he 12 (by kernel_rfl)
              have f12 : a.tmps.getD 80 undef = _ := hv12
              rw [show kindRow _ _ = none from by kernel_rfl] at hf
              refine wpOp_step rfl (fun K hK => ?_)
              refine wp_append_lit0 w' (.tmp 78) (.tmp 80) 23 rfl _ hf.bel.size 5 _ 1 1 Try.underlying23 Num.info_u8 rfl g10 hh10 hg10 f10 A12 (m - 19) c12 _ f12 hr12 (by unfold maxLen; omega) (by omega) ?_
              intro A4 c4 w4 hown4 hg4
              exact hK _ _ ⟨_, rfl, ⟨A4, c4, rfl, hown4⟩, hg4⟩
            · intro a w' hf he
              have f0 : a.tmps.getD 68 undef = .int .u32 (F2 : Int) := he 0 (by kernel_rfl)
              have f1 : a.tmps.getD 69 undef = .int .u32 (F6 : Int) := he 1 (by kernel_rfl)
              have f5 : a.tmps.getD 73 undef = .int .i64 (B10.toNat : Int) := he 5 (by kernel_rfl)
              have f7 : a.tmps.getD 75 undef = .int .i64 (F11 : Int) := he 7 (by kernel_rfl)
              have f9 : a.tmps.getD 77 undef = .int .i64 (F15 : Int) := he 9 (by kernel_rfl)
              obtain ⟨A13, c13, hv13, hr13⟩ := he 13 (by kernel_rfl)
              have f13 : a.tmps.getD 81 undef = _ := hv13
              have e0 : a.tmps[68]?.getD undef = _ := Array.getD_eq_getD_getElem? .. ▸ f0
              have e1 : a.tmps[69]?.getD undef = _ := Array.getD_eq_getD_getElem? .. ▸ f1
              have e5 : a.tmps[73]?.getD undef = _ := Array.getD_eq_getD_getElem? .. ▸ f5
              have e7 : a.tmps[75]?.getD undef = _ := Array.getD_eq_getD_getElem? .. ▸ f7
              have e9 : a.tmps[77]?.getD undef = _ := Array.getD_eq_getD_getElem? .. ▸ f9
              have e13 : a.tmps[81]?.getD undef = _ := Array.getD_eq_getD_getElem? .. ▸ f13
              rw [show kindRow _ _ = none from by kernel_rfl] at hf
              refine wpOp_step rfl (fun K hK => ?_)
              go_simp
              exact hK _ _ ⟨_, rfl, ⟨_, _, rfl, hr13⟩, World.grownBy.refl _ _⟩
            · intro a w' hf he
              rw [show kindRow _ _ = none from by kernel_rfl] at hf
              refine wpOp_step rfl (fun K hK => ?_)
              go_simp
              exact hK _ _ ⟨_, rfl, ⟨_, rfl, hf.bel.size, heap_alloc_new w' _⟩, World.grownBy_alloc _ _ _⟩
          · intro a w' hf he
            obtain ⟨u68, f0⟩ : ∃ u, a.tmps.getD 68 undef = u := ⟨_, rfl⟩
            obtain ⟨u69, f1⟩ : ∃ u, a.tmps.getD 69 undef = u := ⟨_, rfl⟩
            obtain ⟨u70, f2⟩ : ∃ u, a.tmps.getD 70 undef = u := ⟨_, rfl⟩
            obtain ⟨u71, f3⟩ : ∃ u, a.tmps.getD 71 undef = u := ⟨_, rfl⟩
            obtain ⟨u72, f4⟩ : ∃ u, a.tmps.getD 72 undef = u := ⟨_, rfl⟩
            obtain ⟨u73, f5⟩ : ∃ u, a.tmps.getD 73 undef = u := ⟨_, rfl⟩
            obtain ⟨u74, f6⟩ : ∃ u, a.tmps.getD 74 undef = u := ⟨_, rfl⟩
            obtain ⟨u75, f7⟩ : ∃ u, a.tmps.getD 75 undef = u := ⟨_, rfl⟩
            obtain ⟨u76, f8⟩ : ∃ u, a.tmps.getD 76 undef = u := ⟨_, rfl⟩
            obtain ⟨u77, f9⟩ : ∃ u, a.tmps.getD 77 undef = u := ⟨_, rfl⟩
            obtain ⟨u78, f10⟩ : ∃ u, a.tmps.getD 78 undef = u := ⟨_, rfl⟩
            obtain ⟨u79, f11⟩ : ∃ u, a.tmps.getD 79 undef = u := ⟨_, rfl⟩
            obtain ⟨u80, f12⟩ : ∃ u, a.tmps.getD 80 undef = u := ⟨_, rfl⟩
            obtain ⟨u81, f13⟩ : ∃ u, a.tmps.getD 81 undef = u := ⟨_, rfl⟩
            obtain ⟨A14, c14, hv14, hr14⟩ := he 14 (by decide)
            have f14 : a.tmps.getD 82 undef = _ := hv14
            obtain ⟨g15, hv15, hg15, hr15⟩ := he 15 (by decide)
            have f15 : a.tmps.getD 16 undef = _ := hv15
            have hlit := hf.lit ((68, u68) :: (69, u69) :: (70, u70) :: (71, u71) :: (72, u72) :: (73, u73) :: (74, u74) :: (75, u75) :: (76, u76) :: (77, u77) :: (78, u78) :: (79, u79) :: (80, u80) :: (81, u81) :: (82, _) :: (16, _) :: []) (by kernel_rfl) ⟨f0, f1, f2, f3, f4, f5, f6, f7, f8, f9, f10, f11, f12, f13, f14, f15, trivial⟩
            have hB := hf.bel
            clear he hf f0 f1 f2 f3 f4 f5 f6 f7 f8 f9 f10 f11 f12 f13 f14 f15 hv14 hv15
            subst hlit
            simp only [putAll_nil, putAll_cons, Act.put, List.setIfInBounds_toArray, List.set_cons_zero, List.set_cons_succ]
            simp only [List.drop_succ_cons, List.drop_zero]
            have HB3 := Lib.hid (HB2.out.trans (hB.mono HB2.out.size))
            have HX3 := Lib.hid ((hB.block _ (heap_lt HX2.out)).trans HX2.out)
            have X8 := Lib.hid hr15
            have O17 := Lib.hid hr14
            have hne17 := own_ne hr14 hr15
            have hgs : w.heap.size < g15 := by have := heap_lt HX2.out; omega
            have hws := heap_lt HX2.out
            have hgd := fun w => c_rGood F2 F6 (B10.toNat : Int) (F11 : Int) (F15 : Int) A14 (m - 19) c14 w
            have hbl : (x.drop 19).length = m - 19 := by simp [hmm]
            have hpp := Hp.out
            unfold GoodP at hpp
            simp only [hbl] at hpp
            clear hB hr14 hr15 Hp
            by_cases hG : Good F2 F6 (B10.toNat : Int) (F11 : Int) (F15 : Int) (m - 19)
            · rw [if_pos hG] at hpp
              obtain ⟨rfl, rfl⟩ := Prod.mk.inj hpp
              have hd := Lib.hid (decide_eq_true hG)
              clear hpp hG
              go_wp2_with (first
            | (refine Disk.wpL_store_all rfl rfl 25 (.tmp 16) (.tmp 82) rfl _ rfl _ rfl _ _ X8.out (by kernel_rfl) rfl (one6 _ _ _ _ _ _ _ _) ?_
               intro w9 x9 g9
               have F9 := Fr.grown (S := fun k => k = g15) g9 (by simp)
               have HX4 := Lib.hid (heap_fr HX3.out F9 (by omega))
               have O18 := Lib.hid (O17.out.fr F9 hne17)
               have HB4 := Lib.hid (HB3.out.trans (F9.bel (fun k e => by omega) HB3.out.size))
               have X9 := Lib.hid x9
               obtain ⟨q0, q1, q2, q3, q4, q5⟩ := cells6 x9
               clear x9 g9 F9)
            | (go_at_call 20
               (with_reducible refine (hgd _).mono ?_)
               rintro e w10 ⟨rfl, hb10⟩
               rw [hd.out]
               have HX5 := Lib.hid ((hb10.block _ (heap_lt HX4.out)).trans HX4.out)
               have O19 := Lib.hid (Tw.Own.bel O18.out hb10)
               have HB5 := Lib.hid (HB4.out.trans (hb10.mono HB4.out.size))
               have x10 := (hb10.block _ (heap_lt X9.out)).trans X9.out
               clear q0 q1 q2 q3 q4 q5
               obtain ⟨q0, q1, q2, q3, q4, q5⟩ := cells6 x10
               clear hb10 x10)
            | (refine Disk.wpL_store_all rfl rfl 25 (.tmp 2) (.tmp 87) rfl _ rfl _ rfl _ _ HX5.out (by kernel_rfl) rfl (one6 _ _ _ _ _ _ _ _) ?_
               intro w11 x11 g11
               have HR := Lib.hid x11
               have F11' := Fr.grown (S := fun k => k = w.heap.size) g11 (by simp)
               have O20 := Lib.hid (O19.out.fr F11' (fun ad e => by have := (O17.out.at0 ad e).1; omega))
               have HBR := Lib.hid (HB5.out.grown g11 HB5.out.size (by rintro k ⟨⟩; exact Nat.le_refl _))
               clear x11 g11 F11')
              | fail)
              refine bodyPost_ret (Disk.results_cell2 rfl _ _ w.heap.size _ _ (0, 0) _ rfl HR.out Try.underlying25 rfl (by kernel_rfl) _ rfl) rfl ?_
              exact ⟨A14, m - 19, c14, rfl, O20.out.rd, HBR.out⟩
            · rw [if_neg hG] at hpp
              obtain ⟨rfl, rfl⟩ := Prod.mk.inj hpp
              have hd := Lib.hid (decide_eq_false hG)
              clear hpp hG
              go_wp2_with (first
            | (refine Disk.wpL_store_all rfl rfl 25 (.tmp 16) (.tmp 82) rfl _ rfl _ rfl _ _ X8.out (by kernel_rfl) rfl (one6 _ _ _ _ _ _ _ _) ?_
               intro w9 x9 g9
               have F9 := Fr.grown (S := fun k => k = g15) g9 (by simp)
               have HX4 := Lib.hid (heap_fr HX3.out F9 (by omega))
               have O18 := Lib.hid (O17.out.fr F9 hne17)
               have HB4 := Lib.hid (HB3.out.trans (F9.bel (fun k e => by omega) HB3.out.size))
               have X9 := Lib.hid x9
               obtain ⟨q0, q1, q2, q3, q4, q5⟩ := cells6 x9
               clear x9 g9 F9)
            | (go_at_call 20
               (with_reducible refine (hgd _).mono ?_)
               rintro e w10 ⟨rfl, hb10⟩
               rw [hd.out]
               have HX5 := Lib.hid ((hb10.block _ (heap_lt HX4.out)).trans HX4.out)
               have O19 := Lib.hid (Tw.Own.bel O18.out hb10)
               have HB5 := Lib.hid (HB4.out.trans (hb10.mono HB4.out.size))
               have x10 := (hb10.block _ (heap_lt X9.out)).trans X9.out
               clear q0 q1 q2 q3 q4 q5
               obtain ⟨q0, q1, q2, q3, q4, q5⟩ := cells6 x10
               clear hb10 x10)
            | (refine Disk.wpL_store_all rfl rfl 25 (.tmp 2) (.tmp 86) rfl _ rfl _ rfl _ _ HX5.out (by kernel_rfl) rfl (one6 _ _ _ _ _ _ _ _) ?_
               intro w11 x11 g11
               have HR := Lib.hid x11
               have F11' := Fr.grown (S := fun k => k = w.heap.size) g11 (by simp)
               have O20 := Lib.hid (O19.out.fr F11' (fun ad e => by have := (O17.out.at0 ad e).1; omega))
               have HBR := Lib.hid (HB5.out.grown g11 HB5.out.size (by rintro k ⟨⟩; exact Nat.le_refl _))
               clear x11 g11 F11')
              | fail)
              refine bodyPost_ret (Disk.results_cell2 rfl _ _ w.heap.size _ _ (0, 0) _ rfl HR.out Try.underlying25 rfl (by kernel_rfl) _ rfl) rfl ?_
              exact ⟨none, 0, 0, rfl, Rd.nil_, HBR.out⟩
        · rw [if_pos h4] at hp
          obtain ⟨rfl, rfl⟩ := Prod.mk.inj hp
          have hne : ((e1 : Int) != 0) = true := by simp; omega
          clear hp hgl
          go_wp2_with (first
        | (go_at_call 82
           (with_reducible refine (h16 _ Hb.out).mono ?_)
           rintro e w1 ⟨rfl, rfl⟩)
        | (go_at_call 83
           (with_reducible refine (hsg _ Hb.out).mono ?_)
           rintro e w2 ⟨A2, c2, rfl, ho2, hb2⟩
           have HB2 := Lib.hid (HB.out.trans (hb2.mono HB.out.size))
           have HX2 := Lib.hid ((hb2.block _ (heap_lt HX.out)).trans HX.out)
           have O2 := Lib.hid ho2
           clear ho2 hb2 hsg)
          | (refine Disk.wpL_store_all rfl rfl 25 (.tmp 2) (.tmp 42) rfl _ rfl _ rfl _ _ HX2.out (by kernel_rfl) rfl (one6 _ _ _ _ _ _ _ _) ?_
             intro w9 x9 g9
             have HR := Lib.hid x9
             have HBR := Lib.hid (HB2.out.grown g9 HB2.out.size (by rintro k ⟨⟩; exact Nat.le_refl _))
             clear x9 g9))
          refine bodyPost_ret (Disk.results_cell2 rfl _ _ w.heap.size _ _ (0, 0) _ rfl HR.out Try.underlying25 rfl (by kernel_rfl) _ rfl) rfl ?_
          exact ⟨none, 0, 0, rfl, Rd.nil_, HBR.out⟩
      · rw [if_pos (by simpa using h3)] at hp
        obtain ⟨rfl, rfl⟩ := Prod.mk.inj hp
        have hne : ((G : Int) != (n : Int)) = true := by simp; omega
        clear hp
        go_wp2_with (first
      | (go_at_call 82
         (with_reducible refine (h16 _ Hb.out).mono ?_)
         rintro e w1 ⟨rfl, rfl⟩)
      | (refine Disk.wpL_store_all rfl rfl 25 (.tmp 2) (.tmp 34) rfl _ rfl _ rfl _ _ HX.out (by kernel_rfl) rfl (one6 _ _ _ _ _ _ _ _) ?_
         intro w9 x9 g9
         have HR := Lib.hid x9
         have HBR := Lib.hid (HB.out.grown g9 HB.out.size (by rintro k ⟨⟩; exact Nat.le_refl _))
         clear x9 g9)
        | fail)
        refine bodyPost_ret (Disk.results_cell2 rfl _ _ w.heap.size _ _ (0, 0) _ rfl HR.out Try.underlying25 rfl (by kernel_rfl) _ rfl) rfl ?_
        exact ⟨none, 0, 0, rfl, Rd.nil_, HBR.out⟩
end Go.Proofs.Ytdpggcpbgfancaa.Wire
