/- Contracts of the package wire: Parse. Conditions: none. -/
import Derived.Test.YtplemdgihlabgaaWire5
import Derived.Test.YtplemdgihlabgaaSeal5
import Derived.Test.YtplemdgihlabgaaDisk4
set_option linter.unusedVariables false
set_option linter.unusedSimpArgs false
namespace Go.Proofs.Ytplemdgihlabgaa.Wire
open Go.RowKit Tw
set_option maxHeartbeats 8000000
set_option maxRecDepth 100000
/-- a packet, plainly -/
structure Pk where
  f : Nat
  t : Nat
  k : Int
  s : Int
  a : Int
  body : List UInt8
def zp : Pk := ⟨0, 0, 0, 0, 0, []⟩
def fields (x : List UInt8) : Pk := ⟨Num.gv 4 (x.drop 2), Num.gv 4 (x.drop 6), ((x.getD 10 0).toNat : Nat), (Num.gv 4 (x.drop 11) : Nat), (Num.gv 4 (x.drop 15) : Nat), x.drop 19⟩
def GoodP (p : Pk) : Prop := Good p.f p.t p.k p.s p.a p.body.length
instance (p : Pk) : Decidable (GoodP p) := by unfold GoodP; infer_instance
def parse (b : List UInt8) : Pk × Nat :=
  if b.length < 23 then (zp, 8) else if 223 < b.length then (zp, 11) else if Num.gv 2 b ≠ b.length then (zp, 9) else if (Seal.get b).2 ≠ 0 then (zp, (Seal.get b).2) else if GoodP (fields (Seal.get b).1) then (fields (Seal.get b).1, 0) else (zp, 9)
/-- a packet as a value -/
def pkV (p : Pk) (A : Option Addr) (n c : Nat) : Value := .agg #[.int .u32 (p.f : Int), .int .u32 (p.t : Int), .int .i64 p.k, .int .i64 p.s, .int .i64 p.a, .slice A n c]
theorem get_len (b : List UInt8) (h : (Seal.get b).2 = 0) : (Seal.get b).1.length + 4 = b.length := by
  unfold Seal.get at h ⊢
  split at h
  · cases h
  · split at h
    · rename_i h1 h2
      rw [if_neg h1, if_pos h2]
      simp
      omega
    · cases h
theorem one6 (a b c d e : Int) (A : Option Addr) (n m : Nat) : ∀ v ∈ (#[.int .u32 a, .int .u32 b, .int .i64 c, .int .i64 d, .int .i64 e, .slice A n m] : Array Value), v.oneCell' = true := by
  intro v hv
  simp at hv
  rcases hv with rfl | rfl | rfl | rfl | rfl | rfl <;> rfl
theorem own_ne {w : World} {B g n c : Nat} {A : Option Addr} {xs : List Value} {cs : Array Value} (h : Own w B 5 1 A n c xs) (hg : w.heap[g]? = some (.cells cs 92 (0, 0))) : ∀ ad, A = some ad → ad.block ≠ g := by
  intro ad e
  subst e
  rcases h.2 with ⟨hv, _⟩ | ⟨g', cap, cur, hv, hb, hh, _⟩
  · injection hv with h1
    cases h1
  · injection hv with h2 _ _
    injection h2 with h2
    subst h2
    intro e
    simp only at e
    rw [e, hg] at hh
    injection hh with hh
    injection hh with _ hh _
    exact absurd hh (by decide)
theorem c_Parse (A : Option Addr) (n c : Nat) (b : List UInt8) (w : World) (hb : Byt w A n c b) (hn : n ≤ 1000) :
    Calls Try.prog 100 #[.slice A n c] w fun e w' => ∃ A2 n2 c2, e = .returned (.tuple #[pkV (parse b).1 A2 n2 c2, .int .i64 ((parse b).2 : Nat)]) ∧ Byt w' A2 n2 c2 (parse b).1.body ∧ Below w.heap.size w w' := by
  have hlen := hb.blen
  have HB := Lib.hid ((Below.refl _ _).alloc (Nat.le_refl w.heap.size) (.cells #[.int .u32 0, .int .u32 0, .int .i64 0, .int .i64 0, .int .i64 0, .slice none 0 0] 92))
  have HX := Lib.hid (heap_alloc_new w (.cells #[.int .u32 0, .int .u32 0, .int .i64 0, .int .i64 0, .int .i64 0, .slice none 0 0] 92))
  have Hb := Lib.hid (hb.bel HB.out)
  obtain ⟨⟨P, er⟩, hp⟩ : ∃ r, parse b = r := ⟨_, rfl⟩
  rw [hp]
  unfold parse at hp
  rw [hlen] at hp
  clear hb
  by_cases h1 : n < 23
  · rw [if_pos h1] at hp
    obtain ⟨rfl, rfl⟩ := Prod.mk.inj hp
    clear hp
    go_enter Try.func100, Try.ntmps100
    go_wp2_with fail
    refine bodyPost_ret (Disk.results_cell2 rfl _ _ w.heap.size _ _ (0, 0) _ rfl HX.out Try.underlying92 rfl (by kernel_rfl) _ rfl) rfl ?_
    exact ⟨none, 0, 0, rfl, Rd.nil_, HB.out⟩
  · rw [if_neg h1] at hp
    by_cases h2 : 223 < n
    · rw [if_pos h2] at hp
      obtain ⟨rfl, rfl⟩ := Prod.mk.inj hp
      clear hp
      go_enter Try.func100, Try.ntmps100
      go_wp2_with fail
      refine bodyPost_ret (Disk.results_cell2 rfl _ _ w.heap.size _ _ (0, 0) _ rfl HX.out Try.underlying92 rfl (by kernel_rfl) _ rfl) rfl ?_
      exact ⟨none, 0, 0, rfl, Rd.nil_, HB.out⟩
    · rw [if_neg h2] at hp
      go_enter Try.func100, Try.ntmps100
      go_upto_block 0 with (fail)
      generalize w.alloc (.cells #[.int .u32 0, .int .u32 0, .int .i64 0, .int .i64 0, .int .i64 0, .slice none 0 0] 92) = W1 at *
      have h16 := fun w (h : Byt w A n c b) => Num.c_Get16 A n c b w h
      generalize Num.gv 2 b = G at *
      generalize Num.gok 2 b = GK at *
      by_cases h3 : G = n
      · rw [if_neg (by simpa using h3)] at hp
        subst h3
        have hsg := fun w (h : Byt w A G c b) => Seal.c_Get A G c b w h (by omega)
        have hgl := get_len b
        rw [hlen] at hgl
        obtain ⟨⟨x, e1⟩, hge⟩ : ∃ r, Seal.get b = r := ⟨_, rfl⟩
        rw [hge] at hp hsg hgl
        simp only at hp hsg hgl
        clear hge
        by_cases h4 : e1 = 0
        · rw [if_neg (by simpa using h4)] at hp
          have hm := hgl h4
          subst h4
          have Hp := Lib.hid hp
          clear hp hgl
          go_wp2_with (first
        | (go_at_call 150
           (with_reducible refine (h16 _ Hb.out).mono ?_)
           rintro e w1 ⟨rfl, rfl⟩)
        | (go_at_call 151
           (with_reducible refine (hsg _ Hb.out).mono ?_)
           rintro e w2 ⟨A2, c2, rfl, ho2, hb2⟩
           have HB2 := Lib.hid (HB.out.trans (hb2.mono HB.out.size))
           have HX2 := Lib.hid ((hb2.block _ (heap_lt HX.out)).trans HX.out)
           have O2 := Lib.hid ho2
           clear ho2 hb2 hsg)
          | fail)
          have hx0 : 0 < x.length := by omega
          obtain ⟨ad, u0, rfl, -, -⟩ := O2.out.at1 hx0
          obtain ⟨m, hmm⟩ : ∃ m, x.length = m := ⟨_, rfl⟩
          rw [hmm] at O2 hm hx0 ⊢
          have hB10 : x[10]? = some (x.getD 10 0) := by rw [List.getD_eq_getElem?_getD, List.getElem?_eq_getElem (by omega)]; rfl
          have hf2 := fun w (h : Byt w (some ad) m c2 x) => c_field (some ad) m c2 x 2 2 rfl w h (by omega) (by omega)
          have hf6 := fun w (h : Byt w (some ad) m c2 x) => c_field (some ad) m c2 x 6 6 rfl w h (by omega) (by omega)
          have hf11 := fun w (h : Byt w (some ad) m c2 x) => c_field (some ad) m c2 x 11 11 rfl w h (by omega) (by omega)
          have hf15 := fun w (h : Byt w (some ad) m c2 x) => c_field (some ad) m c2 x 15 15 rfl w h (by omega) (by omega)
          have hl11 := Num.gv_lt 4 (x.drop 11)
          have hl15 := Num.gv_lt 4 (x.drop 15)
          unfold fields at Hp
          generalize Num.gv 4 (x.drop 2) = F2 at *
          generalize Num.gv 4 (x.drop 6) = F6 at *
          generalize Num.gv 4 (x.drop 11) = F11 at *
          generalize Num.gv 4 (x.drop 15) = F15 at *
          generalize x.getD 10 0 = B10 at *
          have HB10 := Lib.hid hB10
          clear hB10
          have hl11' : F11 < 4294967296 := hl11
          have hl15' : F15 < 4294967296 := hl15
          have hu11 : Hid (IntKind.i64.wrap (F11 : Int) = (F11 : Int)) := Lib.hid (by rw [IntKind.wrap_i64]; omega)
          have hu15 : Hid (IntKind.i64.wrap (F15 : Int) = (F15 : Int)) := Lib.hid (by rw [IntKind.wrap_i64]; omega)
          have hub : Hid (IntKind.i64.wrap (B10.toNat : Int) = (B10.toNat : Int)) := Lib.hid (by have := B10.toNat_lt; rw [IntKind.wrap_i64]; omega)
          clear hl11 hl15
          refine wp_region_phi (by kernel_rfl) 19 none (fun _ => false) (fun i_ v wz => match i_ with
            | 0 => v = .slice (some ad) m c2
            | 1 => v = .int .u32 (F2 : Int)
            | 2 => v = .slice (some ad) m c2
            | 3 => v = .int .u32 (F6 : Int)
            | 4 => v = .slice (some ad) m c2
            | 5 => v = .pointer (some (ad.add 10))
            | 6 => v = .int .u8 (B10.toNat : Int)
            | 7 => v = .int .i64 (B10.toNat : Int)
            | 8 => v = .slice (some ad) m c2
            | 9 => v = .int .u32 (F11 : Int)
            | 10 => v = .int .i64 (F11 : Int)
            | 11 => v = .slice (some ad) m c2
            | 12 => v = .int .u32 (F15 : Int)
            | 13 => v = .int .i64 (F15 : Int)
            | 14 => v = .slice (some ad) m c2
            | 15 => ∃ A3 c3, v = .slice A3 (m - 19) c3 ∧ Byt wz A3 (m - 19) c3 (x.drop 19)
            | 16 => ∃ A3 c3, v = .slice A3 (m - 19) c3 ∧ Own wz w2.heap.size 5 1 A3 (m - 19) c3 (bytesV (x.drop 19))
            | 17 => ∃ A3 c3, v = .agg #[.int .u32 (F2 : Int), .int .u32 (F6 : Int), .int .i64 (B10.toNat : Int), .int .i64 (F11 : Int), .int .i64 (F15 : Int), .slice A3 (m - 19) c3] ∧ Own wz w2.heap.size 5 1 A3 (m - 19) c3 (bytesV (x.drop 19))
            | 18 => ∃ g, v = .pointer (some ⟨g, 0, none⟩) ∧ w2.heap.size ≤ g ∧ wz.heap[g]? = some (.cells #[.int .u32 0, .int .u32 0, .int .i64 0, .int .i64 0, .int .i64 0, .slice none 0 0] 92 (0, 0))
            | _ => True) (by kernel_rfl) ?_ ?_ ?_
          · (repeat' (first | exact allLt_zero | refine allLt_succ ?_ ?_))
            · exact fun _ _ _ h _ => h
            · exact fun _ _ _ h _ => h
            · exact fun _ _ _ h _ => h
            · exact fun _ _ _ h _ => h
            · exact fun _ _ _ h _ => h
            · exact fun _ _ _ h _ => h
            · exact fun _ _ _ h _ => h
            · exact fun _ _ _ h _ => h
            · exact fun _ _ _ h _ => h
            · exact fun _ _ _ h _ => h
            · exact fun _ _ _ h _ => h
            · exact fun _ _ _ h _ => h
            · exact fun _ _ _ h _ => h
            · exact fun _ _ _ h _ => h
            · exact fun _ _ _ h _ => h
            · intro v w1 w2 h hg
              rw [show kindRow _ _ = none from by kernel_rfl] at hg
              obtain ⟨A3, c3, rfl, hr⟩ := h
              exact ⟨A3, c3, rfl, hr.bel (bel_grown hg)⟩
            · intro v w1 w2 h hg
              rw [show kindRow _ _ = none from by kernel_rfl] at hg
              obtain ⟨A3, c3, rfl, hr⟩ := h
              exact ⟨A3, c3, rfl, Tw.Own.bel hr (bel_grown hg)⟩
            · intro v w1 w2 h hg
              rw [show kindRow _ _ = none from by kernel_rfl] at hg
              obtain ⟨A3, c3, rfl, hr⟩ := h
              exact ⟨A3, c3, rfl, Tw.Own.bel hr (bel_grown hg)⟩
            · intro v w1 w2 h hg
              rw [show kindRow _ _ = none from by kernel_rfl] at hg
              obtain ⟨g, rfl, hg0, hr⟩ := h
              exact ⟨g, rfl, hg0, ((bel_grown hg).block _ (heap_lt hr)).trans hr⟩
          · (repeat' (first | exact allLt_zero | refine allLt_succ ?_ ?_))
            · intro a w' hf he
              have k6 : a.tmps.getD 6 undef = .slice (some ad) m c2 := hf.var (by kernel_rfl) rfl
              refine wpOp_step rfl (fun K hK => ?_)
              go_simp
              exact hK _ _ ⟨_, rfl, rfl, World.grownBy.refl _ _⟩
            · intro a w' hf he
              have f0 : a.tmps.getD 38 undef = .slice (some ad) m c2 := he 0 (by kernel_rfl)
              rw [show kindRow _ _ = none from by kernel_rfl] at hf
              refine wpOp_step rfl (fun K hK => ?_)
              go_simp
              (with_reducible refine (hf2 _ (O2.out.bel hf.bel)).mono ?_)
              rintro e w2 ⟨rfl, rfl⟩
              exact hK _ _ ⟨_, rfl, rfl, World.grownBy.refl _ _⟩
            · intro a w' hf he
              have k6 : a.tmps.getD 6 undef = .slice (some ad) m c2 := hf.var (by kernel_rfl) rfl
              refine wpOp_step rfl (fun K hK => ?_)
              go_simp
              exact hK _ _ ⟨_, rfl, rfl, World.grownBy.refl _ _⟩
            · intro a w' hf he
              have f2 : a.tmps.getD 40 undef = .slice (some ad) m c2 := he 2 (by kernel_rfl)
              rw [show kindRow _ _ = none from by kernel_rfl] at hf
              refine wpOp_step rfl (fun K hK => ?_)
              go_simp
              (with_reducible refine (hf6 _ (O2.out.bel hf.bel)).mono ?_)
              rintro e w2 ⟨rfl, rfl⟩
              exact hK _ _ ⟨_, rfl, rfl, World.grownBy.refl _ _⟩
            · intro a w' hf he
              have k6 : a.tmps.getD 6 undef = .slice (some ad) m c2 := hf.var (by kernel_rfl) rfl
              refine wpOp_step rfl (fun K hK => ?_)
              go_simp
              exact hK _ _ ⟨_, rfl, rfl, World.grownBy.refl _ _⟩
            · intro a w' hf he
              have f4 : a.tmps.getD 42 undef = .slice (some ad) m c2 := he 4 (by kernel_rfl)
              rw [show kindRow _ _ = none from by kernel_rfl] at hf
              refine wpOp_step rfl (fun K hK => ?_)
              go_simp
              rw [if_pos (by omega)]
              exact hK _ _ ⟨_, rfl, rfl, World.grownBy.refl _ _⟩
            · intro a w' hf he
              have f5 : a.tmps.getD 43 undef = .pointer (some (ad.add 10)) := he 5 (by kernel_rfl)
              rw [show kindRow _ _ = none from by kernel_rfl] at hf
              have dd := (O2.out.bel hf.bel).cell ad rfl 10 (.int .u8 (B10.toNat : Int)) (by simp [bytesV, HB10.out])
              have dd2 : w'.cell? ⟨ad.block, ad.off + 10, none⟩ = some (.int .u8 (B10.toNat : Int)) := dd
              refine wpOp_step rfl (fun K hK => ?_)
              go_simp
              exact hK _ _ ⟨_, rfl, rfl, World.grownBy.refl _ _⟩
            · intro a w' hf he
              have f6 : a.tmps.getD 44 undef = .int .u8 (B10.toNat : Int) := he 6 (by kernel_rfl)
              rw [show kindRow _ _ = none from by kernel_rfl] at hf
              refine wpOp_step rfl (fun K hK => ?_)
              go_simp
              (try rw [hub.out])
              exact hK _ _ ⟨_, rfl, rfl, World.grownBy.refl _ _⟩
            · intro a w' hf he
              have k6 : a.tmps.getD 6 undef = .slice (some ad) m c2 := hf.var (by kernel_rfl) rfl
              refine wpOp_step rfl (fun K hK => ?_)
              go_simp
              exact hK _ _ ⟨_, rfl, rfl, World.grownBy.refl _ _⟩
            · intro a w' hf he
              have f8 : a.tmps.getD 46 undef = .slice (some ad) m c2 := he 8 (by kernel_rfl)
              rw [show kindRow _ _ = none from by kernel_rfl] at hf
              refine wpOp_step rfl (fun K hK => ?_)
              go_simp
              (with_reducible refine (hf11 _ (O2.out.bel hf.bel)).mono ?_)
              rintro e w2 ⟨rfl, rfl⟩
              exact hK _ _ ⟨_, rfl, rfl, World.grownBy.refl _ _⟩
            · intro a w' hf he
              have f9 : a.tmps.getD 47 undef = .int .u32 (F11 : Int) := he 9 (by kernel_rfl)
              rw [show kindRow _ _ = none from by kernel_rfl] at hf
              refine wpOp_step rfl (fun K hK => ?_)
              go_simp
              (try rw [hu11.out])
              exact hK _ _ ⟨_, rfl, rfl, World.grownBy.refl _ _⟩
            · intro a w' hf he
              have k6 : a.tmps.getD 6 undef = .slice (some ad) m c2 := hf.var (by kernel_rfl) rfl
              refine wpOp_step rfl (fun K hK => ?_)
              go_simp
              exact hK _ _ ⟨_, rfl, rfl, World.grownBy.refl _ _⟩
            · intro a w' hf he
              have f11 : a.tmps.getD 49 undef = .slice (some ad) m c2 := he 11 (by kernel_rfl)
              rw [show kindRow _ _ = none from by kernel_rfl] at hf
              refine wpOp_step rfl (fun K hK => ?_)
              go_simp
              (with_reducible refine (hf15 _ (O2.out.bel hf.bel)).mono ?_)
              rintro e w2 ⟨rfl, rfl⟩
              exact hK _ _ ⟨_, rfl, rfl, World.grownBy.refl _ _⟩
            · intro a w' hf he
              have f12 : a.tmps.getD 50 undef = .int .u32 (F15 : Int) := he 12 (by kernel_rfl)
              rw [show kindRow _ _ = none from by kernel_rfl] at hf
              refine wpOp_step rfl (fun K hK => ?_)
              go_simp
              (try rw [hu15.out])
              exact hK _ _ ⟨_, rfl, rfl, World.grownBy.refl _ _⟩
            · intro a w' hf he
              have k6 : a.tmps.getD 6 undef = .slice (some ad) m c2 := hf.var (by kernel_rfl) rfl
              refine wpOp_step rfl (fun K hK => ?_)
              go_simp
              exact hK _ _ ⟨_, rfl, rfl, World.grownBy.refl _ _⟩
            · intro a w' hf he
              have f14 : a.tmps.getD 52 undef = .slice (some ad) m c2 := he 14 (by kernel_rfl)
              rw [show kindRow _ _ = none from by kernel_rfl] at hf
              have h9 := (O2.out.bel hf.bel).cutB (k := 19) (by omega)
              refine wpOp_step rfl (fun K hK => ?_)
              go_simp
              rw [if_pos (by omega)]
              exact hK _ _ ⟨_, rfl, ⟨_, _, rfl, h9⟩, World.grownBy.refl _ _⟩
            · intro a w' hf he
              obtain ⟨A15, c15, hv15, hr15⟩ := he 15 (by kernel_rfl)
              have f15 : a.tmps.getD 53 undef = _ := hv15
              rw [show kindRow _ _ = none from by kernel_rfl] at hf
              refine wpOp_step rfl (fun K hK => ?_)
              go_simp
              (with_reducible refine (c_bClone _ _ _ _ _ hr15 (by omega)).mono ?_)
              rintro e w3 ⟨A3, c3, rfl, ho2, hb2⟩
              exact hK _ _ ⟨_, rfl, ⟨_, _, rfl, Tw.Own.mono ho2 hf.bel.size⟩, grown_bel hb2⟩
            · intro a w' hf he
              have f1 : a.tmps.getD 39 undef = .int .u32 (F2 : Int) := he 1 (by kernel_rfl)
              have f3 : a.tmps.getD 41 undef = .int .u32 (F6 : Int) := he 3 (by kernel_rfl)
              have f7 : a.tmps.getD 45 undef = .int .i64 (B10.toNat : Int) := he 7 (by kernel_rfl)
              have f10 : a.tmps.getD 48 undef = .int .i64 (F11 : Int) := he 10 (by kernel_rfl)
              have f13 : a.tmps.getD 51 undef = .int .i64 (F15 : Int) := he 13 (by kernel_rfl)
              obtain ⟨A16, c16, hv16, hr16⟩ := he 16 (by kernel_rfl)
              have f16 : a.tmps.getD 54 undef = _ := hv16
              have e1 : a.tmps[39]?.getD undef = _ := Array.getD_eq_getD_getElem? .. ▸ f1
              have e3 : a.tmps[41]?.getD undef = _ := Array.getD_eq_getD_getElem? .. ▸ f3
              have e7 : a.tmps[45]?.getD undef = _ := Array.getD_eq_getD_getElem? .. ▸ f7
              have e10 : a.tmps[48]?.getD undef = _ := Array.getD_eq_getD_getElem? .. ▸ f10
              have e13 : a.tmps[51]?.getD undef = _ := Array.getD_eq_getD_getElem? .. ▸ f13
              have e16 : a.tmps[54]?.getD undef = _ := Array.getD_eq_getD_getElem? .. ▸ f16
              rw [show kindRow _ _ = none from by kernel_rfl] at hf
              refine wpOp_step rfl (fun K hK => ?_)
              go_simp
              exact hK _ _ ⟨_, rfl, ⟨_, _, rfl, hr16⟩, World.grownBy.refl _ _⟩
            · intro a w' hf he
              rw [show kindRow _ _ = none from by kernel_rfl] at hf
              refine wpOp_step rfl (fun K hK => ?_)
              go_simp
              exact hK _ _ ⟨_, rfl, ⟨_, rfl, hf.bel.size, heap_alloc_new w' _⟩, World.grownBy_alloc _ _ _⟩
          · intro a w' hf he
            obtain ⟨u38, f0⟩ : ∃ u, a.tmps.getD 38 undef = u := ⟨_, rfl⟩
            obtain ⟨u39, f1⟩ : ∃ u, a.tmps.getD 39 undef = u := ⟨_, rfl⟩
            obtain ⟨u40, f2⟩ : ∃ u, a.tmps.getD 40 undef = u := ⟨_, rfl⟩
            obtain ⟨u41, f3⟩ : ∃ u, a.tmps.getD 41 undef = u := ⟨_, rfl⟩
            obtain ⟨u42, f4⟩ : ∃ u, a.tmps.getD 42 undef = u := ⟨_, rfl⟩
            obtain ⟨u43, f5⟩ : ∃ u, a.tmps.getD 43 undef = u := ⟨_, rfl⟩
            obtain ⟨u44, f6⟩ : ∃ u, a.tmps.getD 44 undef = u := ⟨_, rfl⟩
            obtain ⟨u45, f7⟩ : ∃ u, a.tmps.getD 45 undef = u := ⟨_, rfl⟩
            obtain ⟨u46, f8⟩ : ∃ u, a.tmps.getD 46 undef = u := ⟨_, rfl⟩
            obtain ⟨u47, f9⟩ : ∃ u, a.tmps.getD 47 undef = u := ⟨_, rfl⟩
            obtain ⟨u48, f10⟩ : ∃ u, a.tmps.getD 48 undef = u := ⟨_, rfl⟩
            obtain ⟨u49, f11⟩ : ∃ u, a.tmps.getD 49 undef = u := ⟨_, rfl⟩
            obtain ⟨u50, f12⟩ : ∃ u, a.tmps.getD 50 undef = u := ⟨_, rfl⟩
            obtain ⟨u51, f13⟩ : ∃ u, a.tmps.getD 51 undef = u := ⟨_, rfl⟩
            obtain ⟨u52, f14⟩ : ∃ u, a.tmps.getD 52 undef = u := ⟨_, rfl⟩
            obtain ⟨u53, f15⟩ : ∃ u, a.tmps.getD 53 undef = u := ⟨_, rfl⟩
            obtain ⟨u54, f16⟩ : ∃ u, a.tmps.getD 54 undef = u := ⟨_, rfl⟩
            obtain ⟨A17, c17, hv17, hr17⟩ := he 17 (by decide)
            have f17 : a.tmps.getD 55 undef = _ := hv17
            obtain ⟨g18, hv18, hg18, hr18⟩ := he 18 (by decide)
            have f18 : a.tmps.getD 8 undef = _ := hv18
            have hlit := hf.lit ((38, u38) :: (39, u39) :: (40, u40) :: (41, u41) :: (42, u42) :: (43, u43) :: (44, u44) :: (45, u45) :: (46, u46) :: (47, u47) :: (48, u48) :: (49, u49) :: (50, u50) :: (51, u51) :: (52, u52) :: (53, u53) :: (54, u54) :: (55, _) :: (8, _) :: []) (by kernel_rfl) ⟨f0, f1, f2, f3, f4, f5, f6, f7, f8, f9, f10, f11, f12, f13, f14, f15, f16, f17, f18, trivial⟩
            have hB := hf.bel
            clear he hf f0 f1 f2 f3 f4 f5 f6 f7 f8 f9 f10 f11 f12 f13 f14 f15 f16 f17 f18 hv17 hv18
            subst hlit
            simp only [putAll_nil, putAll_cons, Act.put, List.setIfInBounds_toArray, List.set_cons_zero, List.set_cons_succ]
            simp only [List.drop_succ_cons, List.drop_zero]
            have HB3 := Lib.hid (HB2.out.trans (hB.mono HB2.out.size))
            have HX3 := Lib.hid ((hB.block _ (heap_lt HX2.out)).trans HX2.out)
            have X8 := Lib.hid hr18
            have O17 := Lib.hid hr17
            have hne17 := own_ne hr17 hr18
            have hgs : w.heap.size < g18 := by have := heap_lt HX2.out; omega
            have hws := heap_lt HX2.out
            have hgd := fun w => c_Good F2 F6 (B10.toNat : Int) (F11 : Int) (F15 : Int) A17 (m - 19) c17 w
            have hbl : (x.drop 19).length = m - 19 := by simp [hmm]
            have hpp := Hp.out
            unfold GoodP at hpp
            simp only [hbl] at hpp
            clear hB hr17 hr18 Hp
            by_cases hG : Good F2 F6 (B10.toNat : Int) (F11 : Int) (F15 : Int) (m - 19)
            · rw [if_pos hG] at hpp
              obtain ⟨rfl, rfl⟩ := Prod.mk.inj hpp
              have hd := Lib.hid (decide_eq_true hG)
              clear hpp hG
              go_wp2_with (first
            | (refine Disk.wpL_store_all rfl rfl 92 (.tmp 8) (.tmp 55) rfl _ rfl _ rfl _ _ X8.out (by kernel_rfl) rfl (one6 _ _ _ _ _ _ _ _) ?_
               intro w9 x9 g9
               have F9 := Fr.grown (S := fun k => k = g18) g9 (by simp)
               have HX4 := Lib.hid (heap_fr HX3.out F9 (by omega))
               have O18 := Lib.hid (O17.out.fr F9 hne17)
               have HB4 := Lib.hid (HB3.out.trans (F9.bel (fun k e => by omega) HB3.out.size))
               have X9 := Lib.hid x9
               obtain ⟨q0, q1, q2, q3, q4, q5⟩ := cells6 x9
               clear x9 g9 F9)
            | (go_at_call 153
               (with_reducible refine (hgd _).mono ?_)
               rintro e w10 ⟨rfl, hb10⟩
               rw [hd.out]
               have HX5 := Lib.hid ((hb10.block _ (heap_lt HX4.out)).trans HX4.out)
               have O19 := Lib.hid (Tw.Own.bel O18.out hb10)
               have HB5 := Lib.hid (HB4.out.trans (hb10.mono HB4.out.size))
               have x10 := (hb10.block _ (heap_lt X9.out)).trans X9.out
               clear q0 q1 q2 q3 q4 q5
               obtain ⟨q0, q1, q2, q3, q4, q5⟩ := cells6 x10
               clear hb10 x10)
            | (refine Disk.wpL_store_all rfl rfl 92 (.tmp 2) (.tmp 60) rfl _ rfl _ rfl _ _ HX5.out (by kernel_rfl) rfl (one6 _ _ _ _ _ _ _ _) ?_
               intro w11 x11 g11
               have HR := Lib.hid x11
               have F11' := Fr.grown (S := fun k => k = w.heap.size) g11 (by simp)
               have O20 := Lib.hid (O19.out.fr F11' (fun ad e => by have := (O17.out.at0 ad e).1; omega))
               have HBR := Lib.hid (HB5.out.grown g11 HB5.out.size (by rintro k ⟨⟩; exact Nat.le_refl _))
               clear x11 g11 F11')
              | fail)
              refine bodyPost_ret (Disk.results_cell2 rfl _ _ w.heap.size _ _ (0, 0) _ rfl HR.out Try.underlying92 rfl (by kernel_rfl) _ rfl) rfl ?_
              exact ⟨A17, m - 19, c17, rfl, O20.out.rd, HBR.out⟩
            · rw [if_neg hG] at hpp
              obtain ⟨rfl, rfl⟩ := Prod.mk.inj hpp
              have hd := Lib.hid (decide_eq_false hG)
              clear hpp hG
              go_wp2_with (first
            | (refine Disk.wpL_store_all rfl rfl 92 (.tmp 8) (.tmp 55) rfl _ rfl _ rfl _ _ X8.out (by kernel_rfl) rfl (one6 _ _ _ _ _ _ _ _) ?_
               intro w9 x9 g9
               have F9 := Fr.grown (S := fun k => k = g18) g9 (by simp)
               have HX4 := Lib.hid (heap_fr HX3.out F9 (by omega))
               have O18 := Lib.hid (O17.out.fr F9 hne17)
               have HB4 := Lib.hid (HB3.out.trans (F9.bel (fun k e => by omega) HB3.out.size))
               have X9 := Lib.hid x9
               obtain ⟨q0, q1, q2, q3, q4, q5⟩ := cells6 x9
               clear x9 g9 F9)
            | (go_at_call 153
               (with_reducible refine (hgd _).mono ?_)
               rintro e w10 ⟨rfl, hb10⟩
               rw [hd.out]
               have HX5 := Lib.hid ((hb10.block _ (heap_lt HX4.out)).trans HX4.out)
               have O19 := Lib.hid (Tw.Own.bel O18.out hb10)
               have HB5 := Lib.hid (HB4.out.trans (hb10.mono HB4.out.size))
               have x10 := (hb10.block _ (heap_lt X9.out)).trans X9.out
               clear q0 q1 q2 q3 q4 q5
               obtain ⟨q0, q1, q2, q3, q4, q5⟩ := cells6 x10
               clear hb10 x10)
            | (refine Disk.wpL_store_all rfl rfl 92 (.tmp 2) (.tmp 59) rfl _ rfl _ rfl _ _ HX5.out (by kernel_rfl) rfl (one6 _ _ _ _ _ _ _ _) ?_
               intro w11 x11 g11
               have HR := Lib.hid x11
               have F11' := Fr.grown (S := fun k => k = w.heap.size) g11 (by simp)
               have O20 := Lib.hid (O19.out.fr F11' (fun ad e => by have := (O17.out.at0 ad e).1; omega))
               have HBR := Lib.hid (HB5.out.grown g11 HB5.out.size (by rintro k ⟨⟩; exact Nat.le_refl _))
               clear x11 g11 F11')
              | fail)
              refine bodyPost_ret (Disk.results_cell2 rfl _ _ w.heap.size _ _ (0, 0) _ rfl HR.out Try.underlying92 rfl (by kernel_rfl) _ rfl) rfl ?_
              exact ⟨none, 0, 0, rfl, Rd.nil_, HBR.out⟩
        · rw [if_pos h4] at hp
          obtain ⟨rfl, rfl⟩ := Prod.mk.inj hp
          have hne : ((e1 : Int) != 0) = true := by simp; omega
          clear hp hgl
          go_wp2_with (first
        | (go_at_call 150
           (with_reducible refine (h16 _ Hb.out).mono ?_)
           rintro e w1 ⟨rfl, rfl⟩)
        | (go_at_call 151
           (with_reducible refine (hsg _ Hb.out).mono ?_)
           rintro e w2 ⟨A2, c2, rfl, ho2, hb2⟩
           have HB2 := Lib.hid (HB.out.trans (hb2.mono HB.out.size))
           have HX2 := Lib.hid ((hb2.block _ (heap_lt HX.out)).trans HX.out)
           have O2 := Lib.hid ho2
           clear ho2 hb2 hsg)
          | (refine Disk.wpL_store_all rfl rfl 92 (.tmp 2) (.tmp 36) rfl _ rfl _ rfl _ _ HX2.out (by kernel_rfl) rfl (one6 _ _ _ _ _ _ _ _) ?_
             intro w9 x9 g9
             have HR := Lib.hid x9
             have HBR := Lib.hid (HB2.out.grown g9 HB2.out.size (by rintro k ⟨⟩; exact Nat.le_refl _))
             clear x9 g9))
          refine bodyPost_ret (Disk.results_cell2 rfl _ _ w.heap.size _ _ (0, 0) _ rfl HR.out Try.underlying92 rfl (by kernel_rfl) _ rfl) rfl ?_
          exact ⟨none, 0, 0, rfl, Rd.nil_, HBR.out⟩
      · rw [if_pos (by simpa using h3)] at hp
        obtain ⟨rfl, rfl⟩ := Prod.mk.inj hp
        have hne : ((G : Int) != (n : Int)) = true := by simp; omega
        clear hp
        go_wp2_with (first
      | (go_at_call 150
         (with_reducible refine (h16 _ Hb.out).mono ?_)
         rintro e w1 ⟨rfl, rfl⟩)
      | (refine Disk.wpL_store_all rfl rfl 92 (.tmp 2) (.tmp 28) rfl _ rfl _ rfl _ _ HX.out (by kernel_rfl) rfl (one6 _ _ _ _ _ _ _ _) ?_
         intro w9 x9 g9
         have HR := Lib.hid x9
         have HBR := Lib.hid (HB.out.grown g9 HB.out.size (by rintro k ⟨⟩; exact Nat.le_refl _))
         clear x9 g9)
        | fail)
        refine bodyPost_ret (Disk.results_cell2 rfl _ _ w.heap.size _ _ (0, 0) _ rfl HR.out Try.underlying92 rfl (by kernel_rfl) _ rfl) rfl ?_
        exact ⟨none, 0, 0, rfl, Rd.nil_, HBR.out⟩
end Go.Proofs.Ytplemdgihlabgaa.Wire
