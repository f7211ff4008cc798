/- The law SessionNone, walked. Conditions: none. -/
import Derived.Test.YtplemdgihlabgaaSession5
import Derived.Test.YtplemdgihlabgaaFlat
set_option linter.unusedVariables false
set_option linter.unusedSimpArgs false
namespace Go.Proofs.Ytplemdgihlabgaa.Session
open Go.RowKit Tw Bx
set_option maxHeartbeats 8000000
set_option maxRecDepth 100000
/-- an act as cells -/
def sactV (k : Int) (B : Option Addr) (nb cb : Nat) (f t : Nat) (pk ps pa : Int) (A : Option Addr) (n c : Nat) : List Value := [.int .i64 k, .slice B nb cb, .int .u32 (f : Int), .int .u32 (t : Int), .int .i64 pk, .int .i64 ps, .int .i64 pa, .slice A n c]
def s0 : Array Value := #[.int .u32 0, .int .u32 0, .int .i64 0, .pointer none, .pointer none, .pointer none]
/-- the boxes of SessionNone -/
def Sx (w : World) (W : World) (l : List Value) : Prop :=
  W.heap[w.heap.size]? = some (.cells l.toArray 94 (0, 0)) ∧ W.heap[w.heap.size + 1]? = some (.cells s0 102 (0, 0)) ∧
  W.heap[w.heap.size + 2]? = some (.cells #[.pointer none, .pointer (some ⟨w.heap.size + 1, 0, none⟩)] 95 (0, 0)) ∧ Below w.heap.size w W
theorem Sx.fr {w W W' : World} {l : List Value} (h : Sx w W l) (hb : Below W.heap.size W W') : Sx w W' l := by
  obtain ⟨h1, h2, h3, h4⟩ := h
  exact ⟨(hb.block _ (heap_lt h1)).trans h1, (hb.block _ (heap_lt h2)).trans h2, (hb.block _ (heap_lt h3)).trans h3, h4.trans (hb.mono h4.size)⟩
theorem Sx.se {w W : World} {l : List Value} (h : Sx w W l) : NoSe W (.pointer (some ⟨w.heap.size + 1, 0, none⟩)) :=
  .inr ⟨_, rfl, heap_lt h.2.1, by simp [World.cell?, h.2.1, s0]⟩
theorem NoSe.step {w W W' : World} {l : List Value} {v : Value} (hB : Sx w W l) (hv : NoSe W v) (hb : Below W.heap.size W W') : Hid (Sx w W' l) ∧ Hid (NoSe W' v) := ⟨Lib.hid (hB.fr hb), Lib.hid (hv.bel hb)⟩
theorem Sx.start (w : World) (l : List Value) : Sx w (((w.alloc (.cells l.toArray 94)).alloc (.cells s0 102)).alloc (.cells #[.pointer none, .pointer (some ⟨w.heap.size + 1, 0, none⟩)] 95)) l := by
  have h1 := heap_alloc_new w (.cells l.toArray 94)
  have h2 := heap_alloc_new (w.alloc (.cells l.toArray 94)) (.cells s0 102)
  have h3 := heap_alloc_new ((w.alloc (.cells l.toArray 94)).alloc (.cells s0 102)) (.cells #[.pointer none, .pointer (some ⟨w.heap.size + 1, 0, none⟩)] 95)
  have b2 := Below.heap_alloc (w.alloc (.cells l.toArray 94)) (.cells s0 102) _ (heap_lt h1)
  have b3 := Below.heap_alloc ((w.alloc (.cells l.toArray 94)).alloc (.cells s0 102)) (.cells #[.pointer none, .pointer (some ⟨w.heap.size + 1, 0, none⟩)] 95)
  rw [World.size_alloc] at h2
  rw [World.size_alloc, World.size_alloc] at h3
  exact ⟨(b3 _ (by simp; omega)).trans (b2.trans h1), (b3 _ (by simp)).trans h2, h3, (((Below.refl _ _).alloc (Nat.le_refl _) _).alloc (by simp) _).alloc (by simp; omega) _⟩
theorem sact_cells {W : World} {g : Nat} {k : Int} {B : Option Addr} {nb cb f t : Nat} {pk ps pa : Int} {A : Option Addr} {n c : Nat} {ty : TypeId} (h : W.heap[g]? = some (.cells (sactV k B nb cb f t pk ps pa A n c).toArray ty (0, 0))) :
    W.cell? ⟨g, 1, none⟩ = some (.slice B nb cb) ∧ W.cell? ⟨g, 2, none⟩ = some (.int .u32 (f : Int)) ∧ W.cell? ⟨g, 3, none⟩ = some (.int .u32 (t : Int)) ∧ W.cell? ⟨g, 4, none⟩ = some (.int .i64 pk) ∧ W.cell? ⟨g, 5, none⟩ = some (.int .i64 ps) ∧ W.cell? ⟨g, 6, none⟩ = some (.int .i64 pa) ∧ W.cell? ⟨g, 7, none⟩ = some (.slice A n c) := by
  simp [World.cell?, h, sactV]
theorem w_SessionNone (k : Int) (B : Option Addr) (nb cb f t : Nat) (pk ps pa : Int) (A : Option Addr) (n c : Nat) (b : List UInt8) (w : World) (hf : f < 4294967296) (ht : t < 4294967296) (hb : Byt w A n c b) :
    Calls Try.prog 9 #[.agg (sactV k B nb cb f t pk ps pa A n c).toArray] w fun e w' => e = .returned (.bool true) ∧ Below w.heap.size w w' := by
  have HB0 := Lib.hid ((Below.refl w.heap.size w).alloc (Nat.le_refl _) (.cells (sactV k B nb cb f t pk ps pa A n c).toArray 94))
  obtain ⟨e1, e2, e3, e4, e5, e6, e7⟩ := sact_cells (heap_alloc_new w (.cells (sactV k B nb cb f t pk ps pa A n c).toArray 94))
  by_cases h1 : 300 < nb
  · go_enter Try.func9, Try.ntmps9
    go_wp2_with (first
      | (go_at_call 46; (with_reducible refine (c_lives _).mono ?_); rintro e w2 ⟨rfl, hb2⟩))
    go_ret
    exact ⟨rfl, HB0.out.trans (hb2.mono HB0.out.size)⟩
  by_cases h2 : 300 < n
  · go_enter Try.func9, Try.ntmps9
    go_wp2_with (first
      | (go_at_call 46; (with_reducible refine (c_lives _).mono ?_); rintro e w2 ⟨rfl, hb2⟩))
    go_ret
    exact ⟨rfl, HB0.out.trans (hb2.mono HB0.out.size)⟩
  have HB := Lib.hid (Sx.start w (sactV k B nb cb f t pk ps pa A n c))
  have Hb := Lib.hid hb
  unfold s0 at HB
  clear hb
  go_enter Try.func9, Try.ntmps9
  go_upto_region 4 with (fail)
  generalize (((w.alloc (.cells (sactV k B nb cb f t pk ps pa A n c).toArray 94)).alloc (.cells #[.int .u32 0, .int .u32 0, .int .i64 0, .pointer none, .pointer none, .pointer none] 102)).alloc (.cells #[.pointer none, .pointer (some ⟨w.heap.size + 1, 0, none⟩)] 95)) = W0 at *
  clear e1 e2 e3 e4 e5 e6 e7
  go_wp2_with fail
  go_loopw [25] (fun i wr => ∃ q : Nat, q ≤ 2 ∧ i = .int .i64 (q : Int) ∧ Hid (Sx w wr (sactV k B nb cb f t pk ps pa A n c))) (fun i _ => 2 - (intOf i).toNat)
  case atStart => exact ⟨0, by omega, rfl, HB⟩
  case round =>
    clear HB
    obtain ⟨q, hq, rfl, HB⟩ := hrel
    obtain ⟨sv, hv, HV⟩ : ∃ sv, Hid (q < 2 → wr.cell? ⟨w.heap.size + 2, q, none⟩ = some sv) ∧ Hid (q < 2 → NoSe wr sv) := by
      obtain ⟨h1, h2, h3, h4⟩ := HB.out
      obtain rfl | rfl | rfl : q = 0 ∨ q = 1 ∨ q = 2 := by omega
      · exact ⟨.pointer none, Lib.hid (fun _ => by simp [World.cell?, h3]), Lib.hid (fun _ => .inl rfl)⟩
      · exact ⟨_, Lib.hid (fun _ => by simp [World.cell?, h3]), Lib.hid (fun _ => HB.out.se)⟩
      · exact ⟨undef, Lib.hid (fun h => by omega), Lib.hid (fun h => by omega)⟩
    by_cases hq2 : q < 2
    · have c1 := hv.out hq2
      have V := Lib.hid (HV.out hq2)
      obtain ⟨e1, e2, e3, e4, e5, e6, e7⟩ := sact_cells HB.out.1
      go_upto_region 8 with (first
        | (go_at_call 48
           refine (Wire.c_rBytes f t pk ps pa A n c b _ hf ht (Hb.out.bel HB.out.2.2.2)).mono ?_
           rintro e w3 ⟨A3, n3, c3, rfl, _, hb3⟩
           obtain ⟨HB, V⟩ := NoSe.step HB.out V.out hb3
           clear e1 e2 e3 e4 e5 e6 e7 c1 hb3)
        | (go_at_call 47
           (with_reducible refine (c_Take_none V.out A3 n3 c3).mono ?_)
           rintro e w4 ⟨rfl, hb4⟩
           obtain ⟨HB, V⟩ := NoSe.step HB.out V.out hb4
           have HX := Lib.hid (heap_alloc_new w4 (.cells got0 105))
           have HXB := Lib.hid ((Below.refl w4.heap.size w4).alloc (Nat.le_refl _) (.cells got0 105))
           simp only [got0] at HX HXB
           clear hb4)
        | (refine wpL_store_all rfl rfl 105 (.tmp 6) (.tmp 35) rfl _ rfl _ rfl _ _ HX.out (by kernel_rfl) rfl (by simp [got0, Value.oneCell']) ?_
           intro w5 x5 g5
           have hb5 := HXB.out.grown g5 HXB.out.size (by rintro k ⟨⟩; exact Nat.le_refl _)
           obtain ⟨HB, V⟩ := NoSe.step HB.out V.out hb5
           have X := Lib.hid x5
           clear x5 g5 hb5 HX HXB))
      refine wp_region_phi (by kernel_rfl) 48 none (fun _ => false) (fun i_ v wz => match i_ with
        | 0 => v = .pointer (some ⟨w4.heap.size, 0, none⟩)
        | 1 => v = .bool false
        | 2 => v = .bool false
        | 3 => v = .pointer (some ⟨w4.heap.size, 1, none⟩)
        | 4 => v = .bool false
        | 5 => v = .bool false
        | 6 => v = .bool false
        | 7 => v = .pointer (some ⟨w4.heap.size, 2, none⟩)
        | 8 => v = .slice none 0 0
        | 9 => v = .int .i64 0
        | 10 => v = .slice none 0 0
        | 11 => v = .int .i64 0
        | 12 => v = .int .i64 0
        | 13 => v = sv
        | 14 => v = .pointer (some ⟨w.heap.size, 1, none⟩)
        | 15 => v = .slice B nb cb
        | 16 => v = .slice none 0 0
        | 17 => v = .int .i64 0
        | 18 => v = .int .i64 0
        | 19 => v = sv
        | 20 => v = .slice none 0 0
        | 21 => v = .int .i64 0
        | 22 => v = .int .i64 0
        | 23 => v = .bool false
        | 24 => v = .bool false
        | 25 => v = .bool false
        | 26 => v = sv
        | 27 => v = .int .u32 0
        | 28 => v = .bool false
        | 29 => v = .bool false
        | 30 => v = .bool false
        | 31 => v = sv
        | 32 => v = .int .u32 0
        | 33 => v = .bool false
        | 34 => v = .bool false
        | 35 => v = .bool false
        | 36 => v = sv
        | 37 => v = .bool false
        | 38 => v = .bool false
        | 39 => v = .bool false
        | 40 => v = sv
        | 41 => v = .bool false
        | 42 => v = .bool false
        | 43 => v = .bool false
        | 44 => v = sv
        | 45 => v = .int .i64 0
        | 46 => v = .bool false
        | 47 => v = .bool false
        | _ => True) (by kernel_rfl) ?_ ?_ ?_
      · (repeat' (first | exact allLt_zero | refine allLt_succ ?_ ?_))
        · exact fun _ _ _ h _ => h
        · exact fun _ _ _ h _ => h
        · exact fun _ _ _ h _ => h
        · exact fun _ _ _ h _ => h
        · exact fun _ _ _ h _ => h
        · exact fun _ _ _ h _ => h
        · exact fun _ _ _ h _ => h
        · exact fun _ _ _ h _ => h
        · exact fun _ _ _ h _ => h
        · exact fun _ _ _ h _ => h
        · exact fun _ _ _ h _ => h
        · exact fun _ _ _ h _ => h
        · exact fun _ _ _ h _ => h
        · exact fun _ _ _ h _ => h
        · exact fun _ _ _ h _ => h
        · exact fun _ _ _ h _ => h
        · exact fun _ _ _ h _ => h
        · exact fun _ _ _ h _ => h
        · exact fun _ _ _ h _ => h
        · exact fun _ _ _ h _ => h
        · exact fun _ _ _ h _ => h
        · exact fun _ _ _ h _ => h
        · exact fun _ _ _ h _ => h
        · exact fun _ _ _ h _ => h
        · exact fun _ _ _ h _ => h
        · exact fun _ _ _ h _ => h
        · exact fun _ _ _ h _ => h
        · exact fun _ _ _ h _ => h
        · exact fun _ _ _ h _ => h
        · exact fun _ _ _ h _ => h
        · exact fun _ _ _ h _ => h
        · exact fun _ _ _ h _ => h
        · exact fun _ _ _ h _ => h
        · exact fun _ _ _ h _ => h
        · exact fun _ _ _ h _ => h
        · exact fun _ _ _ h _ => h
        · exact fun _ _ _ h _ => h
        · exact fun _ _ _ h _ => h
        · exact fun _ _ _ h _ => h
        · exact fun _ _ _ h _ => h
        · exact fun _ _ _ h _ => h
        · exact fun _ _ _ h _ => h
        · exact fun _ _ _ h _ => h
        · exact fun _ _ _ h _ => h
        · exact fun _ _ _ h _ => h
        · exact fun _ _ _ h _ => h
        · exact fun _ _ _ h _ => h
        · exact fun _ _ _ h _ => h
      · (repeat' (first | exact allLt_zero | refine allLt_succ ?_ ?_))
        · intro a w' hf he
          have k6 : a.tmps.getD 6 undef = .pointer (some ⟨w4.heap.size, 0, none⟩) := hf.var (by kernel_rfl) rfl
          refine wpOp_step rfl (fun K hK => ?_)
          go_simp
          exact hK _ _ ⟨_, rfl, rfl, World.grownBy.refl _ _⟩
        · intro a w' hf he
          have f0 : a.tmps.getD 37 undef = .pointer (some ⟨w4.heap.size, 0, none⟩) := he 0 (by kernel_rfl)
          rw [show kindRow _ _ = none from by kernel_rfl] at hf
          have dd := got3 ((hf.bel.block _ (heap_lt X.out)).trans X.out)
          obtain ⟨d0, d1, d2, -⟩ := dd
          refine wpOp_step rfl (fun K hK => ?_)
          go_simp
          exact hK _ _ ⟨_, rfl, rfl, World.grownBy.refl _ _⟩
        · intro a w' hf he
          have f1 : a.tmps.getD 38 undef = .bool false := he 1 (by kernel_rfl)
          refine wpOp_step rfl (fun K hK => ?_)
          go_simp
          exact hK _ _ ⟨_, rfl, rfl, World.grownBy.refl _ _⟩
        · intro a w' hf he
          have k6 : a.tmps.getD 6 undef = .pointer (some ⟨w4.heap.size, 0, none⟩) := hf.var (by kernel_rfl) rfl
          have f2 : a.tmps.getD 39 undef = .bool false := he 2 (by kernel_rfl)
          refine wpOp_run rfl rfl rfl f2 (fun K hK => ?_)
          go_simp
          exact hK _ _ ⟨_, rfl, rfl, World.grownBy.refl _ _⟩
        · intro a w' hf he
          have f3 : a.tmps.getD 40 undef = .pointer (some ⟨w4.heap.size, 1, none⟩) := he 3 (by kernel_rfl)
          have f2 : a.tmps.getD 39 undef = .bool false := he 2 (by kernel_rfl)
          rw [show kindRow _ _ = none from by kernel_rfl] at hf
          have dd := got3 ((hf.bel.block _ (heap_lt X.out)).trans X.out)
          obtain ⟨d0, d1, d2, -⟩ := dd
          refine wpOp_run rfl rfl rfl f2 (fun K hK => ?_)
          go_simp
          exact hK _ _ ⟨_, rfl, rfl, World.grownBy.refl _ _⟩
        · intro a w' hf he
          have f2 : a.tmps.getD 39 undef = .bool false := he 2 (by kernel_rfl)
          have f4 : a.tmps.getD 41 undef = .bool false := he 4 (by kernel_rfl)
          refine wpOp_step rfl (fun K hK => ?_)
          go_simp
          exact hK _ _ ⟨_, rfl, rfl, World.grownBy.refl _ _⟩
        · intro a w' hf he
          have f5 : a.tmps.getD 42 undef = .bool false := he 5 (by kernel_rfl)
          refine wpOp_step rfl (fun K hK => ?_)
          go_simp
          exact hK _ _ ⟨_, rfl, rfl, World.grownBy.refl _ _⟩
        · intro a w' hf he
          have k6 : a.tmps.getD 6 undef = .pointer (some ⟨w4.heap.size, 0, none⟩) := hf.var (by kernel_rfl) rfl
          have f6 : a.tmps.getD 43 undef = .bool false := he 6 (by kernel_rfl)
          refine wpOp_run rfl rfl rfl f6 (fun K hK => ?_)
          go_simp
          exact hK _ _ ⟨_, rfl, rfl, World.grownBy.refl _ _⟩
        · intro a w' hf he
          have f7 : a.tmps.getD 44 undef = .pointer (some ⟨w4.heap.size, 2, none⟩) := he 7 (by kernel_rfl)
          have f6 : a.tmps.getD 43 undef = .bool false := he 6 (by kernel_rfl)
          rw [show kindRow _ _ = none from by kernel_rfl] at hf
          have dd := got3 ((hf.bel.block _ (heap_lt X.out)).trans X.out)
          obtain ⟨d0, d1, d2, -⟩ := dd
          refine wpOp_run rfl rfl rfl f6 (fun K hK => ?_)
          go_simp
          exact hK _ _ ⟨_, rfl, rfl, World.grownBy.refl _ _⟩
        · intro a w' hf he
          have f8 : a.tmps.getD 45 undef = .slice none 0 0 := he 8 (by kernel_rfl)
          have f6 : a.tmps.getD 43 undef = .bool false := he 6 (by kernel_rfl)
          refine wpOp_run rfl rfl rfl f6 (fun K hK => ?_)
          go_simp
          exact hK _ _ ⟨_, rfl, rfl, World.grownBy.refl _ _⟩
        · intro a w' hf he
          have k7 : a.tmps.getD 7 undef = .slice none 0 0 := hf.var (by kernel_rfl) rfl
          have f6 : a.tmps.getD 43 undef = .bool false := he 6 (by kernel_rfl)
          refine wpOp_run rfl rfl rfl f6 (fun K hK => ?_)
          go_simp
          exact hK _ _ ⟨_, rfl, rfl, World.grownBy.refl _ _⟩
        · intro a w' hf he
          have f10 : a.tmps.getD 47 undef = .slice none 0 0 := he 10 (by kernel_rfl)
          have f6 : a.tmps.getD 43 undef = .bool false := he 6 (by kernel_rfl)
          refine wpOp_run rfl rfl rfl f6 (fun K hK => ?_)
          go_simp
          exact hK _ _ ⟨_, rfl, rfl, World.grownBy.refl _ _⟩
        · intro a w' hf he
          have f9 : a.tmps.getD 46 undef = .int .i64 0 := he 9 (by kernel_rfl)
          have f11 : a.tmps.getD 48 undef = .int .i64 0 := he 11 (by kernel_rfl)
          have f6 : a.tmps.getD 43 undef = .bool false := he 6 (by kernel_rfl)
          refine wpOp_run rfl rfl rfl f6 (fun K hK => ?_)
          go_simp
          exact hK _ _ ⟨_, rfl, rfl, World.grownBy.refl _ _⟩
        · intro a w' hf he
          have k5 : a.tmps.getD 5 undef = sv := hf.var (by kernel_rfl) rfl
          have f6 : a.tmps.getD 43 undef = .bool false := he 6 (by kernel_rfl)
          refine wpOp_run rfl rfl rfl f6 (fun K hK => ?_)
          go_simp
          exact hK _ _ ⟨_, rfl, rfl, World.grownBy.refl _ _⟩
        · intro a w' hf he
          have k1 : a.tmps.getD 1 undef = .pointer (some ⟨w.heap.size, 0, none⟩) := hf.var (by kernel_rfl) rfl
          have f6 : a.tmps.getD 43 undef = .bool false := he 6 (by kernel_rfl)
          refine wpOp_run rfl rfl rfl f6 (fun K hK => ?_)
          go_simp
          exact hK _ _ ⟨_, rfl, rfl, World.grownBy.refl _ _⟩
        · intro a w' hf he
          have f14 : a.tmps.getD 51 undef = .pointer (some ⟨w.heap.size, 1, none⟩) := he 14 (by kernel_rfl)
          have f6 : a.tmps.getD 43 undef = .bool false := he 6 (by kernel_rfl)
          rw [show kindRow _ _ = none from by kernel_rfl] at hf
          have dd := (sact_cells ((hf.bel.block _ (heap_lt HB.out.1)).trans HB.out.1)).1
          refine wpOp_run rfl rfl rfl f6 (fun K hK => ?_)
          go_simp
          exact hK _ _ ⟨_, rfl, rfl, World.grownBy.refl _ _⟩
        · intro a w' hf he
          have f13 : a.tmps.getD 50 undef = sv := he 13 (by kernel_rfl)
          have f15 : a.tmps.getD 52 undef = .slice B nb cb := he 15 (by kernel_rfl)
          have f6 : a.tmps.getD 43 undef = .bool false := he 6 (by kernel_rfl)
          rw [show kindRow _ _ = none from by kernel_rfl] at hf
          refine wpOp_run rfl rfl rfl f6 (fun K hK => ?_)
          go_simp
          refine (c_Send_none (V.out.bel hf.bel) B nb cb).mono ?_
          rintro e w9 ⟨rfl, rfl⟩
          exact hK _ _ ⟨_, rfl, rfl, World.grownBy.refl _ _⟩
        · intro a w' hf he
          have f16 : a.tmps.getD 53 undef = .slice none 0 0 := he 16 (by kernel_rfl)
          have f6 : a.tmps.getD 43 undef = .bool false := he 6 (by kernel_rfl)
          refine wpOp_run rfl rfl rfl f6 (fun K hK => ?_)
          go_simp
          exact hK _ _ ⟨_, rfl, rfl, World.grownBy.refl _ _⟩
        · intro a w' hf he
          have f12 : a.tmps.getD 49 undef = .int .i64 0 := he 12 (by kernel_rfl)
          have f17 : a.tmps.getD 54 undef = .int .i64 0 := he 17 (by kernel_rfl)
          have f6 : a.tmps.getD 43 undef = .bool false := he 6 (by kernel_rfl)
          refine wpOp_run rfl rfl rfl f6 (fun K hK => ?_)
          go_simp
          exact hK _ _ ⟨_, rfl, rfl, World.grownBy.refl _ _⟩
        · intro a w' hf he
          have k5 : a.tmps.getD 5 undef = sv := hf.var (by kernel_rfl) rfl
          have f6 : a.tmps.getD 43 undef = .bool false := he 6 (by kernel_rfl)
          refine wpOp_run rfl rfl rfl f6 (fun K hK => ?_)
          go_simp
          exact hK _ _ ⟨_, rfl, rfl, World.grownBy.refl _ _⟩
        · intro a w' hf he
          have f19 : a.tmps.getD 56 undef = sv := he 19 (by kernel_rfl)
          have f6 : a.tmps.getD 43 undef = .bool false := he 6 (by kernel_rfl)
          rw [show kindRow _ _ = none from by kernel_rfl] at hf
          refine wpOp_run rfl rfl rfl f6 (fun K hK => ?_)
          go_simp
          refine (c_Tick_none (V.out.bel hf.bel)).mono ?_
          rintro e w9 ⟨rfl, rfl⟩
          exact hK _ _ ⟨_, rfl, rfl, World.grownBy.refl _ _⟩
        · intro a w' hf he
          have f20 : a.tmps.getD 57 undef = .slice none 0 0 := he 20 (by kernel_rfl)
          have f6 : a.tmps.getD 43 undef = .bool false := he 6 (by kernel_rfl)
          refine wpOp_run rfl rfl rfl f6 (fun K hK => ?_)
          go_simp
          exact hK _ _ ⟨_, rfl, rfl, World.grownBy.refl _ _⟩
        · intro a w' hf he
          have f18 : a.tmps.getD 55 undef = .int .i64 0 := he 18 (by kernel_rfl)
          have f21 : a.tmps.getD 58 undef = .int .i64 0 := he 21 (by kernel_rfl)
          have f6 : a.tmps.getD 43 undef = .bool false := he 6 (by kernel_rfl)
          refine wpOp_run rfl rfl rfl f6 (fun K hK => ?_)
          go_simp
          exact hK _ _ ⟨_, rfl, rfl, World.grownBy.refl _ _⟩
        · intro a w' hf he
          have f22 : a.tmps.getD 59 undef = .int .i64 0 := he 22 (by kernel_rfl)
          have f6 : a.tmps.getD 43 undef = .bool false := he 6 (by kernel_rfl)
          refine wpOp_run rfl rfl rfl f6 (fun K hK => ?_)
          go_simp
          exact hK _ _ ⟨_, rfl, rfl, World.grownBy.refl _ _⟩
        · intro a w' hf he
          have f6 : a.tmps.getD 43 undef = .bool false := he 6 (by kernel_rfl)
          have f23 : a.tmps.getD 60 undef = .bool false := he 23 (by kernel_rfl)
          refine wpOp_step rfl (fun K hK => ?_)
          go_simp
          exact hK _ _ ⟨_, rfl, rfl, World.grownBy.refl _ _⟩
        · intro a w' hf he
          have f24 : a.tmps.getD 61 undef = .bool false := he 24 (by kernel_rfl)
          refine wpOp_step rfl (fun K hK => ?_)
          go_simp
          exact hK _ _ ⟨_, rfl, rfl, World.grownBy.refl _ _⟩
        · intro a w' hf he
          have k5 : a.tmps.getD 5 undef = sv := hf.var (by kernel_rfl) rfl
          have f25 : a.tmps.getD 62 undef = .bool false := he 25 (by kernel_rfl)
          refine wpOp_run rfl rfl rfl f25 (fun K hK => ?_)
          go_simp
          exact hK _ _ ⟨_, rfl, rfl, World.grownBy.refl _ _⟩
        · intro a w' hf he
          have f26 : a.tmps.getD 63 undef = sv := he 26 (by kernel_rfl)
          have f25 : a.tmps.getD 62 undef = .bool false := he 25 (by kernel_rfl)
          rw [show kindRow _ _ = none from by kernel_rfl] at hf
          refine wpOp_run rfl rfl rfl f25 (fun K hK => ?_)
          go_simp
          refine (c_My_none (V.out.bel hf.bel)).mono ?_
          rintro e w9 ⟨rfl, rfl⟩
          exact hK _ _ ⟨_, rfl, rfl, World.grownBy.refl _ _⟩
        · intro a w' hf he
          have f27 : a.tmps.getD 64 undef = .int .u32 0 := he 27 (by kernel_rfl)
          have f25 : a.tmps.getD 62 undef = .bool false := he 25 (by kernel_rfl)
          refine wpOp_run rfl rfl rfl f25 (fun K hK => ?_)
          go_simp
          exact hK _ _ ⟨_, rfl, rfl, World.grownBy.refl _ _⟩
        · intro a w' hf he
          have f25 : a.tmps.getD 62 undef = .bool false := he 25 (by kernel_rfl)
          have f28 : a.tmps.getD 65 undef = .bool false := he 28 (by kernel_rfl)
          refine wpOp_step rfl (fun K hK => ?_)
          go_simp
          exact hK _ _ ⟨_, rfl, rfl, World.grownBy.refl _ _⟩
        · intro a w' hf he
          have f29 : a.tmps.getD 66 undef = .bool false := he 29 (by kernel_rfl)
          refine wpOp_step rfl (fun K hK => ?_)
          go_simp
          exact hK _ _ ⟨_, rfl, rfl, World.grownBy.refl _ _⟩
        · intro a w' hf he
          have k5 : a.tmps.getD 5 undef = sv := hf.var (by kernel_rfl) rfl
          have f30 : a.tmps.getD 67 undef = .bool false := he 30 (by kernel_rfl)
          refine wpOp_run rfl rfl rfl f30 (fun K hK => ?_)
          go_simp
          exact hK _ _ ⟨_, rfl, rfl, World.grownBy.refl _ _⟩
        · intro a w' hf he
          have f31 : a.tmps.getD 68 undef = sv := he 31 (by kernel_rfl)
          have f30 : a.tmps.getD 67 undef = .bool false := he 30 (by kernel_rfl)
          rw [show kindRow _ _ = none from by kernel_rfl] at hf
          refine wpOp_run rfl rfl rfl f30 (fun K hK => ?_)
          go_simp
          refine (c_Peer_none (V.out.bel hf.bel)).mono ?_
          rintro e w9 ⟨rfl, rfl⟩
          exact hK _ _ ⟨_, rfl, rfl, World.grownBy.refl _ _⟩
        · intro a w' hf he
          have f32 : a.tmps.getD 69 undef = .int .u32 0 := he 32 (by kernel_rfl)
          have f30 : a.tmps.getD 67 undef = .bool false := he 30 (by kernel_rfl)
          refine wpOp_run rfl rfl rfl f30 (fun K hK => ?_)
          go_simp
          exact hK _ _ ⟨_, rfl, rfl, World.grownBy.refl _ _⟩
        · intro a w' hf he
          have f30 : a.tmps.getD 67 undef = .bool false := he 30 (by kernel_rfl)
          have f33 : a.tmps.getD 70 undef = .bool false := he 33 (by kernel_rfl)
          refine wpOp_step rfl (fun K hK => ?_)
          go_simp
          exact hK _ _ ⟨_, rfl, rfl, World.grownBy.refl _ _⟩
        · intro a w' hf he
          have f34 : a.tmps.getD 71 undef = .bool false := he 34 (by kernel_rfl)
          refine wpOp_step rfl (fun K hK => ?_)
          go_simp
          exact hK _ _ ⟨_, rfl, rfl, World.grownBy.refl _ _⟩
        · intro a w' hf he
          have k5 : a.tmps.getD 5 undef = sv := hf.var (by kernel_rfl) rfl
          have f35 : a.tmps.getD 72 undef = .bool false := he 35 (by kernel_rfl)
          refine wpOp_run rfl rfl rfl f35 (fun K hK => ?_)
          go_simp
          exact hK _ _ ⟨_, rfl, rfl, World.grownBy.refl _ _⟩
        · intro a w' hf he
          have f36 : a.tmps.getD 73 undef = sv := he 36 (by kernel_rfl)
          have f35 : a.tmps.getD 72 undef = .bool false := he 35 (by kernel_rfl)
          rw [show kindRow _ _ = none from by kernel_rfl] at hf
          refine wpOp_run rfl rfl rfl f35 (fun K hK => ?_)
          go_simp
          refine (c_Alive_none (V.out.bel hf.bel)).mono ?_
          rintro e w9 ⟨rfl, rfl⟩
          exact hK _ _ ⟨_, rfl, rfl, World.grownBy.refl _ _⟩
        · intro a w' hf he
          have f35 : a.tmps.getD 72 undef = .bool false := he 35 (by kernel_rfl)
          have f37 : a.tmps.getD 74 undef = .bool false := he 37 (by kernel_rfl)
          refine wpOp_step rfl (fun K hK => ?_)
          go_simp
          exact hK _ _ ⟨_, rfl, rfl, World.grownBy.refl _ _⟩
        · intro a w' hf he
          have f38 : a.tmps.getD 75 undef = .bool false := he 38 (by kernel_rfl)
          refine wpOp_step rfl (fun K hK => ?_)
          go_simp
          exact hK _ _ ⟨_, rfl, rfl, World.grownBy.refl _ _⟩
        · intro a w' hf he
          have k5 : a.tmps.getD 5 undef = sv := hf.var (by kernel_rfl) rfl
          have f39 : a.tmps.getD 76 undef = .bool false := he 39 (by kernel_rfl)
          refine wpOp_run rfl rfl rfl f39 (fun K hK => ?_)
          go_simp
          exact hK _ _ ⟨_, rfl, rfl, World.grownBy.refl _ _⟩
        · intro a w' hf he
          have f40 : a.tmps.getD 77 undef = sv := he 40 (by kernel_rfl)
          have f39 : a.tmps.getD 76 undef = .bool false := he 39 (by kernel_rfl)
          rw [show kindRow _ _ = none from by kernel_rfl] at hf
          refine wpOp_run rfl rfl rfl f39 (fun K hK => ?_)
          go_simp
          refine (c_Full_none (V.out.bel hf.bel)).mono ?_
          rintro e w9 ⟨rfl, rfl⟩
          exact hK _ _ ⟨_, rfl, rfl, World.grownBy.refl _ _⟩
        · intro a w' hf he
          have f39 : a.tmps.getD 76 undef = .bool false := he 39 (by kernel_rfl)
          have f41 : a.tmps.getD 78 undef = .bool false := he 41 (by kernel_rfl)
          refine wpOp_step rfl (fun K hK => ?_)
          go_simp
          exact hK _ _ ⟨_, rfl, rfl, World.grownBy.refl _ _⟩
        · intro a w' hf he
          have f42 : a.tmps.getD 79 undef = .bool false := he 42 (by kernel_rfl)
          refine wpOp_step rfl (fun K hK => ?_)
          go_simp
          exact hK _ _ ⟨_, rfl, rfl, World.grownBy.refl _ _⟩
        · intro a w' hf he
          have k5 : a.tmps.getD 5 undef = sv := hf.var (by kernel_rfl) rfl
          have f43 : a.tmps.getD 80 undef = .bool false := he 43 (by kernel_rfl)
          refine wpOp_run rfl rfl rfl f43 (fun K hK => ?_)
          go_simp
          exact hK _ _ ⟨_, rfl, rfl, World.grownBy.refl _ _⟩
        · intro a w' hf he
          have f44 : a.tmps.getD 81 undef = sv := he 44 (by kernel_rfl)
          have f43 : a.tmps.getD 80 undef = .bool false := he 43 (by kernel_rfl)
          rw [show kindRow _ _ = none from by kernel_rfl] at hf
          refine wpOp_run rfl rfl rfl f43 (fun K hK => ?_)
          go_simp
          refine (c_Len_none (V.out.bel hf.bel)).mono ?_
          rintro e w9 ⟨rfl, rfl⟩
          exact hK _ _ ⟨_, rfl, rfl, World.grownBy.refl _ _⟩
        · intro a w' hf he
          have f45 : a.tmps.getD 82 undef = .int .i64 0 := he 45 (by kernel_rfl)
          have f43 : a.tmps.getD 80 undef = .bool false := he 43 (by kernel_rfl)
          refine wpOp_run rfl rfl rfl f43 (fun K hK => ?_)
          go_simp
          exact hK _ _ ⟨_, rfl, rfl, World.grownBy.refl _ _⟩
        · intro a w' hf he
          have f43 : a.tmps.getD 80 undef = .bool false := he 43 (by kernel_rfl)
          have f46 : a.tmps.getD 83 undef = .bool false := he 46 (by kernel_rfl)
          refine wpOp_step rfl (fun K hK => ?_)
          go_simp
          exact hK _ _ ⟨_, rfl, rfl, World.grownBy.refl _ _⟩
      · intro a w' hf he
        obtain ⟨u37, f0⟩ : ∃ u, a.tmps.getD 37 undef = u := ⟨_, rfl⟩
        obtain ⟨u38, f1⟩ : ∃ u, a.tmps.getD 38 undef = u := ⟨_, rfl⟩
        obtain ⟨u39, f2⟩ : ∃ u, a.tmps.getD 39 undef = u := ⟨_, rfl⟩
        obtain ⟨u40, f3⟩ : ∃ u, a.tmps.getD 40 undef = u := ⟨_, rfl⟩
        obtain ⟨u41, f4⟩ : ∃ u, a.tmps.getD 41 undef = u := ⟨_, rfl⟩
        obtain ⟨u42, f5⟩ : ∃ u, a.tmps.getD 42 undef = u := ⟨_, rfl⟩
        obtain ⟨u43, f6⟩ : ∃ u, a.tmps.getD 43 undef = u := ⟨_, rfl⟩
        obtain ⟨u44, f7⟩ : ∃ u, a.tmps.getD 44 undef = u := ⟨_, rfl⟩
        obtain ⟨u45, f8⟩ : ∃ u, a.tmps.getD 45 undef = u := ⟨_, rfl⟩
        obtain ⟨u46, f9⟩ : ∃ u, a.tmps.getD 46 undef = u := ⟨_, rfl⟩
        obtain ⟨u47, f10⟩ : ∃ u, a.tmps.getD 47 undef = u := ⟨_, rfl⟩
        obtain ⟨u48, f11⟩ : ∃ u, a.tmps.getD 48 undef = u := ⟨_, rfl⟩
        obtain ⟨u49, f12⟩ : ∃ u, a.tmps.getD 49 undef = u := ⟨_, rfl⟩
        obtain ⟨u50, f13⟩ : ∃ u, a.tmps.getD 50 undef = u := ⟨_, rfl⟩
        obtain ⟨u51, f14⟩ : ∃ u, a.tmps.getD 51 undef = u := ⟨_, rfl⟩
        obtain ⟨u52, f15⟩ : ∃ u, a.tmps.getD 52 undef = u := ⟨_, rfl⟩
        obtain ⟨u53, f16⟩ : ∃ u, a.tmps.getD 53 undef = u := ⟨_, rfl⟩
        obtain ⟨u54, f17⟩ : ∃ u, a.tmps.getD 54 undef = u := ⟨_, rfl⟩
        obtain ⟨u55, f18⟩ : ∃ u, a.tmps.getD 55 undef = u := ⟨_, rfl⟩
        obtain ⟨u56, f19⟩ : ∃ u, a.tmps.getD 56 undef = u := ⟨_, rfl⟩
        obtain ⟨u57, f20⟩ : ∃ u, a.tmps.getD 57 undef = u := ⟨_, rfl⟩
        obtain ⟨u58, f21⟩ : ∃ u, a.tmps.getD 58 undef = u := ⟨_, rfl⟩
        obtain ⟨u59, f22⟩ : ∃ u, a.tmps.getD 59 undef = u := ⟨_, rfl⟩
        obtain ⟨u60, f23⟩ : ∃ u, a.tmps.getD 60 undef = u := ⟨_, rfl⟩
        obtain ⟨u61, f24⟩ : ∃ u, a.tmps.getD 61 undef = u := ⟨_, rfl⟩
        obtain ⟨u62, f25⟩ : ∃ u, a.tmps.getD 62 undef = u := ⟨_, rfl⟩
        obtain ⟨u63, f26⟩ : ∃ u, a.tmps.getD 63 undef = u := ⟨_, rfl⟩
        obtain ⟨u64, f27⟩ : ∃ u, a.tmps.getD 64 undef = u := ⟨_, rfl⟩
        obtain ⟨u65, f28⟩ : ∃ u, a.tmps.getD 65 undef = u := ⟨_, rfl⟩
        obtain ⟨u66, f29⟩ : ∃ u, a.tmps.getD 66 undef = u := ⟨_, rfl⟩
        obtain ⟨u67, f30⟩ : ∃ u, a.tmps.getD 67 undef = u := ⟨_, rfl⟩
        obtain ⟨u68, f31⟩ : ∃ u, a.tmps.getD 68 undef = u := ⟨_, rfl⟩
        obtain ⟨u69, f32⟩ : ∃ u, a.tmps.getD 69 undef = u := ⟨_, rfl⟩
        obtain ⟨u70, f33⟩ : ∃ u, a.tmps.getD 70 undef = u := ⟨_, rfl⟩
        obtain ⟨u71, f34⟩ : ∃ u, a.tmps.getD 71 undef = u := ⟨_, rfl⟩
        obtain ⟨u72, f35⟩ : ∃ u, a.tmps.getD 72 undef = u := ⟨_, rfl⟩
        obtain ⟨u73, f36⟩ : ∃ u, a.tmps.getD 73 undef = u := ⟨_, rfl⟩
        obtain ⟨u74, f37⟩ : ∃ u, a.tmps.getD 74 undef = u := ⟨_, rfl⟩
        obtain ⟨u75, f38⟩ : ∃ u, a.tmps.getD 75 undef = u := ⟨_, rfl⟩
        obtain ⟨u76, f39⟩ : ∃ u, a.tmps.getD 76 undef = u := ⟨_, rfl⟩
        obtain ⟨u77, f40⟩ : ∃ u, a.tmps.getD 77 undef = u := ⟨_, rfl⟩
        obtain ⟨u78, f41⟩ : ∃ u, a.tmps.getD 78 undef = u := ⟨_, rfl⟩
        obtain ⟨u79, f42⟩ : ∃ u, a.tmps.getD 79 undef = u := ⟨_, rfl⟩
        obtain ⟨u80, f43⟩ : ∃ u, a.tmps.getD 80 undef = u := ⟨_, rfl⟩
        obtain ⟨u81, f44⟩ : ∃ u, a.tmps.getD 81 undef = u := ⟨_, rfl⟩
        obtain ⟨u82, f45⟩ : ∃ u, a.tmps.getD 82 undef = u := ⟨_, rfl⟩
        obtain ⟨u83, f46⟩ : ∃ u, a.tmps.getD 83 undef = u := ⟨_, rfl⟩
        have f47 : a.tmps.getD 84 undef = .bool false := he 47 (by decide)
        have hlit := hf.lit ((37, u37) :: (38, u38) :: (39, u39) :: (40, u40) :: (41, u41) :: (42, u42) :: (43, u43) :: (44, u44) :: (45, u45) :: (46, u46) :: (47, u47) :: (48, u48) :: (49, u49) :: (50, u50) :: (51, u51) :: (52, u52) :: (53, u53) :: (54, u54) :: (55, u55) :: (56, u56) :: (57, u57) :: (58, u58) :: (59, u59) :: (60, u60) :: (61, u61) :: (62, u62) :: (63, u63) :: (64, u64) :: (65, u65) :: (66, u66) :: (67, u67) :: (68, u68) :: (69, u69) :: (70, u70) :: (71, u71) :: (72, u72) :: (73, u73) :: (74, u74) :: (75, u75) :: (76, u76) :: (77, u77) :: (78, u78) :: (79, u79) :: (80, u80) :: (81, u81) :: (82, u82) :: (83, u83) :: (84, .bool false) :: []) (by kernel_rfl) ⟨f0, f1, f2, f3, f4, f5, f6, f7, f8, f9, f10, f11, f12, f13, f14, f15, f16, f17, f18, f19, f20, f21, f22, f23, f24, f25, f26, f27, f28, f29, f30, f31, f32, f33, f34, f35, f36, f37, f38, f39, f40, f41, f42, f43, f44, f45, f46, f47, trivial⟩
        have hB := hf.bel
        clear he hf f0 f1 f2 f3 f4 f5 f6 f7 f8 f9 f10 f11 f12 f13 f14 f15 f16 f17 f18 f19 f20 f21 f22 f23 f24 f25 f26 f27 f28 f29 f30 f31 f32 f33 f34 f35 f36 f37 f38 f39 f40 f41 f42 f43 f44 f45 f46 f47 
        subst hlit
        simp only [putAll_nil, putAll_cons, Act.put, List.setIfInBounds_toArray, List.set_cons_zero, List.set_cons_succ]
        simp only [List.drop_succ_cons, List.drop_zero]
        have HB9 := Lib.hid (HB.out.fr hB)
        clear hB
        go_wp2_with fail
        go_roundw
        case rel => exact ⟨q + 1, by omega, by go_num, HB9⟩
        case measure => simp [intOf] <;> omega
    · obtain rfl : q = 2 := by omega
      go_wp2_with (first
        | (go_at_call 46; (with_reducible refine (c_lives _).mono ?_); rintro e w2 ⟨rfl, hb2⟩))
      go_ret
      exact ⟨rfl, HB.out.2.2.2.trans (hb2.mono HB.out.2.2.2.size)⟩
section
open Go.ChangeShapes Go.WideShapes Go.Deep
variable {H : Type} {enc : TypeId × Value → H} {P : Program} {W : World} {base : Nat} {spare : Nat → Bool} {held : Bool}
def SActL : List Leaf := [.int .i64, .bytes, .int .u32, .int .u32, .int .i64, .int .i64, .int .i64, .bytes]
theorem sact_of {W : World} {r : List Value} (h : RowOk W SActL r) : ∃ (k : Int) (B : Option Addr) (nb cb f t : Nat) (pk ps pa : Int) (A : Option Addr) (n c : Nat) (b : List UInt8), r = sactV k B nb cb f t pk ps pa A n c ∧ f < 4294967296 ∧ t < 4294967296 ∧ Byt W A n c b := by
  obtain ⟨v1, r1, rfl, k1, h⟩ := rowOk_cons h
  obtain ⟨v2, r2, rfl, k2, h⟩ := rowOk_cons h
  obtain ⟨v3, r3, rfl, k3, h⟩ := rowOk_cons h
  obtain ⟨v4, r4, rfl, k4, h⟩ := rowOk_cons h
  obtain ⟨v5, r5, rfl, k5, h⟩ := rowOk_cons h
  obtain ⟨v6, r6, rfl, k6, h⟩ := rowOk_cons h
  obtain ⟨v7, r7, rfl, k7, h⟩ := rowOk_cons h
  obtain ⟨v8, r8, rfl, k8, h⟩ := rowOk_cons h
  obtain rfl := rowOk_nil h
  obtain ⟨z1, rfl, q1⟩ := leaf_i64 k1
  obtain ⟨B, nb, cb, bb, rfl, hbb⟩ := k2
  obtain ⟨z3, rfl, q3⟩ := leaf_u32 k3
  obtain ⟨z4, rfl, q4⟩ := leaf_u32 k4
  obtain ⟨z5, rfl, q5⟩ := leaf_i64 k5
  obtain ⟨z6, rfl, q6⟩ := leaf_i64 k6
  obtain ⟨z7, rfl, q7⟩ := leaf_i64 k7
  obtain ⟨A, n, c, b, rfl, hb⟩ := k8
  exact ⟨z1, B, nb, cb, z3, z4, z5, z6, z7, A, n, c, b, rfl, q3, q4, hb⟩
theorem open_sact {r : Reach} {base2 : Nat} {t : TypeId} {v : Value} {d : DataW H} {ps : List MemPlace} (hL : flat P 6 t = some SActL) (hc : P.cellsOf t = 8) (ht : (P.underlying t).map (·.isRow) = some true)
    (hv : Value.okWide P W r base2 t v) (h : DataW.Trod enc P W base spare held t v d ps) : ∃ (k : Int) (B : Option Addr) (nb cb f t : Nat) (pk ps pa : Int) (A : Option Addr) (n c : Nat) (b : List UInt8), v = .agg (sactV k B nb cb f t pk ps pa A n c).toArray ∧ f < 4294967296 ∧ t < 4294967296 ∧ Byt W A n c b := by
  obtain ⟨cs, rfl, hr⟩ := open_agg 6 hL hc ht hv h
  obtain ⟨k, B, nb, cb, f, t2, pk, ps2, pa, A, n, c, b, rfl, q3, q4, hb⟩ := sact_of hr
  exact ⟨k, B, nb, cb, f, t2, pk, ps2, pa, A, n, c, b, rfl, q3, q4, hb⟩
end
end Go.Proofs.Ytplemdgihlabgaa.Session
