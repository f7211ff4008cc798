/- The law VolumeCuts, walked. Conditions: none. -/
import Derived.Test.YtlfphoablloodaaVolSame
import Derived.Test.YtlfphoablloodaaVolRef
namespace Go.Proofs.Ytlfphoablloodaa.Vol
open Go.RowKit Tw
set_option maxHeartbeats 4000000
set_option maxRecDepth 100000

theorem own_form {w : World} {base : Nat} {e : TypeId} {size n : Nat} {A : Option Addr} {c : Nat} {xs : List Value} (h : Tw.Own w base e size A n c xs) (hn : 0 < n) : ∃ g, A = some ⟨g, 0, none⟩ := by
  rcases h.2 with ⟨hv, h0⟩ | ⟨g, cap, _, hv, _⟩
  · omega
  · injection hv with h1
    exact ⟨g, h1⟩
theorem pc_cells {w : World} {g n c : Nat} {l : List Pc} {k : Nat} {x1 x2 x3 x4 : Nat} (h : Rd w 4 (some ⟨g, 0, none⟩) n c (pcsV l)) (hp : l[k]? = some (x1, x2, x3, x4)) :
    w.cell? ⟨g, k * 4, none⟩ = some (.int .i64 (x1 : Int)) ∧ w.cell? ⟨g, k * 4 + 1, none⟩ = some (.int .i64 (x2 : Int)) ∧ w.cell? ⟨g, k * 4 + 2, none⟩ = some (.int .i64 (x3 : Int)) ∧ w.cell? ⟨g, k * 4 + 3, none⟩ = some (.int .i64 (x4 : Int)) := by
  have key : ∀ j v, (pcV (x1, x2, x3, x4))[j]? = some v → w.cell? ⟨g, k * 4 + j, none⟩ = some v := fun j v hv => by
    have hc := h.cell _ rfl _ _ (pcsV_get hp hv)
    rwa [Addr.add_mid, Nat.zero_add] at hc
  exact ⟨key 0 _ rfl, key 1 _ rfl, key 2 _ rfl, key 3 _ rfl⟩
theorem pc_at {w : World} {g n c : Nat} {l : List Pc} {k : Nat} {p : Pc} (h : Rd w 4 (some ⟨g, 0, none⟩) n c (pcsV l)) (hp : l[k]? = some p) {j : Nat} {v : Value} (hv : (pcV p)[j]? = some v) : w.cell? ((⟨g, k * 4, none⟩ : Addr).add j) = some v := by
  have hc := h.cell _ rfl _ _ (pcsV_get hp hv)
  rw [Addr.add_mid, Nat.zero_add] at hc
  rw [Addr.add_mid]
  exact hc
theorem c_lives (w : World) : Calls Try.prog 40 #[] w fun e w' => e = .returned (.bool true) ∧ Below w.heap.size w w' := by
  have hcut : cut 16 10 10 = ([(0, 2, 10, 20)], 0) := by decide +kernel
  have hco := c_Cut 16 10 10 w (by omega) (by omega) (by omega)
  rw [hcut] at hco
  have Hco := Lib.hid hco
  clear hcut hco
  go_enter Try.func40, Try.ntmps40
  go_wp2_with (first
    | (go_at_call 35
       (with_reducible refine Hco.out.mono ?_)
       rintro e w1 ⟨A1, c1, rfl, h1, hb1⟩
       obtain ⟨g, rfl⟩ := own_form h1 (Nat.zero_lt_one)
       obtain ⟨d0, d1, d2, d3⟩ := pc_cells (k := 0) h1.rd rfl
       simp only [Nat.zero_mul, Nat.zero_add] at d0 d1 d2 d3
       clear h1))
  go_ret
  exact ⟨rfl, hb1⟩

theorem pcs_get {o e k : Nat} {p : Pc} (hp : (pcs o e)[k]? = some p) : place o k < e ∧ p = pc o e (place o k) := by
  have hk : k < num o e := by have := (List.getElem?_eq_some_iff.1 hp).1; rwa [pcs_length] at this
  refine ⟨lt_num.1 hk, ?_⟩
  unfold pcs at hp
  rw [List.getElem?_map, List.getElem?_range hk] at hp
  simpa using hp.symm
theorem cut_good {s o z : Int} {k : Nat} {x1 x2 x3 x4 : Nat} (hp : (cut s o z).1[k]? = some (x1, x2, x3, x4)) : 1 ≤ x2 ∧ x2 ≤ 8 ∧ (x1 : Int) + (x2 : Int) ≤ s ∧ x1 ≤ 256 := by
  unfold cut at hp
  split at hp
  · simp at hp
  · split at hp
    · simp at hp
    · split at hp
      · simp at hp
      · obtain ⟨h1, h2⟩ := pcs_get hp
        unfold place at h1 h2
        simp only [pc, Prod.mk.injEq] at h2
        obtain ⟨rfl, rfl, _, _⟩ := h2
        omega
theorem cut_len (s o z : Int) : (cut s o z).1.length ≤ 32 := by
  unfold cut
  split
  · simp
  · split
    · simp
    · split
      · simp
      · rw [pcs_length]
        exact num_le (by omega)

theorem w_VolumeCuts (s o z : Int) (w : World) (hs : -9223372036854775808 ≤ s ∧ s ≤ 9223372036854775807) (ho : -9223372036854775808 ≤ o ∧ o ≤ 9223372036854775807) (hz : -9223372036854775808 ≤ z ∧ z ≤ 9223372036854775807) :
    Calls Try.prog 6 #[.int .i64 s, .int .i64 o, .int .i64 z] w fun e w' => e = .returned (.bool true) ∧ Below w.heap.size w w' := by
  have Hcut := Lib.hid (fun W => c_Cut s o z W hs ho hz)
  have Hrcut := Lib.hid (fun W => c_rCut s o z W hs ho hz)
  have hgood := Lib.hid (fun (k x1 x2 x3 x4 : Nat) (hp : (cut s o z).1[k]? = some (x1, x2, x3, x4)) => cut_good hp)
  have hlen := cut_len s o z
  generalize (cut s o z).1 = L at *
  generalize (cut s o z).2 = er at *
  obtain ⟨n, hn⟩ : ∃ n, n = L.length := ⟨_, rfl⟩
  rw [← hn] at hlen
  have Hn := Lib.hid hn
  rw [← hn] at Hcut Hrcut
  clear hn hs ho hz
  go_enter Try.func6, Try.ntmps6
  go_wp2_with (first
    | (go_at_call 35
       (with_reducible refine (Hcut.out _).mono ?_)
       rintro e w1 ⟨A1, c1, rfl, h1, hb1⟩)
    | (go_at_call 36
       (with_reducible refine (Hrcut.out _).mono ?_)
       rintro e w2 ⟨A2, c2, rfl, h2, hb2⟩
       have B2 : Below w.heap.size w w2 := hb1.trans (hb2.mono hb1.size)
       have G1 := Tw.Own.bel h1 hb2
       clear h1)
    | (go_at_call 38
       (with_reducible refine (c_Reads _ n _ L _ G1.rd (by omega)).mono ?_)
       rintro e w3 ⟨A3, c3, rfl, h3, hb3⟩
       have B3 : Below w.heap.size w w3 := B2.trans (hb3.mono B2.size)
       have K1 := Tw.Own.bel G1 hb3
       have K2 := Tw.Own.bel h2 hb3
       clear G1 h2)
    | (go_at_call 39
       (with_reducible refine (c_rReads _ n _ L _ K2.rd (by omega)).mono ?_)
       rintro e w4 ⟨A4, c4, rfl, h4, hb4⟩
       have B4 : Below w.heap.size w w4 := B3.trans (hb4.mono B3.size)
       have M1 := Tw.Own.bel K1 hb4
       have M2 := Tw.Own.bel K2 hb4
       have M3 := Tw.Own.bel h3 hb4
       clear K1 K2 h3)
    | (go_at_call 37
       (with_reducible refine (c_same _ _ n _ _ (L.map fun p => (0, p.1, p.2.1, [])) _ (RqIn.of_reads M3 Hn.out.symm) (RqIn.of_reads h4 Hn.out.symm)).mono ?_)
       rintro e w5 ⟨rfl, hb5⟩
       have B5 : Below w.heap.size w w5 := B4.trans (hb5.mono B4.size)
       have N1 := Lib.hid (Tw.Own.bel M1 hb5)
       have N2 := Lib.hid (Tw.Own.bel M2 hb5)
       clear M1 M2 M3 h4))
  clear hb1 hb2 hb3 hb4 hb5 B2 B3 B4 Hcut Hrcut
  have O1 := N1
  have O2 := N2
  have B0 := B5
  clear N1 N2 B5
  go_loopw [46] (fun i wr => ∃ k : Nat, k ≤ n ∧ i = .int .i64 (k : Int) ∧ Hid (Tw.Own wr w.heap.size 58 4 A1 n c1 (pcsV L)) ∧ Hid (Tw.Own wr w1.heap.size 57 4 A2 n c2 (pcsV L)) ∧ Below w.heap.size w wr) (fun i _ => n - (intOf i).toNat)
  case atStart => exact ⟨0, Nat.zero_le _, rfl, O1, O2, B0⟩
  case round =>
    clear O1 O2 B0
    obtain ⟨k, hk, rfl, O1, O2, B0⟩ := hrel
    by_cases hkn : k < n
    · obtain ⟨g1, rfl⟩ := own_form O1.out (by omega)
      obtain ⟨g2, rfl⟩ := own_form O2.out (by omega)
      obtain ⟨⟨x1, x2, x3, x4⟩, hp⟩ : ∃ p, L[k]? = some p := ⟨_, List.getElem?_eq_getElem (by rw [← Hn.out]; exact hkn)⟩
      obtain ⟨q1, q2, q3, q4⟩ := hgood.out k _ _ _ _ hp
      obtain ⟨d0, d1, d2, d3⟩ := pc_cells O1.out.rd hp
      obtain ⟨e0, e1, e2, e3⟩ := pc_cells O2.out.rd hp
      go_wp2_with fail
      have P1 := Lib.hid (fun j v (hv : (pcV (x1, x2, x3, x4))[j]? = some v) => pc_at O1.out.rd hp hv)
      have P2 := Lib.hid (fun j v (hv : (pcV (x1, x2, x3, x4))[j]? = some v) => pc_at O2.out.rd hp hv)
      clear hp e0 e1 e2 e3
      refine wp_region_phi (by kernel_rfl) 44 none (fun _ => false) (fun i_ v wz => match i_ with
        | 0 => v = .slice (some ⟨g1, 0, none⟩) n c1
        | 1 => v = .int .i64 (k : Int)
        | 2 => v = .pointer (some ⟨g1, k * 4, none⟩)
        | 3 => v = .agg #[.int .i64 (x1 : Int), .int .i64 (x2 : Int), .int .i64 (x3 : Int), .int .i64 (x4 : Int)]
        | 4 => v = .slice (some ⟨g2, 0, none⟩) n c2
        | 5 => v = .int .i64 (k : Int)
        | 6 => v = .pointer (some ⟨g2, k * 4, none⟩)
        | 7 => v = .agg #[.int .i64 (x1 : Int), .int .i64 (x2 : Int), .int .i64 (x3 : Int), .int .i64 (x4 : Int)]
        | 8 => v = .bool false
        | 9 => v = .bool false
        | 10 => v = .slice (some ⟨g1, 0, none⟩) n c1
        | 11 => v = .int .i64 (k : Int)
        | 12 => v = .pointer (some ⟨g1, k * 4, none⟩)
        | 13 => v = .pointer (some ⟨g1, k * 4, none⟩)
        | 14 => v = .pointer (some ⟨g1, k * 4 + 1, none⟩)
        | 15 => v = .int .i64 (x2 : Int)
        | 16 => v = .bool false
        | 17 => v = .bool false
        | 18 => v = .bool false
        | 19 => v = .slice (some ⟨g1, 0, none⟩) n c1
        | 20 => v = .int .i64 (k : Int)
        | 21 => v = .pointer (some ⟨g1, k * 4, none⟩)
        | 22 => v = .pointer (some ⟨g1, k * 4, none⟩)
        | 23 => v = .pointer (some ⟨g1, k * 4 + 1, none⟩)
        | 24 => v = .int .i64 (x2 : Int)
        | 25 => v = .bool false
        | 26 => v = .bool false
        | 27 => v = .bool false
        | 28 => v = .slice (some ⟨g1, 0, none⟩) n c1
        | 29 => v = .int .i64 (k : Int)
        | 30 => v = .pointer (some ⟨g1, k * 4, none⟩)
        | 31 => v = .pointer (some ⟨g1, k * 4, none⟩)
        | 32 => v = .pointer (some ⟨g1, k * 4, none⟩)
        | 33 => v = .int .i64 (x1 : Int)
        | 34 => v = .slice (some ⟨g1, 0, none⟩) n c1
        | 35 => v = .int .i64 (k : Int)
        | 36 => v = .pointer (some ⟨g1, k * 4, none⟩)
        | 37 => v = .pointer (some ⟨g1, k * 4, none⟩)
        | 38 => v = .pointer (some ⟨g1, k * 4 + 1, none⟩)
        | 39 => v = .int .i64 (x2 : Int)
        | 40 => v = .int .i64 ((x1 : Int) + (x2 : Int))
        | 41 => v = .int .i64 s
        | 42 => v = .bool false
        | 43 => v = .bool false
        | _ => True) (by kernel_rfl) ?_ ?_ ?_
      · (repeat' (first | exact allLt_zero | refine allLt_succ ?_ ?_))
        · exact fun _ _ _ h _ => h
        · exact fun _ _ _ h _ => h
        · exact fun _ _ _ h _ => h
        · exact fun _ _ _ h _ => h
        · exact fun _ _ _ h _ => h
        · exact fun _ _ _ h _ => h
        · exact fun _ _ _ h _ => h
        · exact fun _ _ _ h _ => h
        · exact fun _ _ _ h _ => h
        · exact fun _ _ _ h _ => h
        · exact fun _ _ _ h _ => h
        · exact fun _ _ _ h _ => h
        · exact fun _ _ _ h _ => h
        · exact fun _ _ _ h _ => h
        · exact fun _ _ _ h _ => h
        · exact fun _ _ _ h _ => h
        · exact fun _ _ _ h _ => h
        · exact fun _ _ _ h _ => h
        · exact fun _ _ _ h _ => h
        · exact fun _ _ _ h _ => h
        · exact fun _ _ _ h _ => h
        · exact fun _ _ _ h _ => h
        · exact fun _ _ _ h _ => h
        · exact fun _ _ _ h _ => h
        · exact fun _ _ _ h _ => h
        · exact fun _ _ _ h _ => h
        · exact fun _ _ _ h _ => h
        · exact fun _ _ _ h _ => h
        · exact fun _ _ _ h _ => h
        · exact fun _ _ _ h _ => h
        · exact fun _ _ _ h _ => h
        · exact fun _ _ _ h _ => h
        · exact fun _ _ _ h _ => h
        · exact fun _ _ _ h _ => h
        · exact fun _ _ _ h _ => h
        · exact fun _ _ _ h _ => h
        · exact fun _ _ _ h _ => h
        · exact fun _ _ _ h _ => h
        · exact fun _ _ _ h _ => h
        · exact fun _ _ _ h _ => h
        · exact fun _ _ _ h _ => h
        · exact fun _ _ _ h _ => h
        · exact fun _ _ _ h _ => h
        · exact fun _ _ _ h _ => h
      · (repeat' (first | exact allLt_zero | refine allLt_succ ?_ ?_))
        · intro a w' hf he
          have k7 : a.tmps.getD 7 undef = .slice (some ⟨g1, 0, none⟩) n c1 := hf.var (by kernel_rfl) rfl
          refine wpOp_step rfl (fun K hK => ?_)
          go_simp
          exact hK _ _ ⟨_, rfl, rfl, World.grownBy.refl _ _⟩
        · intro a w' hf he
          have k11 : a.tmps.getD 11 undef = .int .i64 (k : Int) := hf.var (by kernel_rfl) rfl
          refine wpOp_step rfl (fun K hK => ?_)
          go_simp
          exact hK _ _ ⟨_, rfl, rfl, World.grownBy.refl _ _⟩
        · intro a w' hf he
          have f0 : a.tmps.getD 49 undef = .slice (some ⟨g1, 0, none⟩) n c1 := he 0 (by kernel_rfl)
          have f1 : a.tmps.getD 50 undef = .int .i64 (k : Int) := he 1 (by kernel_rfl)
          refine wpOp_step rfl (fun K hK => ?_)
          go_simp
          exact hK _ _ ⟨_, rfl, rfl, World.grownBy.refl _ _⟩
        · intro a w' hf he
          have f2 : a.tmps.getD 51 undef = .pointer (some ⟨g1, k * 4, none⟩) := he 2 (by kernel_rfl)
          rw [show kindRow _ _ = none from by kernel_rfl] at hf
          refine wpOp_step rfl (fun K hK => ?_)
          refine wp_load_rd 58 (.tmp 51) rfl ⟨g1, k * 4, none⟩ f2 (pcV (x1, x2, x3, x4)) _ (fun j v hv => by have hc := P1.out j v hv; rw [hf.bel.cell (block_lt_of_cell hc)]; exact hc) Try.underlying58 rfl (by kernel_rfl) ?_
          exact hK _ _ ⟨_, rfl, rfl, World.grownBy.refl _ _⟩
        · intro a w' hf he
          have k9 : a.tmps.getD 9 undef = .slice (some ⟨g2, 0, none⟩) n c2 := hf.var (by kernel_rfl) rfl
          refine wpOp_step rfl (fun K hK => ?_)
          go_simp
          exact hK _ _ ⟨_, rfl, rfl, World.grownBy.refl _ _⟩
        · intro a w' hf he
          have k11 : a.tmps.getD 11 undef = .int .i64 (k : Int) := hf.var (by kernel_rfl) rfl
          refine wpOp_step rfl (fun K hK => ?_)
          go_simp
          exact hK _ _ ⟨_, rfl, rfl, World.grownBy.refl _ _⟩
        · intro a w' hf he
          have f4 : a.tmps.getD 53 undef = .slice (some ⟨g2, 0, none⟩) n c2 := he 4 (by kernel_rfl)
          have f5 : a.tmps.getD 54 undef = .int .i64 (k : Int) := he 5 (by kernel_rfl)
          refine wpOp_step rfl (fun K hK => ?_)
          go_simp
          exact hK _ _ ⟨_, rfl, rfl, World.grownBy.refl _ _⟩
        · intro a w' hf he
          have f6 : a.tmps.getD 55 undef = .pointer (some ⟨g2, k * 4, none⟩) := he 6 (by kernel_rfl)
          rw [show kindRow _ _ = none from by kernel_rfl] at hf
          refine wpOp_step rfl (fun K hK => ?_)
          refine wp_load_rd 57 (.tmp 55) rfl ⟨g2, k * 4, none⟩ f6 (pcV (x1, x2, x3, x4)) _ (fun j v hv => by have hc := P2.out j v hv; rw [hf.bel.cell (block_lt_of_cell hc)]; exact hc) Try.underlying57 rfl (by kernel_rfl) ?_
          exact hK _ _ ⟨_, rfl, rfl, World.grownBy.refl _ _⟩
        · intro a w' hf he
          have f3 : a.tmps.getD 52 undef = .agg #[.int .i64 (x1 : Int), .int .i64 (x2 : Int), .int .i64 (x3 : Int), .int .i64 (x4 : Int)] := he 3 (by kernel_rfl)
          have f7 : a.tmps.getD 56 undef = .agg #[.int .i64 (x1 : Int), .int .i64 (x2 : Int), .int .i64 (x3 : Int), .int .i64 (x4 : Int)] := he 7 (by kernel_rfl)
          refine wpOp_step rfl (fun K hK => ?_)
          go_simp
          exact hK _ _ ⟨_, rfl, rfl, World.grownBy.refl _ _⟩
        · intro a w' hf he
          have f8 : a.tmps.getD 57 undef = .bool false := he 8 (by kernel_rfl)
          refine wpOp_step rfl (fun K hK => ?_)
          go_simp
          exact hK _ _ ⟨_, rfl, rfl, World.grownBy.refl _ _⟩
        · intro a w' hf he
          have k7 : a.tmps.getD 7 undef = .slice (some ⟨g1, 0, none⟩) n c1 := hf.var (by kernel_rfl) rfl
          have f9 : a.tmps.getD 58 undef = .bool false := he 9 (by kernel_rfl)
          refine wpOp_run rfl rfl rfl f9 (fun K hK => ?_)
          go_simp
          exact hK _ _ ⟨_, rfl, rfl, World.grownBy.refl _ _⟩
        · intro a w' hf he
          have k11 : a.tmps.getD 11 undef = .int .i64 (k : Int) := hf.var (by kernel_rfl) rfl
          have f9 : a.tmps.getD 58 undef = .bool false := he 9 (by kernel_rfl)
          refine wpOp_run rfl rfl rfl f9 (fun K hK => ?_)
          go_simp
          exact hK _ _ ⟨_, rfl, rfl, World.grownBy.refl _ _⟩
        · intro a w' hf he
          have f10 : a.tmps.getD 59 undef = .slice (some ⟨g1, 0, none⟩) n c1 := he 10 (by kernel_rfl)
          have f11 : a.tmps.getD 60 undef = .int .i64 (k : Int) := he 11 (by kernel_rfl)
          have f9 : a.tmps.getD 58 undef = .bool false := he 9 (by kernel_rfl)
          refine wpOp_run rfl rfl rfl f9 (fun K hK => ?_)
          go_simp
          exact hK _ _ ⟨_, rfl, rfl, World.grownBy.refl _ _⟩
        · intro a w' hf he
          have f12 : a.tmps.getD 61 undef = .pointer (some ⟨g1, k * 4, none⟩) := he 12 (by kernel_rfl)
          have f9 : a.tmps.getD 58 undef = .bool false := he 9 (by kernel_rfl)
          refine wpOp_run rfl rfl rfl f9 (fun K hK => ?_)
          go_simp
          exact hK _ _ ⟨_, rfl, rfl, World.grownBy.refl _ _⟩
        · intro a w' hf he
          have f13 : a.tmps.getD 62 undef = .pointer (some ⟨g1, k * 4, none⟩) := he 13 (by kernel_rfl)
          have f9 : a.tmps.getD 58 undef = .bool false := he 9 (by kernel_rfl)
          refine wpOp_run rfl rfl rfl f9 (fun K hK => ?_)
          go_simp
          exact hK _ _ ⟨_, rfl, rfl, World.grownBy.refl _ _⟩
        · intro a w' hf he
          have f14 : a.tmps.getD 63 undef = .pointer (some ⟨g1, k * 4 + 1, none⟩) := he 14 (by kernel_rfl)
          have f9 : a.tmps.getD 58 undef = .bool false := he 9 (by kernel_rfl)
          rw [show kindRow _ _ = none from by kernel_rfl] at hf
          have dd := (hf.bel.cell (p := ⟨g1, k * 4 + 1, none⟩) (block_lt_of_cell d1)).trans d1
          refine wpOp_run rfl rfl rfl f9 (fun K hK => ?_)
          go_simp
          exact hK _ _ ⟨_, rfl, rfl, World.grownBy.refl _ _⟩
        · intro a w' hf he
          have f15 : a.tmps.getD 64 undef = .int .i64 (x2 : Int) := he 15 (by kernel_rfl)
          have f9 : a.tmps.getD 58 undef = .bool false := he 9 (by kernel_rfl)
          rw [show kindRow _ _ = none from by kernel_rfl] at hf
          refine wpOp_run rfl rfl rfl f9 (fun K hK => ?_)
          go_simp
          rw [decide_eq_false (show ¬ (x2 : Int) < 1 by omega)]
          exact hK _ _ ⟨_, rfl, rfl, World.grownBy.refl _ _⟩
        · intro a w' hf he
          have f9 : a.tmps.getD 58 undef = .bool false := he 9 (by kernel_rfl)
          have f16 : a.tmps.getD 65 undef = .bool false := he 16 (by kernel_rfl)
          refine wpOp_step rfl (fun K hK => ?_)
          go_simp
          exact hK _ _ ⟨_, rfl, rfl, World.grownBy.refl _ _⟩
        · intro a w' hf he
          have f17 : a.tmps.getD 66 undef = .bool false := he 17 (by kernel_rfl)
          refine wpOp_step rfl (fun K hK => ?_)
          go_simp
          exact hK _ _ ⟨_, rfl, rfl, World.grownBy.refl _ _⟩
        · intro a w' hf he
          have k7 : a.tmps.getD 7 undef = .slice (some ⟨g1, 0, none⟩) n c1 := hf.var (by kernel_rfl) rfl
          have f18 : a.tmps.getD 67 undef = .bool false := he 18 (by kernel_rfl)
          refine wpOp_run rfl rfl rfl f18 (fun K hK => ?_)
          go_simp
          exact hK _ _ ⟨_, rfl, rfl, World.grownBy.refl _ _⟩
        · intro a w' hf he
          have k11 : a.tmps.getD 11 undef = .int .i64 (k : Int) := hf.var (by kernel_rfl) rfl
          have f18 : a.tmps.getD 67 undef = .bool false := he 18 (by kernel_rfl)
          refine wpOp_run rfl rfl rfl f18 (fun K hK => ?_)
          go_simp
          exact hK _ _ ⟨_, rfl, rfl, World.grownBy.refl _ _⟩
        · intro a w' hf he
          have f19 : a.tmps.getD 68 undef = .slice (some ⟨g1, 0, none⟩) n c1 := he 19 (by kernel_rfl)
          have f20 : a.tmps.getD 69 undef = .int .i64 (k : Int) := he 20 (by kernel_rfl)
          have f18 : a.tmps.getD 67 undef = .bool false := he 18 (by kernel_rfl)
          refine wpOp_run rfl rfl rfl f18 (fun K hK => ?_)
          go_simp
          exact hK _ _ ⟨_, rfl, rfl, World.grownBy.refl _ _⟩
        · intro a w' hf he
          have f21 : a.tmps.getD 70 undef = .pointer (some ⟨g1, k * 4, none⟩) := he 21 (by kernel_rfl)
          have f18 : a.tmps.getD 67 undef = .bool false := he 18 (by kernel_rfl)
          refine wpOp_run rfl rfl rfl f18 (fun K hK => ?_)
          go_simp
          exact hK _ _ ⟨_, rfl, rfl, World.grownBy.refl _ _⟩
        · intro a w' hf he
          have f22 : a.tmps.getD 71 undef = .pointer (some ⟨g1, k * 4, none⟩) := he 22 (by kernel_rfl)
          have f18 : a.tmps.getD 67 undef = .bool false := he 18 (by kernel_rfl)
          refine wpOp_run rfl rfl rfl f18 (fun K hK => ?_)
          go_simp
          exact hK _ _ ⟨_, rfl, rfl, World.grownBy.refl _ _⟩
        · intro a w' hf he
          have f23 : a.tmps.getD 72 undef = .pointer (some ⟨g1, k * 4 + 1, none⟩) := he 23 (by kernel_rfl)
          have f18 : a.tmps.getD 67 undef = .bool false := he 18 (by kernel_rfl)
          rw [show kindRow _ _ = none from by kernel_rfl] at hf
          have dd := (hf.bel.cell (p := ⟨g1, k * 4 + 1, none⟩) (block_lt_of_cell d1)).trans d1
          refine wpOp_run rfl rfl rfl f18 (fun K hK => ?_)
          go_simp
          exact hK _ _ ⟨_, rfl, rfl, World.grownBy.refl _ _⟩
        · intro a w' hf he
          have f24 : a.tmps.getD 73 undef = .int .i64 (x2 : Int) := he 24 (by kernel_rfl)
          have f18 : a.tmps.getD 67 undef = .bool false := he 18 (by kernel_rfl)
          rw [show kindRow _ _ = none from by kernel_rfl] at hf
          refine wpOp_run rfl rfl rfl f18 (fun K hK => ?_)
          go_simp
          rw [decide_eq_false (show ¬ 8 < (x2 : Int) by omega)]
          exact hK _ _ ⟨_, rfl, rfl, World.grownBy.refl _ _⟩
        · intro a w' hf he
          have f18 : a.tmps.getD 67 undef = .bool false := he 18 (by kernel_rfl)
          have f25 : a.tmps.getD 74 undef = .bool false := he 25 (by kernel_rfl)
          refine wpOp_step rfl (fun K hK => ?_)
          go_simp
          exact hK _ _ ⟨_, rfl, rfl, World.grownBy.refl _ _⟩
        · intro a w' hf he
          have f26 : a.tmps.getD 75 undef = .bool false := he 26 (by kernel_rfl)
          refine wpOp_step rfl (fun K hK => ?_)
          go_simp
          exact hK _ _ ⟨_, rfl, rfl, World.grownBy.refl _ _⟩
        · intro a w' hf he
          have k7 : a.tmps.getD 7 undef = .slice (some ⟨g1, 0, none⟩) n c1 := hf.var (by kernel_rfl) rfl
          have f27 : a.tmps.getD 76 undef = .bool false := he 27 (by kernel_rfl)
          refine wpOp_run rfl rfl rfl f27 (fun K hK => ?_)
          go_simp
          exact hK _ _ ⟨_, rfl, rfl, World.grownBy.refl _ _⟩
        · intro a w' hf he
          have k11 : a.tmps.getD 11 undef = .int .i64 (k : Int) := hf.var (by kernel_rfl) rfl
          have f27 : a.tmps.getD 76 undef = .bool false := he 27 (by kernel_rfl)
          refine wpOp_run rfl rfl rfl f27 (fun K hK => ?_)
          go_simp
          exact hK _ _ ⟨_, rfl, rfl, World.grownBy.refl _ _⟩
        · intro a w' hf he
          have f28 : a.tmps.getD 77 undef = .slice (some ⟨g1, 0, none⟩) n c1 := he 28 (by kernel_rfl)
          have f29 : a.tmps.getD 78 undef = .int .i64 (k : Int) := he 29 (by kernel_rfl)
          have f27 : a.tmps.getD 76 undef = .bool false := he 27 (by kernel_rfl)
          refine wpOp_run rfl rfl rfl f27 (fun K hK => ?_)
          go_simp
          exact hK _ _ ⟨_, rfl, rfl, World.grownBy.refl _ _⟩
        · intro a w' hf he
          have f30 : a.tmps.getD 79 undef = .pointer (some ⟨g1, k * 4, none⟩) := he 30 (by kernel_rfl)
          have f27 : a.tmps.getD 76 undef = .bool false := he 27 (by kernel_rfl)
          refine wpOp_run rfl rfl rfl f27 (fun K hK => ?_)
          go_simp
          exact hK _ _ ⟨_, rfl, rfl, World.grownBy.refl _ _⟩
        · intro a w' hf he
          have f31 : a.tmps.getD 80 undef = .pointer (some ⟨g1, k * 4, none⟩) := he 31 (by kernel_rfl)
          have f27 : a.tmps.getD 76 undef = .bool false := he 27 (by kernel_rfl)
          refine wpOp_run rfl rfl rfl f27 (fun K hK => ?_)
          go_simp
          exact hK _ _ ⟨_, rfl, rfl, World.grownBy.refl _ _⟩
        · intro a w' hf he
          have f32 : a.tmps.getD 81 undef = .pointer (some ⟨g1, k * 4, none⟩) := he 32 (by kernel_rfl)
          have f27 : a.tmps.getD 76 undef = .bool false := he 27 (by kernel_rfl)
          rw [show kindRow _ _ = none from by kernel_rfl] at hf
          have dd := (hf.bel.cell (p := ⟨g1, k * 4, none⟩) (block_lt_of_cell d0)).trans d0
          refine wpOp_run rfl rfl rfl f27 (fun K hK => ?_)
          go_simp
          exact hK _ _ ⟨_, rfl, rfl, World.grownBy.refl _ _⟩
        · intro a w' hf he
          have k7 : a.tmps.getD 7 undef = .slice (some ⟨g1, 0, none⟩) n c1 := hf.var (by kernel_rfl) rfl
          have f27 : a.tmps.getD 76 undef = .bool false := he 27 (by kernel_rfl)
          refine wpOp_run rfl rfl rfl f27 (fun K hK => ?_)
          go_simp
          exact hK _ _ ⟨_, rfl, rfl, World.grownBy.refl _ _⟩
        · intro a w' hf he
          have k11 : a.tmps.getD 11 undef = .int .i64 (k : Int) := hf.var (by kernel_rfl) rfl
          have f27 : a.tmps.getD 76 undef = .bool false := he 27 (by kernel_rfl)
          refine wpOp_run rfl rfl rfl f27 (fun K hK => ?_)
          go_simp
          exact hK _ _ ⟨_, rfl, rfl, World.grownBy.refl _ _⟩
        · intro a w' hf he
          have f34 : a.tmps.getD 83 undef = .slice (some ⟨g1, 0, none⟩) n c1 := he 34 (by kernel_rfl)
          have f35 : a.tmps.getD 84 undef = .int .i64 (k : Int) := he 35 (by kernel_rfl)
          have f27 : a.tmps.getD 76 undef = .bool false := he 27 (by kernel_rfl)
          refine wpOp_run rfl rfl rfl f27 (fun K hK => ?_)
          go_simp
          exact hK _ _ ⟨_, rfl, rfl, World.grownBy.refl _ _⟩
        · intro a w' hf he
          have f36 : a.tmps.getD 85 undef = .pointer (some ⟨g1, k * 4, none⟩) := he 36 (by kernel_rfl)
          have f27 : a.tmps.getD 76 undef = .bool false := he 27 (by kernel_rfl)
          refine wpOp_run rfl rfl rfl f27 (fun K hK => ?_)
          go_simp
          exact hK _ _ ⟨_, rfl, rfl, World.grownBy.refl _ _⟩
        · intro a w' hf he
          have f37 : a.tmps.getD 86 undef = .pointer (some ⟨g1, k * 4, none⟩) := he 37 (by kernel_rfl)
          have f27 : a.tmps.getD 76 undef = .bool false := he 27 (by kernel_rfl)
          refine wpOp_run rfl rfl rfl f27 (fun K hK => ?_)
          go_simp
          exact hK _ _ ⟨_, rfl, rfl, World.grownBy.refl _ _⟩
        · intro a w' hf he
          have f38 : a.tmps.getD 87 undef = .pointer (some ⟨g1, k * 4 + 1, none⟩) := he 38 (by kernel_rfl)
          have f27 : a.tmps.getD 76 undef = .bool false := he 27 (by kernel_rfl)
          rw [show kindRow _ _ = none from by kernel_rfl] at hf
          have dd := (hf.bel.cell (p := ⟨g1, k * 4 + 1, none⟩) (block_lt_of_cell d1)).trans d1
          refine wpOp_run rfl rfl rfl f27 (fun K hK => ?_)
          go_simp
          exact hK _ _ ⟨_, rfl, rfl, World.grownBy.refl _ _⟩
        · intro a w' hf he
          have f33 : a.tmps.getD 82 undef = .int .i64 (x1 : Int) := he 33 (by kernel_rfl)
          have f39 : a.tmps.getD 88 undef = .int .i64 (x2 : Int) := he 39 (by kernel_rfl)
          have f27 : a.tmps.getD 76 undef = .bool false := he 27 (by kernel_rfl)
          rw [show kindRow _ _ = none from by kernel_rfl] at hf
          refine wpOp_run rfl rfl rfl f27 (fun K hK => ?_)
          go_simp
          rw [show IntKind.i64.wrap ((x1 : Int) + (x2 : Int)) = (x1 : Int) + (x2 : Int) from by rw [IntKind.wrap_i64]; omega]
          exact hK _ _ ⟨_, rfl, rfl, World.grownBy.refl _ _⟩
        · intro a w' hf he
          have k0 : a.tmps.getD 0 undef = .int .i64 s := hf.var (by kernel_rfl) rfl
          have f27 : a.tmps.getD 76 undef = .bool false := he 27 (by kernel_rfl)
          refine wpOp_run rfl rfl rfl f27 (fun K hK => ?_)
          go_simp
          exact hK _ _ ⟨_, rfl, rfl, World.grownBy.refl _ _⟩
        · intro a w' hf he
          have f40 : a.tmps.getD 89 undef = .int .i64 ((x1 : Int) + (x2 : Int)) := he 40 (by kernel_rfl)
          have f41 : a.tmps.getD 90 undef = .int .i64 s := he 41 (by kernel_rfl)
          have f27 : a.tmps.getD 76 undef = .bool false := he 27 (by kernel_rfl)
          rw [show kindRow _ _ = none from by kernel_rfl] at hf
          refine wpOp_run rfl rfl rfl f27 (fun K hK => ?_)
          go_simp
          rw [decide_eq_false (show ¬ s < (x1 : Int) + (x2 : Int) by omega)]
          exact hK _ _ ⟨_, rfl, rfl, World.grownBy.refl _ _⟩
        · intro a w' hf he
          have f27 : a.tmps.getD 76 undef = .bool false := he 27 (by kernel_rfl)
          have f42 : a.tmps.getD 91 undef = .bool false := he 42 (by kernel_rfl)
          refine wpOp_step rfl (fun K hK => ?_)
          go_simp
          exact hK _ _ ⟨_, rfl, rfl, World.grownBy.refl _ _⟩
      · intro a w' hf he
        obtain ⟨u49, f0⟩ : ∃ u, a.tmps.getD 49 undef = u := ⟨_, rfl⟩
        obtain ⟨u50, f1⟩ : ∃ u, a.tmps.getD 50 undef = u := ⟨_, rfl⟩
        obtain ⟨u51, f2⟩ : ∃ u, a.tmps.getD 51 undef = u := ⟨_, rfl⟩
        obtain ⟨u52, f3⟩ : ∃ u, a.tmps.getD 52 undef = u := ⟨_, rfl⟩
        obtain ⟨u53, f4⟩ : ∃ u, a.tmps.getD 53 undef = u := ⟨_, rfl⟩
        obtain ⟨u54, f5⟩ : ∃ u, a.tmps.getD 54 undef = u := ⟨_, rfl⟩
        obtain ⟨u55, f6⟩ : ∃ u, a.tmps.getD 55 undef = u := ⟨_, rfl⟩
        obtain ⟨u56, f7⟩ : ∃ u, a.tmps.getD 56 undef = u := ⟨_, rfl⟩
        obtain ⟨u57, f8⟩ : ∃ u, a.tmps.getD 57 undef = u := ⟨_, rfl⟩
        obtain ⟨u58, f9⟩ : ∃ u, a.tmps.getD 58 undef = u := ⟨_, rfl⟩
        obtain ⟨u59, f10⟩ : ∃ u, a.tmps.getD 59 undef = u := ⟨_, rfl⟩
        obtain ⟨u60, f11⟩ : ∃ u, a.tmps.getD 60 undef = u := ⟨_, rfl⟩
        obtain ⟨u61, f12⟩ : ∃ u, a.tmps.getD 61 undef = u := ⟨_, rfl⟩
        obtain ⟨u62, f13⟩ : ∃ u, a.tmps.getD 62 undef = u := ⟨_, rfl⟩
        obtain ⟨u63, f14⟩ : ∃ u, a.tmps.getD 63 undef = u := ⟨_, rfl⟩
        obtain ⟨u64, f15⟩ : ∃ u, a.tmps.getD 64 undef = u := ⟨_, rfl⟩
        obtain ⟨u65, f16⟩ : ∃ u, a.tmps.getD 65 undef = u := ⟨_, rfl⟩
        obtain ⟨u66, f17⟩ : ∃ u, a.tmps.getD 66 undef = u := ⟨_, rfl⟩
        obtain ⟨u67, f18⟩ : ∃ u, a.tmps.getD 67 undef = u := ⟨_, rfl⟩
        obtain ⟨u68, f19⟩ : ∃ u, a.tmps.getD 68 undef = u := ⟨_, rfl⟩
        obtain ⟨u69, f20⟩ : ∃ u, a.tmps.getD 69 undef = u := ⟨_, rfl⟩
        obtain ⟨u70, f21⟩ : ∃ u, a.tmps.getD 70 undef = u := ⟨_, rfl⟩
        obtain ⟨u71, f22⟩ : ∃ u, a.tmps.getD 71 undef = u := ⟨_, rfl⟩
        obtain ⟨u72, f23⟩ : ∃ u, a.tmps.getD 72 undef = u := ⟨_, rfl⟩
        obtain ⟨u73, f24⟩ : ∃ u, a.tmps.getD 73 undef = u := ⟨_, rfl⟩
        obtain ⟨u74, f25⟩ : ∃ u, a.tmps.getD 74 undef = u := ⟨_, rfl⟩
        obtain ⟨u75, f26⟩ : ∃ u, a.tmps.getD 75 undef = u := ⟨_, rfl⟩
        obtain ⟨u76, f27⟩ : ∃ u, a.tmps.getD 76 undef = u := ⟨_, rfl⟩
        obtain ⟨u77, f28⟩ : ∃ u, a.tmps.getD 77 undef = u := ⟨_, rfl⟩
        obtain ⟨u78, f29⟩ : ∃ u, a.tmps.getD 78 undef = u := ⟨_, rfl⟩
        obtain ⟨u79, f30⟩ : ∃ u, a.tmps.getD 79 undef = u := ⟨_, rfl⟩
        obtain ⟨u80, f31⟩ : ∃ u, a.tmps.getD 80 undef = u := ⟨_, rfl⟩
        obtain ⟨u81, f32⟩ : ∃ u, a.tmps.getD 81 undef = u := ⟨_, rfl⟩
        obtain ⟨u82, f33⟩ : ∃ u, a.tmps.getD 82 undef = u := ⟨_, rfl⟩
        obtain ⟨u83, f34⟩ : ∃ u, a.tmps.getD 83 undef = u := ⟨_, rfl⟩
        obtain ⟨u84, f35⟩ : ∃ u, a.tmps.getD 84 undef = u := ⟨_, rfl⟩
        obtain ⟨u85, f36⟩ : ∃ u, a.tmps.getD 85 undef = u := ⟨_, rfl⟩
        obtain ⟨u86, f37⟩ : ∃ u, a.tmps.getD 86 undef = u := ⟨_, rfl⟩
        obtain ⟨u87, f38⟩ : ∃ u, a.tmps.getD 87 undef = u := ⟨_, rfl⟩
        obtain ⟨u88, f39⟩ : ∃ u, a.tmps.getD 88 undef = u := ⟨_, rfl⟩
        obtain ⟨u89, f40⟩ : ∃ u, a.tmps.getD 89 undef = u := ⟨_, rfl⟩
        obtain ⟨u90, f41⟩ : ∃ u, a.tmps.getD 90 undef = u := ⟨_, rfl⟩
        obtain ⟨u91, f42⟩ : ∃ u, a.tmps.getD 91 undef = u := ⟨_, rfl⟩
        have f43 : a.tmps.getD 92 undef = .bool false := he 43 (by decide)
        have hlit := hf.lit ((49, u49) :: (50, u50) :: (51, u51) :: (52, u52) :: (53, u53) :: (54, u54) :: (55, u55) :: (56, u56) :: (57, u57) :: (58, u58) :: (59, u59) :: (60, u60) :: (61, u61) :: (62, u62) :: (63, u63) :: (64, u64) :: (65, u65) :: (66, u66) :: (67, u67) :: (68, u68) :: (69, u69) :: (70, u70) :: (71, u71) :: (72, u72) :: (73, u73) :: (74, u74) :: (75, u75) :: (76, u76) :: (77, u77) :: (78, u78) :: (79, u79) :: (80, u80) :: (81, u81) :: (82, u82) :: (83, u83) :: (84, u84) :: (85, u85) :: (86, u86) :: (87, u87) :: (88, u88) :: (89, u89) :: (90, u90) :: (91, u91) :: (92, .bool false) :: []) (by kernel_rfl) ⟨f0, f1, f2, f3, f4, f5, f6, f7, f8, f9, f10, f11, f12, f13, f14, f15, f16, f17, f18, f19, f20, f21, f22, f23, f24, f25, f26, f27, f28, f29, f30, f31, f32, f33, f34, f35, f36, f37, f38, f39, f40, f41, f42, f43, trivial⟩
        have hB := hf.bel
        clear he hf f0 f1 f2 f3 f4 f5 f6 f7 f8 f9 f10 f11 f12 f13 f14 f15 f16 f17 f18 f19 f20 f21 f22 f23 f24 f25 f26 f27 f28 f29 f30 f31 f32 f33 f34 f35 f36 f37 f38 f39 f40 f41 f42 f43 
        subst hlit
        simp only [putAll_nil, putAll_cons, Act.put, List.setIfInBounds_toArray, List.set_cons_zero, List.set_cons_succ]
        simp only [List.drop_succ_cons, List.drop_zero]
        have B1 : Below w.heap.size w w' := B0.trans (hB.mono B0.size)
        have O3 := Lib.hid (Tw.Own.bel O1.out hB)
        have O4 := Lib.hid (Tw.Own.bel O2.out hB)
        clear hB O1 O2 B0 P1 P2
        go_wp2_with fail
        go_roundw
        case rel => exact ⟨k + 1, by omega, by go_num, O3, O4, B1⟩
        case measure => simp [intOf] <;> omega
    · go_wp2_with (first
        | (go_at_call 40
           (with_reducible refine (c_lives _).mono ?_)
           rintro e w6 ⟨rfl, hb6⟩))
      go_ret
      exact ⟨rfl, B0.trans (hb6.mono B0.size)⟩
end Go.Proofs.Ytlfphoablloodaa.Vol
