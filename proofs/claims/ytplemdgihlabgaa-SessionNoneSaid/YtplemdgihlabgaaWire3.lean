/- Contracts of the package wire: two, four, Bytes. Conditions: none. -/
import Derived.Test.YtplemdgihlabgaaWire2
set_option linter.unusedVariables false
set_option linter.unusedSimpArgs false
namespace Go.Proofs.Ytplemdgihlabgaa.Wire
open Go.RowKit Tw
set_option maxHeartbeats 8000000
set_option maxRecDepth 100000
/-- the writer at g holds bytes of the call's own -/
structure Wr (w : World) (B g : Nat) (A : Option Addr) (n c : Nat) (b : List UInt8) : Prop where
  blk : w.heap[g]? = some (.cells #[.slice A n c] 252 (0, 0))
  own : Own w B 5 1 A n c (bytesV b)
  ne : g < B ∨ (A = none ∧ n = 0 ∧ c = 0 ∧ b = [])
theorem cellw {w : World} {g : Nat} {t : TypeId} {v : Value} (h : w.heap[g]? = some (.cells #[v] t (0, 0))) : w.cell? ⟨g, 0, none⟩ = some v ∧ w.frozen? ⟨g, 0, none⟩ = false := by
  simp [World.cell?, World.frozen?, h]
theorem fr_set (w : World) (p i : Nat) (v : Value) : Fr (fun k => k = p) w (w.setCell ⟨p, i, none⟩ v) := Fr.setCell (S := fun k => k = p) (p := ⟨p, i, none⟩) rfl v
theorem c_two (g : Nat) (A : Option Addr) (n c : Nat) (b : List UInt8) (x : Int) (N : Nat) (w : World) (h : w.heap[g]? = some (.cells #[.slice A n c] 252 (0, 0))) (hb : Byt w A n c b) (hN : n + 2 = N) (hn : N ≤ 2147483648) :
    Calls Try.prog 167 #[.pointer (some ⟨g, 0, none⟩), .int .i64 x] w fun e w' => e = .returned (.tuple #[]) ∧ ∃ A2 c2, w'.heap[g]? = some (.cells #[.slice A2 N c2] 252 (0, 0)) ∧ Own w' w.heap.size 5 1 A2 N c2 (bytesV (b ++ Num.be 2 (x % 65536).toNat)) ∧ Fr (fun k => k = g) w w' := by
  skip
  have hg := heap_lt h
  have HX := Lib.hid h
  have Hb := Lib.hid hb
  obtain ⟨d0, d1⟩ := cellw h
  clear h hb
  go_enter Try.func167, Try.ntmps167
  go_wp2_with (first
    | (go_at_call 207
       (with_reducible refine (Num.c_Put16 A n c b x N _ Hb.out hN hn).mono ?_)
       rintro e w1 ⟨A2, c2, rfl, ho, hb1⟩
       have HX1 := Lib.hid ((hb1.block _ hg).trans HX.out)
       clear d0 d1
       obtain ⟨d0, d1⟩ := cellw HX1.out
       have O1 := Lib.hid ho
       have F1 := Lib.hid (Fr.of_bel (S := fun k => k = g) hb1)
       have hs1 := hb1.size
       clear ho hb1))
  refine bodyPost_end (results_none rfl _ _ _) rfl ?_
  have hf := fr_set w1 g 0 (.slice A2 N c2)
  refine ⟨rfl, A2, c2, ?_, O1.out.fr hf (fun ad e => by have := (O1.out.at0 ad e).1; omega), F1.out.trans hf (fun _ _ e => e)⟩
  rw [heap_setCell_same _ g 0 _ _ _ HX1.out]
  rfl
theorem c_four (g : Nat) (A : Option Addr) (n c : Nat) (b : List UInt8) (X : Int) (x : Nat) (hX : X = (x : Int)) (hx : x < 4294967296) (N : Nat) (w : World) (h : w.heap[g]? = some (.cells #[.slice A n c] 252 (0, 0))) (hb : Byt w A n c b) (hN : n + 4 = N) (hn : N ≤ 2147483648) :
    Calls Try.prog 168 #[.pointer (some ⟨g, 0, none⟩), .int .u32 X] w fun e w' => e = .returned (.tuple #[]) ∧ ∃ A2 c2, w'.heap[g]? = some (.cells #[.slice A2 N c2] 252 (0, 0)) ∧ Own w' w.heap.size 5 1 A2 N c2 (bytesV (b ++ Num.be 4 x)) ∧ Fr (fun k => k = g) w w' := by
  subst hX
  have hg := heap_lt h
  have HX := Lib.hid h
  have Hb := Lib.hid hb
  obtain ⟨d0, d1⟩ := cellw h
  clear h hb
  go_enter Try.func168, Try.ntmps168
  go_wp2_with (first
    | (go_at_call 208
       (with_reducible refine (Num.c_Put32 A n c b _ x N _ Hb.out rfl hx hN hn).mono ?_)
       rintro e w1 ⟨A2, c2, rfl, ho, hb1⟩
       have HX1 := Lib.hid ((hb1.block _ hg).trans HX.out)
       clear d0 d1
       obtain ⟨d0, d1⟩ := cellw HX1.out
       have O1 := Lib.hid ho
       have F1 := Lib.hid (Fr.of_bel (S := fun k => k = g) hb1)
       have hs1 := hb1.size
       clear ho hb1))
  refine bodyPost_end (results_none rfl _ _ _) rfl ?_
  have hf := fr_set w1 g 0 (.slice A2 N c2)
  refine ⟨rfl, A2, c2, ?_, O1.out.fr hf (fun ad e => by have := (O1.out.at0 ad e).1; omega), F1.out.trans hf (fun _ _ e => e)⟩
  rw [heap_setCell_same _ g 0 _ _ _ HX1.out]
  rfl
theorem row_of {A : Option Addr} {n c k : Nat} (h : some k = (Value.slice A n c).ownBlock) : ∃ ad, A = some ad ∧ k = ad.block := by
  cases A with
  | none => simp [Value.ownBlock] at h
  | some ad => exact ⟨ad, rfl, by simpa [Value.ownBlock] using h⟩
theorem own_apart {w : World} {b : Nat} {e : TypeId} {s : Nat} {A : Option Addr} {n c : Nat} {xs : List Value} {row : Option Nat} (h : Own w b e s A n c xs) (hr : ∀ k, some k = row → k < b) : (Value.slice A n c).ownBlock = none ∨ (Value.slice A n c).ownBlock ≠ row := by
  cases A with
  | none => exact .inl rfl
  | some ad =>
    right
    intro he
    have h1 := (h.at0 ad rfl).1
    have h2 := hr ad.block (by rw [← he]; simp [Value.ownBlock])
    omega
/-- what the writer holds behind so many rounds -/
def part (L : List UInt8) (S AA : Nat) : Nat → List UInt8
  | 0 => L
  | 1 => L ++ Num.be 4 S
  | _ => (L ++ Num.be 4 S) ++ Num.be 4 AA
theorem c_BytesO (f t : Nat) (k s a : Int) (A : Option Addr) (n c : Nat) (body : List UInt8) (w : World) (hf : f < 4294967296) (ht : t < 4294967296) (hb : Byt w A n c body) :
    Calls Try.prog 115 #[.agg #[.int .u32 (f : Int), .int .u32 (t : Int), .int .i64 k, .int .i64 s, .int .i64 a, .slice A n c]] w fun e w' => ∃ A2 n2 c2, e = .returned (.slice A2 n2 c2) ∧ Own w' w.heap.size 5 1 A2 n2 c2 (bytesV (bytes f t k s a body)) ∧ Below w.heap.size w w' := by
  have hlen := hb.blen
  have HB := Lib.hid ((Below.refl _ _).alloc (Nat.le_refl w.heap.size) (.cells #[.int .u32 (f : Int), .int .u32 (t : Int), .int .i64 k, .int .i64 s, .int .i64 a, .slice A n c] 92))
  have HX := Lib.hid (heap_alloc_new w (.cells #[.int .u32 (f : Int), .int .u32 (t : Int), .int .i64 k, .int .i64 s, .int .i64 a, .slice A n c] 92))
  have Hb := Lib.hid hb
  have hg := fun w => c_Good f t k s a A n c w
  obtain ⟨k0, k1, k2, k3, k4, k5⟩ := cells6 HX.out
  clear hb
  have hby := bytes_is f t k s a body
  rw [hlen] at hby
  obtain ⟨BY, hBY⟩ : ∃ l, bytes f t k s a body = l := ⟨_, rfl⟩
  rw [hBY] at hby ⊢
  clear hBY
  go_enter Try.func115, Try.ntmps115
  go_upto_region 1 with (fail)
  generalize w.alloc (.cells #[.int .u32 (f : Int), .int .u32 (t : Int), .int .i64 k, .int .i64 s, .int .i64 a, .slice A n c] 92) = W1 at *
  by_cases hgd : Good f t k s a n
  · have hd := Lib.hid (decide_eq_true hgd)
    rw [if_pos hgd] at hby
    obtain ⟨g1, g2, g3, g4, g5, g6⟩ := hgd
    have hk : 1 ≤ k ∧ k ≤ 3 := by omega
    have hn : n ≤ 200 := by omega
    obtain ⟨K, rfl⟩ : ∃ K : Nat, k = (K : Int) := ⟨k.toNat, by omega⟩
    obtain ⟨S, rfl⟩ : ∃ S : Nat, s = (S : Int) := ⟨s.toNat, by omega⟩
    obtain ⟨AA, rfl⟩ : ∃ AA : Nat, a = (AA : Int) := ⟨a.toNat, by omega⟩
    have Hn := Lib.hid hlen
    unfold raw at hby
    rw [hlen] at hby
    simp only [Int.toNat_natCast] at hby
    have Hby := Lib.hid hby
    have hNN : Hid (((23 + (n : Int)) % 65536).toNat = 23 + n) := Lib.hid (by omega)
    have hK3 : K < 256 := by omega
    clear g6 hlen hby
    go_upto_region 5 with (first
      | (go_at_call 153
         (with_reducible refine (hg _).mono ?_)
         rintro e w1 ⟨rfl, hb1⟩
         rw [hd.out]
         have HB1 := Lib.hid (HB.out.trans (hb1.mono HB.out.size))
         have hx1 := (hb1.block _ (heap_lt HX.out)).trans HX.out
         have HB2 := Lib.hid (bel_alloc HB1.out HB1.out.size (.cells #[.slice none 0 0] 252))
         have HW := Lib.hid (heap_alloc_new w1 (.cells #[.slice none 0 0] 252))
         have HX := Lib.hid ((Below.heap_alloc w1 (.cells #[.slice none 0 0] 252) _ (heap_lt hx1)).trans hx1)
         have hg1 := heap_lt hx1
         clear k0 k1 k2 k3 k4 k5
         obtain ⟨k0, k1, k2, k3, k4, k5⟩ := cells6 HX.out
         clear hb1 hg hx1))
    obtain ⟨g, hge⟩ : ∃ g, w1.heap.size = g := ⟨_, rfl⟩
    have hgs : g < (w1.alloc (.cells #[.slice none 0 0] 252)).heap.size := by rw [World.size_alloc]; omega
    rw [hge] at HW hg1 ⊢
    clear hge HB1
    generalize w1.alloc (.cells #[.slice none 0 0] 252) = W2 at *
    go_upto_region 8 with (first
      | (go_at_call 167
         (with_reducible refine (c_two g none 0 0 [] (23 + (n : Int)) 2 _ HW.out Rd.nil_ rfl (by omega)).mono ?_)
         rintro e w3 ⟨rfl, A3, c3, hw3, ho3, f3⟩
         have HX := Lib.hid (heap_fr HX.out f3 (by omega))
         have HB3 := Lib.hid (HB2.out.trans (f3.bel (fun k e => by omega) HB2.out.size))
         have HW3 := Lib.hid hw3
         have O3 := Lib.hid ho3
         have HS3 := Lib.hid f3.size
         clear k0 k1 k2 k3 k4 k5
         obtain ⟨k0, k1, k2, k3, k4, k5⟩ := cells6 HX.out
         clear hw3 ho3 f3)
      | (go_at_call 168
         (with_reducible refine (c_four g A3 2 c3 _ _ f rfl hf 6 _ HW3.out O3.out.rd rfl (by omega)).mono ?_)
         rintro e w4 ⟨rfl, A4, c4, hw4, ho4, f4⟩
         have HX := Lib.hid (heap_fr HX.out f4 (by omega))
         have HB4 := Lib.hid (HB3.out.trans (f4.bel (fun k e => by omega) HB3.out.size))
         have HW4 := Lib.hid hw4
         have O4 := Lib.hid ho4
         have HS4 := Lib.hid f4.size
         clear k0 k1 k2 k3 k4 k5
         obtain ⟨k0, k1, k2, k3, k4, k5⟩ := cells6 HX.out
         clear hw4 ho4 f4)
      | (go_at_call 168
         (with_reducible refine (c_four g A4 6 c4 _ _ t rfl ht 10 _ HW4.out O4.out.rd rfl (by omega)).mono ?_)
         rintro e w5 ⟨rfl, A5, c5, hw5, ho5, f5⟩
         have HX := Lib.hid (heap_fr HX.out f5 (by omega))
         have HB5 := Lib.hid (HB4.out.trans (f5.bel (fun k e => by omega) HB4.out.size))
         have HW5 := Lib.hid hw5
         have O5 := Lib.hid ho5
         have HS5 := Lib.hid f5.size
         clear k0 k1 k2 k3 k4 k5
         obtain ⟨k0, k1, k2, k3, k4, k5⟩ := cells6 HX.out
         clear hw5 ho5 f5)
      | fail)
    have hO5 := O5.out
    rw [hNN.out, List.nil_append] at hO5
    have O5 := Lib.hid hO5
    have hrow : ∀ k, some k = (Value.slice A5 10 c5).ownBlock → k < w5.heap.size := by
      intro k hk
      obtain ⟨ad, hA, rfl⟩ := row_of hk
      exact (O5.out.at0 ad hA).2
    have hkk : Hid (IntKind.u8.wrap (K : Int) = (K : Int)) := Lib.hid (by rw [IntKind.wrap_u8]; omega)
    have hgw : g < w4.heap.size := by have := HS3.out; have := HS4.out; omega
    clear k0 k1 k2 k3 k4 k5 hO5
    obtain ⟨d0, d1⟩ := cellw HW5.out
    have k2 := (cells6 HX.out).2.2.1
    refine wp_region_phi (by kernel_rfl) 12 ((Value.slice A5 10 c5).ownBlock) (fun i_ => match i_ with | 9 => true | _ => false) (fun i_ v wz => match i_ with
      | 0 => v = .pointer (some ⟨g, 0, none⟩)
      | 1 => v = .pointer (some ⟨g, 0, none⟩)
      | 2 => v = .pointer (some ⟨g, 0, none⟩)
      | 3 => v = .pointer (some ⟨g, 0, none⟩)
      | 4 => v = .slice A5 10 c5
      | 5 => v = .pointer (some ⟨w.heap.size, 2, none⟩)
      | 6 => v = .int .i64 (K : Int)
      | 7 => v = .int .u8 (K : Int)
      | 8 => ∃ g8, v = .slice (some ⟨g8, 0, none⟩) 1 1 ∧ w5.heap.size ≤ g8 ∧ Own wz w5.heap.size 5 1 (some ⟨g8, 0, none⟩) 1 1 [.int .u8 (K : Int)]
      | 9 => ∃ A6 c6, v = .slice A6 11 c6 ∧ Own wz w4.heap.size 5 1 A6 11 c6 (bytesV (((Num.be 2 (23 + n) ++ Num.be 4 f) ++ Num.be 4 t) ++ [UInt8.ofNat K]))
      | 10 => v = .pointer (some ⟨g, 0, none⟩)
      | 11 => v = .pointer (some ⟨g, 0, none⟩)
      | _ => True) (by kernel_rfl) ?_ ?_ ?_
    · (repeat' (first | exact allLt_zero | refine allLt_succ ?_ ?_))
      · exact fun _ _ _ h _ => h
      · exact fun _ _ _ h _ => h
      · exact fun _ _ _ h _ => h
      · exact fun _ _ _ h _ => h
      · exact fun _ _ _ h _ => h
      · exact fun _ _ _ h _ => h
      · exact fun _ _ _ h _ => h
      · exact fun _ _ _ h _ => h
      · intro v w1 w2 h hg
        rw [show kindRow _ _ = ((Value.slice A5 10 c5).ownBlock) from by kernel_rfl] at hg
        obtain ⟨g8, rfl, hg0, hr⟩ := h
        exact ⟨g8, rfl, hg0, hr.kept hg (own_apart hr hrow)⟩
      · intro v w1 w2 h hg
        rw [show kindRow _ _ = none from by kernel_rfl] at hg
        obtain ⟨A6, c6, rfl, hr⟩ := h
        exact ⟨A6, c6, rfl, hr.bel (bel_grown hg)⟩
      · exact fun _ _ _ h _ => h
      · exact fun _ _ _ h _ => h
    · (repeat' (first | exact allLt_zero | refine allLt_succ ?_ ?_))
      · intro a w' hf he
        have k3 : a.tmps.getD 3 undef = .pointer (some ⟨g, 0, none⟩) := hf.var (by kernel_rfl) rfl
        refine wpOp_step rfl (fun K hK => ?_)
        go_simp
        exact hK _ _ ⟨_, rfl, rfl, World.grownBy.refl _ _⟩
      · intro a w' hf he
        have k3 : a.tmps.getD 3 undef = .pointer (some ⟨g, 0, none⟩) := hf.var (by kernel_rfl) rfl
        refine wpOp_step rfl (fun K hK => ?_)
        go_simp
        exact hK _ _ ⟨_, rfl, rfl, World.grownBy.refl _ _⟩
      · intro a w' hf he
        have f1 : a.tmps.getD 32 undef = .pointer (some ⟨g, 0, none⟩) := he 1 (by kernel_rfl)
        refine wpOp_step rfl (fun K hK => ?_)
        go_simp
        exact hK _ _ ⟨_, rfl, rfl, World.grownBy.refl _ _⟩
      · intro a w' hf he
        have f2 : a.tmps.getD 33 undef = .pointer (some ⟨g, 0, none⟩) := he 2 (by kernel_rfl)
        refine wpOp_step rfl (fun K hK => ?_)
        go_simp
        exact hK _ _ ⟨_, rfl, rfl, World.grownBy.refl _ _⟩
      · intro a w' hf he
        have f3 : a.tmps.getD 34 undef = .pointer (some ⟨g, 0, none⟩) := he 3 (by kernel_rfl)
        rw [show kindRow _ _ = none from by kernel_rfl] at hf
        have q := hf.bel.cell (p := ⟨g, 0, none⟩) (heap_lt HW5.out)
        rw [d0] at q
        refine wpOp_step rfl (fun K hK => ?_)
        go_simp
        exact hK _ _ ⟨_, rfl, rfl, World.grownBy.refl _ _⟩
      · intro a w' hf he
        have k1 : a.tmps.getD 1 undef = .pointer (some ⟨w.heap.size, 0, none⟩) := hf.var (by kernel_rfl) rfl
        refine wpOp_step rfl (fun K hK => ?_)
        go_simp
        exact hK _ _ ⟨_, rfl, rfl, World.grownBy.refl _ _⟩
      · intro a w' hf he
        have f5 : a.tmps.getD 36 undef = .pointer (some ⟨w.heap.size, 2, none⟩) := he 5 (by kernel_rfl)
        rw [show kindRow _ _ = none from by kernel_rfl] at hf
        have q := hf.bel.cell (p := ⟨w.heap.size, 2, none⟩) (heap_lt HX.out)
        rw [k2] at q
        refine wpOp_step rfl (fun K hK => ?_)
        go_simp
        exact hK _ _ ⟨_, rfl, rfl, World.grownBy.refl _ _⟩
      · intro a w' hf he
        have f6 : a.tmps.getD 37 undef = .int .i64 (K : Int) := he 6 (by kernel_rfl)
        rw [show kindRow _ _ = none from by kernel_rfl] at hf
        refine wpOp_step rfl (fun K hK => ?_)
        go_simp
        rw [hkk.out]
        exact hK _ _ ⟨_, rfl, rfl, World.grownBy.refl _ _⟩
      · intro a w' hf he
        have f7 : a.tmps.getD 38 undef = .int .u8 (K : Int) := he 7 (by kernel_rfl)
        have e7 : a.tmps[38]?.getD undef = _ := Array.getD_eq_getD_getElem? .. ▸ f7
        rw [show kindRow _ _ = none from by kernel_rfl] at hf
        refine wpOp_step rfl (fun K hK => ?_)
        go_simp
        exact hK _ _ ⟨_, rfl, ⟨_, rfl, hf.bel.size, own_lit w' _ _ 1 _ 1 hf.bel.size (by simp [maxLen]) (by simp)⟩, World.grownBy_alloc _ _ _⟩
      · intro a w' hf he
        have f4 : a.tmps.getD 35 undef = .slice A5 10 c5 := he 4 (by kernel_rfl)
        obtain ⟨g8, hv8, hg8, hr8⟩ := he 8 (by kernel_rfl)
        have f8 : a.tmps.getD 39 undef = _ := hv8
        rw [show kindRow _ _ = none from by kernel_rfl] at hf
        refine wpOp_step rfl (fun K hK => ?_)
        rw [if_pos (by rfl)]
        refine wp_append_in w' (.tmp 35) (.tmp 39) 62 rfl w4.heap.size (Nat.le_trans HS5.out hf.bel.size) 5 _ 1 1 Try.underlying62 Num.info_u8 rfl (by omega) A5 10 c5 _ f4 (.inl (O5.out.fr (S := fun _ => False) (Fr.of_bel hf.bel) (fun _ _ h => h))) _ 1 1 _ f8 hr8.rd (by simp [Value.oneCell']) (by omega) 11 _ rfl (one_byte hK3 _) (by unfold maxLen; omega) (by omega) ?_
        intro A2 c2 w2 hown2 hg2 ho2
        exact hK _ _ ⟨_, rfl, ⟨A2, c2, rfl, hown2⟩, hg2⟩
      · intro a w' hf he
        have f0 : a.tmps.getD 31 undef = .pointer (some ⟨g, 0, none⟩) := he 0 (by kernel_rfl)
        refine wpOp_step rfl (fun K hK => ?_)
        go_simp
        exact hK _ _ ⟨_, rfl, rfl, World.grownBy.refl _ _⟩
      · intro a w' hf he
        have f10 : a.tmps.getD 41 undef = .pointer (some ⟨g, 0, none⟩) := he 10 (by kernel_rfl)
        refine wpOp_step rfl (fun K hK => ?_)
        go_simp
        exact hK _ _ ⟨_, rfl, rfl, World.grownBy.refl _ _⟩
    · intro a w' hf he
      obtain ⟨u31, f0⟩ : ∃ u, a.tmps.getD 31 undef = u := ⟨_, rfl⟩
      obtain ⟨u32, f1⟩ : ∃ u, a.tmps.getD 32 undef = u := ⟨_, rfl⟩
      obtain ⟨u33, f2⟩ : ∃ u, a.tmps.getD 33 undef = u := ⟨_, rfl⟩
      obtain ⟨u34, f3⟩ : ∃ u, a.tmps.getD 34 undef = u := ⟨_, rfl⟩
      obtain ⟨u35, f4⟩ : ∃ u, a.tmps.getD 35 undef = u := ⟨_, rfl⟩
      obtain ⟨u36, f5⟩ : ∃ u, a.tmps.getD 36 undef = u := ⟨_, rfl⟩
      obtain ⟨u37, f6⟩ : ∃ u, a.tmps.getD 37 undef = u := ⟨_, rfl⟩
      obtain ⟨u38, f7⟩ : ∃ u, a.tmps.getD 38 undef = u := ⟨_, rfl⟩
      obtain ⟨u39, f8⟩ : ∃ u, a.tmps.getD 39 undef = u := ⟨_, rfl⟩
      obtain ⟨A9, c9, hv9, hr9⟩ := he 9 (by decide)
      have f9 : a.tmps.getD 40 undef = _ := hv9
      obtain ⟨u41, f10⟩ : ∃ u, a.tmps.getD 41 undef = u := ⟨_, rfl⟩
      have f11 : a.tmps.getD 42 undef = .pointer (some ⟨g, 0, none⟩) := he 11 (by decide)
      have hlit := hf.lit ((31, u31) :: (32, u32) :: (33, u33) :: (34, u34) :: (35, u35) :: (36, u36) :: (37, u37) :: (38, u38) :: (39, u39) :: (40, _) :: (41, u41) :: (42, .pointer (some ⟨g, 0, none⟩)) :: []) (by kernel_rfl) ⟨f0, f1, f2, f3, f4, f5, f6, f7, f8, f9, f10, f11, trivial⟩
      have hB := hf.grown
      clear he hf f0 f1 f2 f3 f4 f5 f6 f7 f8 f9 f10 f11 hv9
      subst hlit
      simp only [putAll_nil, putAll_cons, Act.put, List.setIfInBounds_toArray, List.set_cons_zero, List.set_cons_succ]
      simp only [List.drop_succ_cons, List.drop_zero]
      have F0 : Fr (fun k => w4.heap.size ≤ k) w5 w5.drew := ⟨rfl, rfl, rfl, Nat.le_refl _, fun _ _ _ => rfl⟩
      have F6 : Fr (fun k => w4.heap.size ≤ k) w5 w' := F0.trans (Fr.grown (S := fun k => w4.heap.size ≤ k) hB (fun k e => by
        obtain ⟨ad, hA, rfl⟩ := row_of e
        exact (O5.out.at0 ad hA).1)) (fun _ _ e => e)
      have hw6 := heap_fr HW5.out F6 (by omega)
      have hx6 := heap_fr HX.out F6 (by omega)
      have HX := Lib.hid hx6
      have HB6 := Lib.hid (HB5.out.trans (F6.bel (fun k e => by omega) HB5.out.size))
      have O6 := Lib.hid (Tw.Own.mono hr9 (show g + 1 ≤ w4.heap.size from hgw))
      clear d0 d1 k2 hB hr9 F0 F6 hrow hx6
      obtain ⟨d0, d1⟩ := cellw hw6
      go_upto_region 9 with (fail)
      have hw7 := heap_setCell_same w' g 0 _ _ (.slice A9 11 c9) hw6
      have f7 := fr_set w' g 0 (.slice A9 11 c9)
      have HW7 : Hid ((w'.setCell ⟨g, 0, none⟩ (.slice A9 11 c9)).heap[g]? = some (.cells #[.slice A9 11 c9] 252 (0, 0))) := Lib.hid (by rw [hw7]; rfl)
      have HX := Lib.hid (heap_fr HX.out f7 (by omega))
      have HB7 := Lib.hid (HB6.out.trans (f7.bel (fun k e => by omega) HB6.out.size))
      have O7 := Lib.hid (O6.out.fr f7 (fun ad e => by have := (O6.out.at0 ad e).1; omega))
      clear d0 d1 hw6 hw7 f7
      generalize w'.setCell ⟨g, 0, none⟩ (.slice A9 11 c9) = W7 at *
      obtain ⟨k0, k1, k2, k3, k4, k5⟩ := cells6 HX.out
      go_wp2_with fail
      obtain ⟨L, hL⟩ : ∃ L, (((Num.be 2 (23 + n) ++ Num.be 4 f) ++ Num.be 4 t) ++ [UInt8.ofNat K]) = L := ⟨_, rfl⟩
      rw [hL] at O7
      have HL := Lib.hid hL
      clear hL k0 k1 k2 k3 k4 k5
      go_loopw [48] (fun i wr => ∃ (j : Nat) (A' : Option Addr) (c' : Nat), j ≤ 2 ∧ i = .int .i64 (j : Int) ∧ Hid (wr.heap[g]? = some (.cells #[.slice A' (11 + 4 * j) c'] 252 (0, 0))) ∧ Hid (Own wr (g + 1) 5 1 A' (11 + 4 * j) c' (bytesV (part L S AA j))) ∧ Hid (wr.heap[w.heap.size]? = some (.cells #[.int .u32 (f : Int), .int .u32 (t : Int), .int .i64 (K : Int), .int .i64 (S : Int), .int .i64 (AA : Int), .slice A n c] 92 (0, 0))) ∧ Hid (Below w.heap.size w wr)) (fun i _ => 2 - (intOf i).toNat)
      case atStart => exact ⟨0, A9, c9, by omega, rfl, HW7, O7, HX, HB7⟩
      case round =>
        obtain ⟨j, A', c', hj, rfl, HW8, O8, HX8, HB8⟩ := hrel
        have h3 : j = 0 ∨ j = 1 ∨ j = 2 := by omega
        rcases h3 with rfl | rfl | rfl
        · have HW9 : Hid (wr.heap[g]? = some (.cells #[.slice A' 11 c'] 252 (0, 0))) := HW8
          have O9 : Hid (Own wr (g + 1) 5 1 A' 11 c' (bytesV (part L S AA 0))) := O8
          have hgz := heap_lt HW9.out
          clear HW8 O8
          go_wp2_with fail
          rename_i K' hK'
          refine hK' (Act.put _ (some 50) (.int .i64 (S : Int))) _ ?_
          go_wp2_with (first
            | (go_at_call 168
               (with_reducible refine (c_four g A' 11 c' _ _ S rfl (by omega) 15 _ HW9.out O9.out.rd rfl (by omega)).mono ?_)
               rintro e w9 ⟨rfl, A9, c9, hw9, ho9, f9⟩
               have HX9 := Lib.hid (heap_fr HX8.out f9 (by omega))
               have HB9 := Lib.hid (HB8.out.trans (f9.bel (fun k e => by omega) HB8.out.size))
               have HW10 := Lib.hid hw9
               have O10 := Lib.hid (Tw.Own.mono ho9 (show g + 1 ≤ wr.heap.size from hgz))
               clear hw9 ho9 f9)
            | (simp only [hsz]))
          go_roundw
          case rel => exact ⟨1, _, _, by omega, by go_num, HW10, O10, HX9, HB9⟩
          case measure => simp [intOf] <;> omega
        · have HW9 : Hid (wr.heap[g]? = some (.cells #[.slice A' 15 c'] 252 (0, 0))) := HW8
          have O9 : Hid (Own wr (g + 1) 5 1 A' 15 c' (bytesV (part L S AA 1))) := O8
          have hgz := heap_lt HW9.out
          clear HW8 O8
          go_wp2_with fail
          rename_i K' hK'
          refine hK' (Act.put _ (some 50) (.int .i64 (AA : Int))) _ ?_
          go_wp2_with (first
            | (go_at_call 168
               (with_reducible refine (c_four g A' 15 c' _ _ AA rfl (by omega) 19 _ HW9.out O9.out.rd rfl (by omega)).mono ?_)
               rintro e w9 ⟨rfl, A9, c9, hw9, ho9, f9⟩
               have HX9 := Lib.hid (heap_fr HX8.out f9 (by omega))
               have HB9 := Lib.hid (HB8.out.trans (f9.bel (fun k e => by omega) HB8.out.size))
               have HW10 := Lib.hid hw9
               have O10 := Lib.hid (Tw.Own.mono ho9 (show g + 1 ≤ wr.heap.size from hgz))
               clear hw9 ho9 f9)
            | (simp only [hsz]))
          go_roundw
          case rel => exact ⟨2, _, _, by omega, by go_num, HW10, O10, HX9, HB9⟩
          case measure => simp [intOf] <;> omega
        · have HW9 : Hid (wr.heap[g]? = some (.cells #[.slice A' 19 c'] 252 (0, 0))) := HW8
          have O9 : Hid (Own wr (g + 1) 5 1 A' 19 c' (bytesV ((L ++ Num.be 4 S) ++ Num.be 4 AA))) := O8
          clear HW8 O8
          go_wp2_with fail
          obtain ⟨d0, d1⟩ := cellw HW9.out
          have k5 := (cells6 HX8.out).2.2.2.2.2
          refine wp_region_phi (by kernel_rfl) 6 none (fun _ => false) (fun i_ v wz => match i_ with
            | 0 => v = .pointer (some ⟨g, 0, none⟩)
            | 1 => v = .pointer (some ⟨g, 0, none⟩)
            | 2 => v = .pointer (some ⟨g, 0, none⟩)
            | 3 => v = .slice A' 19 c'
            | 4 => v = .pointer (some ⟨w.heap.size, 5, none⟩)
            | 5 => v = .slice A n c
            | _ => True) (by kernel_rfl) ?_ ?_ ?_
          · (repeat' (first | exact allLt_zero | refine allLt_succ ?_ ?_))
            · exact fun _ _ _ h _ => h
            · exact fun _ _ _ h _ => h
            · exact fun _ _ _ h _ => h
            · exact fun _ _ _ h _ => h
            · exact fun _ _ _ h _ => h
            · exact fun _ _ _ h _ => h
          · (repeat' (first | exact allLt_zero | refine allLt_succ ?_ ?_))
            · intro a w' hf he
              have k3 : a.tmps.getD 3 undef = .pointer (some ⟨g, 0, none⟩) := hf.var (by kernel_rfl) rfl
              refine wpOp_step rfl (fun K hK => ?_)
              go_simp
              exact hK _ _ ⟨_, rfl, rfl, World.grownBy.refl _ _⟩
            · intro a w' hf he
              have f0 : a.tmps.getD 56 undef = .pointer (some ⟨g, 0, none⟩) := he 0 (by kernel_rfl)
              refine wpOp_step rfl (fun K hK => ?_)
              go_simp
              exact hK _ _ ⟨_, rfl, rfl, World.grownBy.refl _ _⟩
            · intro a w' hf he
              have f1 : a.tmps.getD 57 undef = .pointer (some ⟨g, 0, none⟩) := he 1 (by kernel_rfl)
              refine wpOp_step rfl (fun K hK => ?_)
              go_simp
              exact hK _ _ ⟨_, rfl, rfl, World.grownBy.refl _ _⟩
            · intro a w' hf he
              have f2 : a.tmps.getD 58 undef = .pointer (some ⟨g, 0, none⟩) := he 2 (by kernel_rfl)
              rw [show kindRow _ _ = none from by kernel_rfl] at hf
              have q := hf.bel.cell (p := ⟨g, 0, none⟩) (heap_lt HW9.out)
              rw [d0] at q
              refine wpOp_step rfl (fun K hK => ?_)
              go_simp
              exact hK _ _ ⟨_, rfl, rfl, World.grownBy.refl _ _⟩
            · intro a w' hf he
              have k1 : a.tmps.getD 1 undef = .pointer (some ⟨w.heap.size, 0, none⟩) := hf.var (by kernel_rfl) rfl
              refine wpOp_step rfl (fun K hK => ?_)
              go_simp
              exact hK _ _ ⟨_, rfl, rfl, World.grownBy.refl _ _⟩
            · intro a w' hf he
              have f4 : a.tmps.getD 60 undef = .pointer (some ⟨w.heap.size, 5, none⟩) := he 4 (by kernel_rfl)
              rw [show kindRow _ _ = none from by kernel_rfl] at hf
              have q := hf.bel.cell (p := ⟨w.heap.size, 5, none⟩) (heap_lt HX8.out)
              rw [k5] at q
              refine wpOp_step rfl (fun K hK => ?_)
              go_simp
              exact hK _ _ ⟨_, rfl, rfl, World.grownBy.refl _ _⟩
          · intro a w' hf he
            obtain ⟨u56, f0⟩ : ∃ u, a.tmps.getD 56 undef = u := ⟨_, rfl⟩
            obtain ⟨u57, f1⟩ : ∃ u, a.tmps.getD 57 undef = u := ⟨_, rfl⟩
            obtain ⟨u58, f2⟩ : ∃ u, a.tmps.getD 58 undef = u := ⟨_, rfl⟩
            have f3 : a.tmps.getD 59 undef = .slice A' 19 c' := he 3 (by decide)
            obtain ⟨u60, f4⟩ : ∃ u, a.tmps.getD 60 undef = u := ⟨_, rfl⟩
            have f5 : a.tmps.getD 61 undef = .slice A n c := he 5 (by decide)
            have hlit := hf.lit ((56, u56) :: (57, u57) :: (58, u58) :: (59, .slice A' 19 c') :: (60, u60) :: (61, .slice A n c) :: []) (by kernel_rfl) ⟨f0, f1, f2, f3, f4, f5, trivial⟩
            have hB := hf.bel
            clear he hf f0 f1 f2 f3 f4 f5 
            subst hlit
            simp only [putAll_nil, putAll_cons, Act.put, List.setIfInBounds_toArray, List.set_cons_zero, List.set_cons_succ]
            simp only [List.drop_succ_cons, List.drop_zero]
            have HB9 := Lib.hid (HB8.out.trans (hB.mono HB8.out.size))
            have O10 := Lib.hid (Tw.Own.mono (Tw.Own.bel O9.out hB) (show w.heap.size ≤ g + 1 by omega))
            clear hB d0 d1 k5
            refine wpL_append _ rfl (.tmp 59) (.tmp 61) _ rfl w w.heap.size HB9.out HB9.out.size 5 _ 1 1 Try.underlying62 Num.info_u8 rfl (by omega) _ _ _ _ rfl O10.out _ _ _ _ rfl (Hb.out.bel HB9.out) bytesV_one (19 + n) _ rfl (bytesV_append _ _).symm (by unfold maxLen; omega) (by omega) ?_
            intro A11 c11 w11 ho11 hb11 hg11 hl11
            have HB11 := Lib.hid hb11
            have O11 := Lib.hid ho11.rd
            clear ho11 hb11 hg11 hl11
            go_wp2_with (first
              | (go_at_call 169
                 (with_reducible refine (Seal.c_Put A11 (19 + n) c11 _ _ O11.out (by omega)).mono ?_)
                 rintro e w12 ⟨A12, c12, rfl, ho12, hb12⟩
                 have HB12 := Lib.hid (HB11.out.trans (hb12.mono HB11.out.size))
                 have O12 := Lib.hid (Tw.Own.mono ho12 HB11.out.size)
                 clear ho12 hb12))
            go_ret
            rw [Hby.out, HL.out]
            exact ⟨A12, _, c12, rfl, O12.out, HB12.out⟩
  · have hd := Lib.hid (decide_eq_false hgd)
    rw [if_neg hgd] at hby
    have Hby := Lib.hid hby
    clear hgd hby
    go_wp2_with (first
      | (go_at_call 153
         (with_reducible refine (hg _).mono ?_)
         rintro e w1 ⟨rfl, hb1⟩
         rw [hd.out]
         have HB1 := Lib.hid (HB.out.trans (hb1.mono HB.out.size))
         clear hb1 hg))
    go_ret
    rw [Hby.out]
    exact ⟨none, 0, 0, rfl, ⟨by simp [bytesV], .inl ⟨rfl, rfl⟩⟩, HB1.out⟩
theorem c_Bytes (f t : Nat) (k s a : Int) (A : Option Addr) (n c : Nat) (body : List UInt8) (w : World) (hf : f < 4294967296) (ht : t < 4294967296) (hb : Byt w A n c body) :
    Calls Try.prog 115 #[.agg #[.int .u32 (f : Int), .int .u32 (t : Int), .int .i64 k, .int .i64 s, .int .i64 a, .slice A n c]] w fun e w' => ∃ A2 n2 c2, e = .returned (.slice A2 n2 c2) ∧ Byt w' A2 n2 c2 (bytes f t k s a body) ∧ Below w.heap.size w w' :=
  (c_BytesO f t k s a A n c body w hf ht hb).mono fun e w' ⟨A2, n2, c2, he, ho, hB⟩ => ⟨A2, n2, c2, he, ho.rd, hB⟩
end Go.Proofs.Ytplemdgihlabgaa.Wire
