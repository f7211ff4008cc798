/- The law TableApart: lives, and the walk. Conditions: none. -/
import Derived.Test.YtlfphoablloodaaTable4
namespace Go.Proofs.Ytlfphoablloodaa.Table
open Go.RowKit Tw Go.Maps Go.ChangeMaps
set_option maxHeartbeats 2000000
set_option maxRecDepth 100000

theorem Tab.kept {w w' : World} {tb mb : Nat} {most : Int} {n : Nat} {D : DataW Value} (h : Tab w tb mb most n D) {row : Nat} (hg : w.grownBy w' (some row)) (h1 : tb ≠ row) (h2 : mb ≠ row) : Tab w' tb mb most n D :=
  ⟨heap_grown h.blk hg (by simpa using h1), h.own.kept hg (by simpa using h2), h.ne⟩

/-- the map behind one Add -/
def D1 (t : Int) (v : Value) : DataW Value := (DataW.map []).put (kl t) (.held v)
theorem d1_size (t : Int) (v : Value) : Maps.size (D1 t v) = 1 := rfl
theorem d1_other (v : Value) : Maps.has (D1 1 v) (kl 2) = false := rfl
theorem d1_otherAt (v : Value) (z : DataW Value) : (D1 1 v).atKey (kl 2) z = z := rfl
theorem isMap_nil : IsMap (DataW.map ([] : List (Lit × DataW Value))) := ⟨_, rfl⟩
theorem d1_has (t : Int) (v : Value) : Maps.has (D1 t v) (kl t) = true := has_put_same isMap_nil (show WideAt.IsKeyLit (kl t) from trivial) _
theorem d1_at (t : Int) (v : Value) (z : DataW Value) : (D1 t v).atKey (kl t) z = .held v := atKey_put_same isMap_nil (show WideAt.IsKeyLit (kl t) from trivial) _ _
theorem d1_del (v : Value) : (D1 1 v).del (kl 1) = .map [] := rfl

theorem own_kept {w w' : World} {b : Nat} {e : TypeId} {s : Nat} {A : Option Addr} {n c : Nat} {xs : List Value} {row : Nat} (h : Tw.Own w b e s A n c xs) (hg : w.grownBy w' (some row)) (hr : row < b) : Tw.Own w' b e s A n c xs :=
  h.kept hg (own_apart h (by rintro k ⟨⟩; exact hr))
theorem own_form {w : World} {base : Nat} {e : TypeId} {size n : Nat} {A : Option Addr} {c : Nat} {xs : List Value} (h : Tw.Own w base e size A n c xs) (hn : 0 < n) : ∃ g, A = some ⟨g, 0, none⟩ ∧ base ≤ g ∧ g < w.heap.size := by
  have hl := h.lt
  rcases h.2 with ⟨hv, h0⟩ | ⟨g', cap, cur, hv, _⟩
  · omega
  · injection hv with h1
    subst h1
    exact ⟨g', rfl, hl g' rfl⟩
theorem own_0 {w : World} {base : Nat} {e : TypeId} {n c g : Nat} {b : List UInt8} (h : Tw.Own w base e 1 (some ⟨g, 0, none⟩) n c (bytesV b)) (hn : 0 < n) : ∃ x, Hid (b[0]? = some x) ∧ w.cell? ⟨g, 0, none⟩ = some (.int .u8 (x.toNat : Int)) ∧ x.toNat < 256 := by
  obtain ⟨ad, x0, had, hx0, d2, hx⟩ := h.rd.atB (k := 0) hn
  injection had with had
  subst had
  exact ⟨x0, hx0, d2, hx⟩

theorem c_lives (w : World) :
    Calls Try.prog 41 #[] w fun e w' => e = .returned (.bool true) ∧ Below w.heap.size w w' := by
  go_enter Try.func41, Try.ntmps41
  go_wp2_with (first
    | (go_at_call 42
       (with_reducible refine (c_New 1 (by omega) _).mono ?_)
       rintro e w1 ⟨rfl, t1, b1⟩
       have T1 := Lib.hid t1
       have B1 := Lib.hid b1
       clear t1 b1)
    | (go_at_call 43
       refine (c_Add_ok T1.out 1 (by omega) rfl rfl (by simp [Maps.size]) (by omega) 2 0 0 none 0 0 [] Rd.nil_ (by omega)).mono ?_
       rintro e w2 ⟨A2, c2, rfl, t2, _, b2⟩
       have T2 : Hid (Tab w2 _ _ 1 1 (D1 1 (rq 2 0 0 A2 0 c2))) := Lib.hid t2
       have B2 := Lib.hid (B1.out.grown b2 B1.out.size (by rintro k ⟨⟩; omega))
       clear T1 B1 t2 b2)
    | (go_at_call 43
       refine (c_Add_full T2.out 2 (by omega) (d1_other _) (d1_otherAt _ _) (by rw [d1_size]; omega) 0 0 0 none 0 0).mono ?_
       rintro e w3 ⟨rfl, b3⟩
       have T3 := Lib.hid (T2.out.bel b3)
       have B3 := Lib.hid (B2.out.trans (b3.mono B2.out.size))
       clear T2 B2 b3)
    | (go_at_call 92
       refine (c_Remove T3.out 1 (by omega) true (d1_has 1 _) 2 0 0 A2 0 c2 (d1_at 1 _ _)).mono ?_
       rintro e w4 ⟨rfl, t4, b4⟩
       rw [d1_del] at t4
       have T4 := Lib.hid t4
       have B4 := Lib.hid (B3.out.grown b4 B3.out.size (by rintro k ⟨⟩; omega))
       clear T3 B3 t4 b4)
    | (go_at_call 43
       refine (c_Add_ok T4.out 2 (by omega) rfl rfl (by simp [Maps.size]) (by omega) 0 0 0 none 0 0 [] Rd.nil_ (by omega)).mono ?_
       rintro e w5 ⟨A5, c5, rfl, _, _, b5⟩
       have B5 := B4.out.grown b5 B4.out.size (by rintro k ⟨⟩; omega)
       clear T4 B4 b5))
  go_ret
  exact ⟨rfl, B5⟩

/-- the first byte of a row, one up -/
def up (b : List UInt8) : List UInt8 := match b with | [] => [] | x :: r => (x + 1) :: r
theorem up_set {b : List UInt8} {x : UInt8} {z : Int} (h : b[0]? = some x) (hz : z = ((x.toNat : Int) + 1) % 256) : (bytesV b).set 0 (.int .u8 z) = bytesV (up b) := by
  cases b with
  | nil => simp at h
  | cons y r =>
    simp at h
    subst h
    simp only [bytesV, List.map_cons, List.set_cons_zero, up, hz]
    congr 2

theorem w_TableApart (t : Int) (A : Option Addr) (n c : Nat) (b : List UInt8) (w : World) (ht : -9223372036854775808 ≤ t ∧ t ≤ 9223372036854775807) (hb : Byt w A n c b) :
    Calls Try.prog 8 #[.int .i64 t, .slice A n c] w fun e w' => e = .returned (.bool true) ∧ Below w.heap.size w w' := by
  have Hb := Lib.hid hb
  by_cases hg : 1 ≤ t ∧ 1 ≤ n ∧ n ≤ 200
  · clear hb
    go_enter Try.func8, Try.ntmps8
    go_wp2_with (first
      | (go_at_call 42
         (with_reducible refine (c_New 2 (by omega) _).mono ?_)
         rintro e w1 ⟨rfl, t1, b1⟩
         have T1 := Lib.hid t1
         have B1 := Lib.hid b1
         have L1 := Lib.hid (heap_lt t1.blk)
         clear t1 b1)
      | (at_builtin
         refine wpL_append _ rfl (.tmp 29) (.tmp 30) _ rfl w1 w1.heap.size (bel_alloc (Below.refl _ _) (Nat.le_refl _) _) (size_alloc_le (Nat.le_refl _) _) 5 _ 1 1 Try.underlying22 Num.info_u8 rfl (by omega) _ _ _ [] rfl (own_empty _ _ _ _ (Nat.le_refl _)) _ _ _ _ rfl ((Hb.out.bel B1.out).alloc _) bytesV_one n (bytesV b) (by omega) rfl (by unfold maxLen; omega) (by omega) ?_
         intro A2 c2 w2 hown2 hb2 hg2 ho2
         obtain ⟨g2, rfl, hlt2⟩ := own_form hown2 (by omega)
         have T2 := Lib.hid (T1.out.bel hb2)
         have O2 := Lib.hid hown2
         have L2 := Lib.hid hlt2
         have B2 := Lib.hid (B1.out.trans (hb2.mono B1.out.size))
         clear T1 B1 hown2 hb2 hg2 ho2 hlt2)
      | (go_at_call 43
         refine (c_Add_ok T2.out t (by omega) rfl rfl (by simp [Maps.size]) (by omega) 1 0 0 (some ⟨g2, 0, none⟩) n c2 b O2.out.rd (by omega)).mono ?_
         rintro e w3 ⟨A3, c3, rfl, t3, o3, b3⟩
         have T3 : Hid (Tab w3 _ _ 2 1 (D1 t (rq 1 0 0 A3 n c3))) := Lib.hid t3
         have O3 := Lib.hid o3
         have l1 := L1.out
         have P2 := Lib.hid (own_kept O2.out b3 (by omega))
         obtain ⟨x0, hx0, d2, hx⟩ := own_0 P2.out (by omega)
         have B3 := Lib.hid (B2.out.grown b3 B2.out.size (by rintro k ⟨⟩; omega))
         clear T2 O2 B2 t3 o3 b3 l1)
      | (refine wpL_store_own rfl 5 (.tmp 42) (.tmp 41) rfl w1.heap.size 5 g2 0 n c2 rfl .u8 _ rfl (by kernel_rfl) (bytesV b) P2.out (by omega) (bytesV (up b)) (up_set hx0 rfl) ?_
         intro w4 o4 hg4
         have l1 := L1.out
         have l2 := L2.out
         have T4 := Lib.hid (T3.out.kept hg4 (by omega) (by omega))
         have O4 := Lib.hid (own_kept O3.out hg4 (by omega))
         have B4 := Lib.hid (B3.out.grown hg4 B3.out.size (by rintro k ⟨⟩; omega))
         clear T3 O3 B3 P2 o4 hg4 d2 l1 l2)
      | (go_at_call 44
         refine (c_Get T4.out t (by omega) true (d1_has t _) 1 0 0 A3 n c3 b (d1_at t _ _) O4.out.rd (by omega)).mono ?_
         rintro e w5 ⟨A5, c5, rfl, o5, b5⟩
         obtain ⟨g5, rfl, hlt5⟩ := own_form o5 (by omega)
         unfold rq
         have L5 := Lib.hid hlt5
         have B5 := Lib.hid (b5.trans ((Below.refl w4.heap.size w5).alloc b5.size (.cells #[.int .i64 1, .int .i64 0, .int .i64 0, .slice (some ⟨g5, 0, none⟩) n c5] 68)))
         have O5 := Lib.hid (Tw.Own.bel o5 ((Below.refl w5.heap.size w5).alloc (Nat.le_refl _) (.cells #[.int .i64 1, .int .i64 0, .int .i64 0, .slice (some ⟨g5, 0, none⟩) n c5] 68)))
         have e1 := run_str (P := Try.prog) (w5.alloc (.cells #[.int .i64 1, .int .i64 0, .int .i64 0, .slice (some ⟨g5, 0, none⟩) n c5] 68)) 22 9 5 (some ⟨g5, 0, none⟩) n c5 b Try.underlying22 Try.underlying5 Try.underlying9 O5.out.rd
         have e2 := run_str (P := Try.prog) (w5.alloc (.cells #[.int .i64 1, .int .i64 0, .int .i64 0, .slice (some ⟨g5, 0, none⟩) n c5] 68)) 22 9 5 A n c b Try.underlying22 Try.underlying5 Try.underlying9 (Hb.out.bel (B4.out.trans (B5.out.mono B4.out.size)))
         obtain ⟨x5, hx5, d5, hx6⟩ := own_0 O5.out (by omega)
         clear o5 b5 hlt5)
      | (refine wpL_store_own rfl 5 (.tmp 66) (.tmp 65) rfl w4.heap.size 5 g5 0 n c5 rfl .u8 _ rfl (by kernel_rfl) (bytesV b) O5.out (by omega) (bytesV (up b)) (up_set hx5 rfl) ?_
         intro w7 o7 hg7
         have l5 := L5.out
         have b7 := B5.out.grown hg7 B5.out.size (by rintro k ⟨⟩; omega)
         have T7 := Lib.hid (T4.out.bel b7)
         have O7 := Lib.hid (Tw.Own.bel O4.out b7)
         have B7 := Lib.hid (B4.out.trans (b7.mono B4.out.size))
         clear e1 e2 d5 T4 O4 B4 B5 O5 o7 hg7 l5 b7)
      | (go_at_call 44
         refine (c_Get T7.out t (by omega) true (d1_has t _) 1 0 0 A3 n c3 b (d1_at t _ _) O7.out.rd (by omega)).mono ?_
         rintro e w8 ⟨A8, c8, rfl, o8, b8⟩
         unfold rq
         have B8 := Lib.hid (b8.trans ((Below.refl w7.heap.size w8).alloc b8.size (.cells #[.int .i64 1, .int .i64 0, .int .i64 0, .slice A8 n c8] 68)))
         have e1 := run_str (P := Try.prog) (w8.alloc (.cells #[.int .i64 1, .int .i64 0, .int .i64 0, .slice A8 n c8] 68)) 22 9 5 A8 n c8 b Try.underlying22 Try.underlying5 Try.underlying9 (o8.rd.alloc _)
         have e2 := run_str (P := Try.prog) (w8.alloc (.cells #[.int .i64 1, .int .i64 0, .int .i64 0, .slice A8 n c8] 68)) 22 9 5 A n c b Try.underlying22 Try.underlying5 Try.underlying9 (Hb.out.bel (B7.out.trans (B8.out.mono B7.out.size)))
         have B9 := Lib.hid (B7.out.trans (B8.out.mono B7.out.size))
         clear o8 b8 B7 B8)
      | (go_at_call 41
         (with_reducible refine (c_lives _).mono ?_)
         rintro e w9 ⟨rfl, b9⟩))
    go_ret
    exact ⟨rfl, B9.out.trans (b9.mono B9.out.size)⟩
  · by_cases h1 : t < 1
    · go_enter Try.func8, Try.ntmps8
      go_wp2_with (first
        | (go_at_call 41
           (with_reducible refine (c_lives _).mono ?_)
           rintro e w1 ⟨rfl, b1⟩))
      go_ret
      exact ⟨rfl, b1⟩
    · by_cases h2 : n < 1
      · go_enter Try.func8, Try.ntmps8
        go_wp2_with (first
          | (go_at_call 41
             (with_reducible refine (c_lives _).mono ?_)
             rintro e w1 ⟨rfl, b1⟩))
        go_ret
        exact ⟨rfl, b1⟩
      · go_enter Try.func8, Try.ntmps8
        go_wp2_with (first
          | (go_at_call 41
             (with_reducible refine (c_lives _).mono ?_)
             rintro e w1 ⟨rfl, b1⟩))
        go_ret
        exact ⟨rfl, b1⟩
end Go.Proofs.Ytlfphoablloodaa.Table
