/- The law TableApart: lives, and the walk. Conditions: none. -/
import Derived.Test.YtplemdgihlabgaaTable4
set_option linter.unusedVariables false
set_option linter.unusedSimpArgs false
namespace Go.Proofs.Ytplemdgihlabgaa.Table
open Go.RowKit Tw Go.Maps Go.ChangeMaps
set_option maxHeartbeats 2000000
set_option maxRecDepth 100000

theorem Tab.kept {w w' : World} {tb mb : Nat} {most : Int} {n : Nat} {D : DataW Value} (h : Tab w tb mb most n D) {row : Nat} (hg : w.grownBy w' (some row)) (h1 : tb ≠ row) (h2 : mb ≠ row) : Tab w' tb mb most n D :=
  ⟨heap_grown h.blk hg (by simpa using h1), h.own.kept hg (by simpa using h2), h.ne⟩

/-- the map behind one Add -/
def D1 (t : Int) (v : Value) : DataW Value := (DataW.map []).put (kl t) (.held v)
theorem d1_size (t : Int) (v : Value) : Maps.size (D1 t v) = 1 := rfl
theorem d1_other (v : Value) : Maps.has (D1 1 v) (kl 2) = false := rfl
theorem d1_otherAt (v : Value) (z : DataW Value) : (D1 1 v).atKey (kl 2) z = z := rfl
theorem isMap_nil : IsMap (DataW.map ([] : List (Lit × DataW Value))) := ⟨_, rfl⟩
theorem d1_has (t : Int) (v : Value) : Maps.has (D1 t v) (kl t) = true := has_put_same isMap_nil (show WideAt.IsKeyLit (kl t) from trivial) _
theorem d1_at (t : Int) (v : Value) (z : DataW Value) : (D1 t v).atKey (kl t) z = .held v := atKey_put_same isMap_nil (show WideAt.IsKeyLit (kl t) from trivial) _ _
theorem d1_del (v : Value) : (D1 1 v).del (kl 1) = .map [] := rfl

theorem own_kept {w w' : World} {b : Nat} {e : TypeId} {s : Nat} {A : Option Addr} {n c : Nat} {xs : List Value} {row : Nat} (h : Tw.Own w b e s A n c xs) (hg : w.grownBy w' (some row)) (hr : row < b) : Tw.Own w' b e s A n c xs :=
  h.kept hg (own_apart h (by rintro k ⟨⟩; exact hr))
theorem own_form {w : World} {base : Nat} {e : TypeId} {size n : Nat} {A : Option Addr} {c : Nat} {xs : List Value} (h : Tw.Own w base e size A n c xs) (hn : 0 < n) : ∃ g, A = some ⟨g, 0, none⟩ ∧ base ≤ g ∧ g < w.heap.size := by
  have hl := h.lt
  rcases h.2 with ⟨hv, h0⟩ | ⟨g', cap, cur, hv, _⟩
  · omega
  · injection hv with h1
    subst h1
    exact ⟨g', rfl, hl g' rfl⟩
theorem own_0 {w : World} {base : Nat} {e : TypeId} {n c g : Nat} {b : List UInt8} (h : Tw.Own w base e 1 (some ⟨g, 0, none⟩) n c (bytesV b)) (hn : 0 < n) : ∃ x, Hid (b[0]? = some x) ∧ w.cell? ⟨g, 0, none⟩ = some (.int .u8 (x.toNat : Int)) ∧ x.toNat < 256 := by
  obtain ⟨ad, x0, had, hx0, d2, hx⟩ := h.rd.atB (k := 0) hn
  injection had with had
  subst had
  exact ⟨x0, hx0, d2, hx⟩

theorem c_lives (w : World) :
    Calls Try.prog 38 #[] w fun e w' => e = .returned (.bool true) ∧ Below w.heap.size w w' := by
  go_enter Try.func38, Try.ntmps38
  go_wp2_with (first
    | (go_at_call 39
       (with_reducible refine (c_New 1 (by omega) _).mono ?_)
       rintro e w1 ⟨rfl, t1, b1⟩
       have T1 := Lib.hid t1
       have B1 := Lib.hid b1
       clear t1 b1)
    | (go_at_call 32
       refine (c_Add_ok T1.out 1 (by omega) rfl rfl (by simp [Maps.size]) (by omega) 2 0 0 none 0 0 [] Rd.nil_ (by omega)).mono ?_
       rintro e w2 ⟨A2, c2, rfl, t2, _, b2⟩
       have T2 : Hid (Tab w2 _ _ 1 1 (D1 1 (rq 2 0 0 A2 0 c2))) := Lib.hid t2
       have B2 := Lib.hid (B1.out.grown b2 B1.out.size (by rintro k ⟨⟩; omega))
       clear T1 B1 t2 b2)
    | (go_at_call 32
       refine (c_Add_full T2.out 2 (by omega) (d1_other _) (d1_otherAt _ _) (by rw [d1_size]; omega) 0 0 0 none 0 0).mono ?_
       rintro e w3 ⟨rfl, b3⟩
       have T3 := Lib.hid (T2.out.bel b3)
       have B3 := Lib.hid (B2.out.trans (b3.mono B2.out.size))
       clear T2 B2 b3)
    | (go_at_call 33
       refine (c_Remove T3.out 1 (by omega) true (d1_has 1 _) 2 0 0 A2 0 c2 (d1_at 1 _ _)).mono ?_
       rintro e w4 ⟨rfl, t4, b4⟩
       rw [d1_del] at t4
       have T4 := Lib.hid t4
       have B4 := Lib.hid (B3.out.grown b4 B3.out.size (by rintro k ⟨⟩; omega))
       clear T3 B3 t4 b4)
    | (go_at_call 32
       refine (c_Add_ok T4.out 2 (by omega) rfl rfl (by simp [Maps.size]) (by omega) 0 0 0 none 0 0 [] Rd.nil_ (by omega)).mono ?_
       rintro e w5 ⟨A5, c5, rfl, _, _, b5⟩
       have B5 := B4.out.grown b5 B4.out.size (by rintro k ⟨⟩; omega)
       clear T4 B4 b5))
  go_ret
  exact ⟨rfl, B5⟩

/-- the first byte of a row, one up -/
def up (b : List UInt8) : List UInt8 := match b with | [] => [] | x :: r => (x + 1) :: r
theorem up_set {b : List UInt8} {x : UInt8} {z : Int} (h : b[0]? = some x) (hz : z = ((x.toNat : Int) + 1) % 256) : (bytesV b).set 0 (.int .u8 z) = bytesV (up b) := by
  cases b with
  | nil => simp at h
  | cons y r =>
    simp at h
    subst h
    simp only [bytesV, List.map_cons, List.set_cons_zero, up, hz]
    congr 2

end Go.Proofs.Ytplemdgihlabgaa.Table
