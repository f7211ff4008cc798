/- Texts joined: what the disks, the rings and their reference do. Conditions: none. -/
import Derived.Test.YtaldlapnhhhclaaGreatB7
import Derived.Test.YtaldlapnhhhclaaGreatB1
import Derived.Test.YtaldlapnhhhclaaGreatB2
import Derived.Test.YtaldlapnhhhclaaGreatProg
import Derived.Test.YtaldlapnhhhclaaGreatB3
/- The law SealPuts, walked. Conditions: none. -/
set_option linter.unusedVariables false
set_option linter.unusedSimpArgs false
namespace Go.Proofs.YtaldlapnhhhclaaGreat.Seal
open Go.RowKit Tw
open Crc (le sealed le_length sealed_length)
set_option maxHeartbeats 400000

theorem rd_lit (w : World) (e : TypeId) (xs : List Value) (n : Nat) (hl : xs.length = n) (hm : n ≤ maxLen) : Rd (w.alloc (.cells xs.toArray e)) 1 (some ⟨w.heap.size, 0, none⟩) n n xs :=
  rd_of_heap (heap_alloc_new w _) hl hm
end Go.Proofs.YtaldlapnhhhclaaGreat.Seal
/- Contracts of num's tickets, boots and small numbers, and of their reference. Conditions: none. -/
namespace Go.Proofs.YtaldlapnhhhclaaGreat.Num
open Go.RowKit Tw
set_option maxHeartbeats 400000

def tkOk (n : Int) : Bool := decide (0 ≤ n ∧ n < 16777216)
def tk (b : Nat) (n : Int) : Int := if tkOk n = true then (b : Int) * 16777216 + n else 0
theorem tkOk_true {n : Int} (h0 : 0 ≤ n) (h1 : n < 16777216) : tkOk n = true := by simp [tkOk, h0, h1]
theorem tkOk_false {n : Int} (h : n < 0 ∨ 16777216 ≤ n) : tkOk n = false := by simp [tkOk]; omega

theorem wraps_i64 (n : Int) (h₀ : 0 ≤ n) (h₁ : n < 2 ^ 63) : IntKind.i64.wrap n = n := by rw [IntKind.wrap_i64]; omega
theorem or24 (b : Nat) (n : Int) (hb : b < 4294967296) (h0 : 0 ≤ n) (h1 : n < 16777216) : bits .or .i64 ((b : Int) * 16777216) n = (b : Int) * 16777216 + n :=
  bits_join .i64 63 (by decide) wraps_i64 24 _ _ (by omega) (by omega) (by omega) h0 (by omega) (by omega)
theorem and24 (n : Int) (h0 : 0 ≤ n) (h1 : n < 72057594037927936) : bits .and .i64 n 16777215 = n % 16777216 :=
  bits_mask .i64 63 (by decide) wraps_i64 24 (by decide) n h0 (by omega)
def bootOf (t : Int) : Int := if 0 ≤ t ∧ t < 72057594037927936 then t / 16777216 else 0
def cntOf (t : Int) : Int := if 0 ≤ t ∧ t < 72057594037927936 then t % 16777216 else 0
theorem bootOf_no {t : Int} (h : t < 0 ∨ 72057594037927936 ≤ t) : bootOf t = 0 := by unfold bootOf; rw [if_neg (by omega)]
theorem cntOf_no {t : Int} (h : t < 0 ∨ 72057594037927936 ≤ t) : cntOf t = 0 := by unfold cntOf; rw [if_neg (by omega)]
theorem bootOf_yes {t : Int} (h0 : 0 ≤ t) (h1 : t < 72057594037927936) : bootOf t = t / 16777216 := by unfold bootOf; rw [if_pos ⟨h0, h1⟩]
theorem cntOf_yes {t : Int} (h0 : 0 ≤ t) (h1 : t < 72057594037927936) : cntOf t = t % 16777216 := by unfold cntOf; rw [if_pos ⟨h0, h1⟩]

def smOk (n : Nat) : Bool := decide (n ≤ 2147483647)
def sm (n : Nat) : Int := if n ≤ 2147483647 then n else 0
/-- what the first k bytes tell -/
def gv (k : Nat) (b : List UInt8) : Nat := if k ≤ b.length then val (b.take k) else 0
def gok (k : Nat) (b : List UInt8) : Bool := decide (k ≤ b.length)
theorem gv_yes {k : Nat} {b : List UInt8} (h : k ≤ b.length) : gv k b = val (b.take k) := if_pos h
theorem gv_no {k : Nat} {b : List UInt8} (h : b.length < k) : gv k b = 0 := if_neg (by omega)
theorem gok_yes {k : Nat} {b : List UInt8} (h : k ≤ b.length) : gok k b = true := by simp [gok, h]
theorem gok_no {k : Nat} {b : List UInt8} (h : b.length < k) : gok k b = false := by simp [gok]; omega
theorem gv_lt (k : Nat) (b : List UInt8) : gv k b < 256 ^ k := by
  unfold gv
  split
  · exact val_take_lt b k k (Nat.le_refl _)
  · exact Nat.pow_pos (by omega)

theorem c_Get32 (A : Option Addr) (n c : Nat) (b : List UInt8) (w : World) (hb : Byt w A n c b) :
    Calls Tryz.prog 209 #[.slice A n c] w fun e w' => e = .returned (.tuple #[.int .u32 (gv 4 b), .bool (gok 4 b)]) ∧ w = w' := by
  have hl := hb.blen
  by_cases h : 4 ≤ n
  · rw [gv_yes (by omega), gok_yes (by omega)]
    clear hl
    have hv := val_take_lt b 4 4 (Nat.le_refl _)
    generalize hq : val (b.take 4) = q at hv ⊢
    have Hq := Lib.hid hq
    clear hq
    go_enter Tryz.func209, Tryz.ntmps209
    go_wp2_with (first
      | (go_at_call 220; (with_reducible refine (c_get_u32 _ _ _ b 4 4 _ hb rfl (by omega) h).mono ?_); rintro e w' ⟨rfl, rfl⟩; rw [Hq.out]))
    go_ret2
    exact ⟨rfl, rfl⟩
  · rw [gv_no (by omega), gok_no (by omega)]
    clear hl
    go_enter Tryz.func209, Tryz.ntmps209
    go_wp2_with (first
      | (go_at_call 220; (with_reducible refine (c_get_u32_short _ _ _ 4 4 _ rfl (by omega)).mono ?_); rintro e w' ⟨rfl, rfl⟩))
    go_ret2
    exact ⟨rfl, rfl⟩
theorem c_Get64 (A : Option Addr) (n c : Nat) (b : List UInt8) (w : World) (hb : Byt w A n c b) :
    Calls Tryz.prog 210 #[.slice A n c] w fun e w' => e = .returned (.tuple #[.int .u64 (gv 8 b), .bool (gok 8 b)]) ∧ w = w' := by
  have hl := hb.blen
  by_cases h : 8 ≤ n
  · rw [gv_yes (by omega), gok_yes (by omega)]
    clear hl
    have hv := val_take_lt b 8 8 (Nat.le_refl _)
    generalize hq : val (b.take 8) = q at hv ⊢
    have Hq := Lib.hid hq
    clear hq
    go_enter Tryz.func210, Tryz.ntmps210
    go_wp2_with (first
      | (go_at_call 221; (with_reducible refine (c_get_u64 _ _ _ b 8 8 _ hb rfl (by omega) h).mono ?_); rintro e w' ⟨rfl, rfl⟩; rw [Hq.out]))
    go_ret2
    exact ⟨rfl, rfl⟩
  · rw [gv_no (by omega), gok_no (by omega)]
    clear hl
    go_enter Tryz.func210, Tryz.ntmps210
    go_wp2_with (first
      | (go_at_call 221; (with_reducible refine (c_get_u64_short _ _ _ 8 8 _ rfl (by omega)).mono ?_); rintro e w' ⟨rfl, rfl⟩))
    go_ret2
    exact ⟨rfl, rfl⟩
theorem c_rGetAll (A : Option Addr) (n c : Nat) (b : List UInt8) (sz : Int) (size : Nat) (w : World) (hsz : sz = (size : Int)) (hs : size ≤ 8) (hb : Byt w A n c b) :
    Calls Tryz.prog 169 #[.slice A n c, .int .i64 sz] w fun e w' => e = .returned (.tuple #[.int .u64 (gv size b), .bool (gok size b)]) ∧ w = w' := by
  have hl := hb.blen
  by_cases h : size ≤ n
  · rw [gv_yes (by omega), gok_yes (by omega)]
    exact c_rGet A n c b sz size w hb hsz hs h
  · rw [gv_no (by omega), gok_no (by omega)]
    exact c_rGet_short A n c sz size w hsz (by omega)

end Go.Proofs.YtaldlapnhhhclaaGreat.Num
/- Contracts of the package seal, and of its reference: Open. Conditions: none. -/
namespace Go.Proofs.YtaldlapnhhhclaaGreat.Seal
open Go.RowKit Tw
open Crc (le sealed le_length sealed_length)
set_option maxHeartbeats 400000
set_option maxRecDepth 100000

/-- what a sector tells: a number, a word, and whether it is a record -/
def opened (s : List UInt8) : Nat × Nat × Bool := if rec (Num.gv 4 s) (Num.gv 8 (s.drop 4)) = s then (Num.gv 4 s, Num.gv 8 (s.drop 4), true) else (0, 0, false)
theorem opened_yes {s : List UInt8} (h : rec (Num.gv 4 s) (Num.gv 8 (s.drop 4)) = s) : opened s = (Num.gv 4 s, Num.gv 8 (s.drop 4), true) := if_pos h
theorem opened_no {s : List UInt8} (h : rec (Num.gv 4 s) (Num.gv 8 (s.drop 4)) ≠ s) : opened s = (0, 0, false) := if_neg h

theorem c_Open (s : List UInt8) (w : World) (hs : s.length = 16) :
    Calls Tryz.prog 191 #[.agg (bytesV s).toArray] w fun e w' => e = .returned (.tuple #[.int .u32 ((opened s).1 : Nat), .int .u64 ((opened s).2.1 : Nat), .bool (opened s).2.2]) ∧ Below w.heap.size w w' := by
  have Hs := Lib.hid hs
  have hv4 := Num.gv_lt 4 s
  have hv8 := Num.gv_lt 8 (s.drop 4)
  have hr1 : Byt (w.alloc (.cells (bytesV s).toArray 127)) (some ⟨w.heap.size, 0, none⟩) 16 16 s := rd_lit w _ _ 16 (by rw [bytesV_length, hs]) (by simp [maxLen])
  have hr2 : Byt (w.alloc (.cells (bytesV s).toArray 127)) (some ⟨w.heap.size, 4, none⟩) 12 12 (s.drop 4) := by
    have h := hr1.cutB (k := 4) (by omega)
    simpa [Addr.add] using h
  have hRl := rec_length (Num.gv 4 s) (Num.gv 8 (s.drop 4))
  have Hop : Hid (opened s = if rec (Num.gv 4 s) (Num.gv 8 (s.drop 4)) = s then (Num.gv 4 s, Num.gv 8 (s.drop 4), true) else (0, 0, false)) := Lib.hid rfl
  have Hr1 := Lib.hid hr1
  have Hr2 := Lib.hid hr2
  have hB : Below w.heap.size w (w.alloc (.cells (bytesV s).toArray 127)) := (Below.refl _ _).alloc (Nat.le_refl _) _
  have HB := Lib.hid hB
  clear hr1 hr2 hB
  go_enter Tryz.func191, Tryz.ntmps191
  go_wp2_with (first
    | (go_at_call 209
       (with_reducible refine (Num.c_Get32 _ 16 _ s _ Hr1.out).mono ?_)
       rintro e w1 ⟨rfl, rfl⟩)
    | (go_at_call 210
       (with_reducible refine (Num.c_Get64 _ 12 _ (s.drop 4) _ Hr2.out).mono ?_)
       rintro e w1 ⟨rfl, rfl⟩))
  generalize (w.alloc (.cells (bytesV s).toArray 127)) = W1 at *
  generalize Num.gv 4 s = x at *
  generalize Num.gv 8 (s.drop 4) = y at *
  obtain ⟨R, hR⟩ : ∃ R, R = rec x y := ⟨_, rfl⟩
  rw [← hR] at hRl
  have HR := Lib.hid hR.symm
  have HRl := Lib.hid hRl
  clear hR hRl
  have heg : Tryz.prog.eqGuardType Tryz.prog.depth 127 = false := by kernel_rfl
  obtain ⟨q, hq⟩ : ∃ q, q = decide (s = R) := ⟨_, rfl⟩
  have Hq := Lib.hid hq
  clear hq
  refine wp_region_phi (by kernel_rfl) 5 none (fun _ => false) (fun i_ v wz => match i_ with
    | 0 => v = .agg (bytesV s).toArray
    | 1 => v = .int .u32 (x : Int)
    | 2 => v = .int .u64 (y : Int)
    | 3 => v = .agg (bytesV R).toArray
    | 4 => v = .bool (!q)
    | _ => True) (by kernel_rfl) ?_ ?_ ?_
  · (repeat' (first | exact allLt_zero | refine allLt_succ ?_ ?_))
    · exact fun _ _ _ h _ => h
    · exact fun _ _ _ h _ => h
    · exact fun _ _ _ h _ => h
    · exact fun _ _ _ h _ => h
    · exact fun _ _ _ h _ => h
  · (repeat' (first | exact allLt_zero | refine allLt_succ ?_ ?_))
    · intro a w' hf he
      have k1 : a.tmps.getD 1 undef = .pointer (some ⟨w.heap.size, 0, none⟩) := hf.var (by kernel_rfl) rfl
      rw [show kindRow _ _ = none from by kernel_rfl] at hf
      refine wpOp_step rfl (fun K hK => ?_)
      refine wp_load_rd 127 (.tmp 1) rfl ⟨w.heap.size, 0, none⟩ k1 (bytesV s) _ ((Hr1.out.bel hf.bel).cell _ rfl) Tryz.underlying127 rfl (by rw [bytesV_length, Hs.out]; kernel_rfl) ?_
      exact hK _ _ ⟨_, rfl, rfl, World.grownBy.refl _ _⟩
    · intro a w' hf he
      have k5 : a.tmps.getD 5 undef = .int .u32 (x : Int) := hf.var (by kernel_rfl) rfl
      refine wpOp_step rfl (fun K hK => ?_)
      go_simp
      exact hK _ _ ⟨_, rfl, rfl, World.grownBy.refl _ _⟩
    · intro a w' hf he
      have k7 : a.tmps.getD 7 undef = .int .u64 (y : Int) := hf.var (by kernel_rfl) rfl
      refine wpOp_step rfl (fun K hK => ?_)
      go_simp
      exact hK _ _ ⟨_, rfl, rfl, World.grownBy.refl _ _⟩
    · intro a w' hf he
      have f1 : a.tmps.getD 20 undef = .int .u32 (x : Int) := he 1 (by kernel_rfl)
      have f2 : a.tmps.getD 21 undef = .int .u64 (y : Int) := he 2 (by kernel_rfl)
      rw [show kindRow _ _ = none from by kernel_rfl] at hf
      refine wpOp_step rfl (fun K hK => ?_)
      go_simp
      refine (c_Record x y _ hv4 hv8).mono ?_
      rintro e w2 ⟨rfl, hb2⟩
      rw [HR.out]
      exact hK _ _ ⟨_, rfl, rfl, grown_bel hb2⟩
    · intro a w' hf he
      have f0 : a.tmps.getD 19 undef = .agg (bytesV s).toArray := he 0 (by kernel_rfl)
      have f3 : a.tmps.getD 22 undef = .agg (bytesV R).toArray := he 3 (by kernel_rfl)
      rw [show kindRow _ _ = none from by kernel_rfl] at hf
      have hne := run_eql_barr (P := Tryz.prog) w' s R Hs.out HRl.out Tryz.underlying127 Tryz.underlying5 (by kernel_rfl)
      rw [← Hq.out] at hne
      refine wpOp_step rfl (fun K hK => ?_)
      go_simp
      exact hK _ _ ⟨_, rfl, rfl, World.grownBy.refl _ _⟩
  · intro a w' hf he
    obtain ⟨u19, f0⟩ : ∃ u, a.tmps.getD 19 undef = u := ⟨_, rfl⟩
    obtain ⟨u20, f1⟩ : ∃ u, a.tmps.getD 20 undef = u := ⟨_, rfl⟩
    obtain ⟨u21, f2⟩ : ∃ u, a.tmps.getD 21 undef = u := ⟨_, rfl⟩
    obtain ⟨u22, f3⟩ : ∃ u, a.tmps.getD 22 undef = u := ⟨_, rfl⟩
    have f4 : a.tmps.getD 23 undef = .bool (!q) := he 4 (by decide)
    have hlit := hf.lit ((19, u19) :: (20, u20) :: (21, u21) :: (22, u22) :: (23, .bool (!q)) :: []) (by kernel_rfl) ⟨f0, f1, f2, f3, f4, trivial⟩
    have hB := hf.bel
    clear he hf f0 f1 f2 f3 f4 
    subst hlit
    simp only [putAll_nil, putAll_cons, Act.put, List.setIfInBounds_toArray, List.set_cons_zero, List.set_cons_succ]
    simp only [List.drop_succ_cons, List.drop_zero]
    have hB0 : Below w.heap.size w w' := HB.out.trans (hB.mono HB.out.size)
    clear hB
    cases q with
    | true =>
      have hop : Hid (opened s = (x, y, true)) := Lib.hid (by rw [Hop.out, if_pos (by rw [HR.out]; exact (of_decide_eq_true Hq.out.symm).symm)])
      go_wp2_with fail
      go_ret3
      rw [hop.out]
      exact ⟨rfl, hB0⟩
    | false =>
      have hop : Hid (opened s = (0, 0, false)) := Lib.hid (by rw [Hop.out, if_neg (by rw [HR.out]; exact fun h => of_decide_eq_false Hq.out.symm h.symm)])
      go_wp2_with fail
      go_ret3
      rw [hop.out]
      exact ⟨rfl, hB0⟩

theorem c_rGet32 (A : Option Addr) (n c : Nat) (b : List UInt8) (w : World) (hb : Byt w A n c b) (hn : 4 ≤ n) :
    Calls Tryz.prog 168 #[.slice A n c] w fun e w' => e = .returned (.tuple #[.int .u32 (Num.gv 4 b : Nat), .bool true]) ∧ w = w' := by
  have hv4 := Num.gv_lt 4 b
  have hok := Num.gok_yes (k := 4) (b := b) (by rw [hb.blen]; exact hn)
  go_enter Tryz.func168, Tryz.ntmps168
  go_wp2_with (first
    | (go_at_call 169
       (with_reducible refine (Num.c_rGetAll _ n _ b 4 4 _ rfl (by omega) hb).mono ?_)
       rintro e w1 ⟨rfl, rfl⟩
       rw [hok]))
  go_ret2
  exact ⟨rfl, rfl⟩

theorem c_rOpen (s : List UInt8) (w : World) (hs : s.length = 16) :
    Calls Tryz.prog 124 #[.agg (bytesV s).toArray] w fun e w' => e = .returned (.tuple #[.int .u32 ((opened s).1 : Nat), .int .u64 ((opened s).2.1 : Nat), .bool (opened s).2.2]) ∧ Below w.heap.size w w' := by
  have Hs := Lib.hid hs
  have hv4 := Num.gv_lt 4 s
  have hv8 := Num.gv_lt 8 (s.drop 4)
  have hr1 : Byt (w.alloc (.cells (bytesV s).toArray 127)) (some ⟨w.heap.size, 0, none⟩) 16 16 s := rd_lit w _ _ 16 (by rw [bytesV_length, hs]) (by simp [maxLen])
  have hRl := rec_length (Num.gv 4 s) (Num.gv 8 (s.drop 4))
  have Hop : Hid (opened s = if rec (Num.gv 4 s) (Num.gv 8 (s.drop 4)) = s then (Num.gv 4 s, Num.gv 8 (s.drop 4), true) else (0, 0, false)) := Lib.hid rfl
  have Hr1 := Lib.hid hr1
  have hB : Below w.heap.size w (w.alloc (.cells (bytesV s).toArray 127)) := (Below.refl _ _).alloc (Nat.le_refl _) _
  have HB := Lib.hid hB
  have Ho2 : Hid (Own ((w.alloc (.cells (bytesV s).toArray 127)).alloc (.cells #[] 5)) w.heap.size 5 1 (some ⟨w.heap.size + 1, 0, none⟩) 0 0 []) := Lib.hid (by
    have h := own_empty (w.alloc (.cells (bytesV s).toArray 127)) w.heap.size 5 1 hB.size
    simpa using h)
  clear hr1 hB
  go_enter Tryz.func124, Tryz.ntmps124
  go_wp2_with (first
    | (at_builtin
       refine wpL_append _ rfl (.tmp 10) (.tmp 11) _ rfl w w.heap.size (bel_alloc HB.out HB.out.size _) (size_alloc_le HB.out.size _) 5 _ 1 1 Tryz.underlying23 Num.info_u8 rfl (by omega) _ _ _ [] rfl Ho2.out _ _ _ _ rfl (Hr1.out.alloc _) bytesV_one 16 (bytesV s) (by omega) rfl (by unfold maxLen; omega) (by omega) ?_
       intro A1 c1 w1 hown1 hb1 hg1 ho1
       have hd1 := hown1.rd
       have hdc := hd1.le
       have hk1 : Byt w1 (some ⟨w.heap.size, 0, none⟩) 16 16 s := (Hr1.out.alloc _).grown hg1 (by rintro ad ⟨⟩; simp [Value.ownBlock])
       obtain ⟨ad, rfl, -⟩ := hd1.src (by omega)
       have hc4 : ¬ c1 = 4 := by omega
       have hd2 := hd1.cutB (k := 4) (by omega)
       rw [if_neg hc4] at hd2
       replace hd2 : Byt w1 (some ⟨ad.block, ad.off + 4, none⟩) 12 (c1 - 4) (s.drop 4) := by simpa [Addr.add] using hd2
       have Hd1 := Lib.hid hd1
       have Hd2 := Lib.hid hd2
       have Hk1 := Lib.hid hk1
       clear hg1 ho1 hown1 hd1 hd2 hk1)
    | (go_at_call 168
       (with_reducible refine (c_rGet32 _ 16 _ s _ Hd1.out (by omega)).mono ?_)
       rintro e w2 ⟨rfl, rfl⟩)
    | (go_at_call 169
       (with_reducible refine (Num.c_rGetAll _ 12 _ (s.drop 4) 8 8 _ rfl (by omega) Hd2.out).mono ?_)
       rintro e w2 ⟨rfl, rfl⟩))
  generalize Num.gv 4 s = x at *
  generalize Num.gv 8 (s.drop 4) = y at *
  obtain ⟨R, hR⟩ : ∃ R, R = rec x y := ⟨_, rfl⟩
  rw [← hR] at hRl
  have HR := Lib.hid hR.symm
  have HRl := Lib.hid hRl
  clear hR hRl HB Ho2 Hr1
  have heg : Tryz.prog.eqGuardType Tryz.prog.depth 127 = false := by kernel_rfl
  obtain ⟨q, hq⟩ : ∃ q, q = decide (R = s) := ⟨_, rfl⟩
  have Hq := Lib.hid hq
  clear hq
  refine wp_region_phi (by kernel_rfl) 5 none (fun _ => false) (fun i_ v wz => match i_ with
    | 0 => v = .int .u32 (x : Int)
    | 1 => v = .int .u64 (y : Int)
    | 2 => v = .agg (bytesV R).toArray
    | 3 => v = .agg (bytesV s).toArray
    | 4 => v = .bool (!q)
    | _ => True) (by kernel_rfl) ?_ ?_ ?_
  · (repeat' (first | exact allLt_zero | refine allLt_succ ?_ ?_))
    · exact fun _ _ _ h _ => h
    · exact fun _ _ _ h _ => h
    · exact fun _ _ _ h _ => h
    · exact fun _ _ _ h _ => h
    · exact fun _ _ _ h _ => h
  · (repeat' (first | exact allLt_zero | refine allLt_succ ?_ ?_))
    · intro a w' hf he
      have k6 : a.tmps.getD 6 undef = .int .u32 (x : Int) := hf.var (by kernel_rfl) rfl
      refine wpOp_step rfl (fun K hK => ?_)
      go_simp
      exact hK _ _ ⟨_, rfl, rfl, World.grownBy.refl _ _⟩
    · intro a w' hf he
      have k8 : a.tmps.getD 8 undef = .int .u64 (y : Int) := hf.var (by kernel_rfl) rfl
      refine wpOp_step rfl (fun K hK => ?_)
      go_simp
      exact hK _ _ ⟨_, rfl, rfl, World.grownBy.refl _ _⟩
    · intro a w' hf he
      have f0 : a.tmps.getD 24 undef = .int .u32 (x : Int) := he 0 (by kernel_rfl)
      have f1 : a.tmps.getD 25 undef = .int .u64 (y : Int) := he 1 (by kernel_rfl)
      rw [show kindRow _ _ = none from by kernel_rfl] at hf
      refine wpOp_step rfl (fun K hK => ?_)
      go_simp
      refine (c_rRecord x y _ hv4 hv8).mono ?_
      rintro e w2 ⟨rfl, hb2⟩
      rw [HR.out]
      exact hK _ _ ⟨_, rfl, rfl, grown_bel hb2⟩
    · intro a w' hf he
      have k1 : a.tmps.getD 1 undef = .pointer (some ⟨w.heap.size, 0, none⟩) := hf.var (by kernel_rfl) rfl
      rw [show kindRow _ _ = none from by kernel_rfl] at hf
      refine wpOp_step rfl (fun K hK => ?_)
      refine wp_load_rd 127 (.tmp 1) rfl ⟨w.heap.size, 0, none⟩ k1 (bytesV s) _ ((Hk1.out.bel hf.bel).cell _ rfl) Tryz.underlying127 rfl (by rw [bytesV_length, Hs.out]; kernel_rfl) ?_
      exact hK _ _ ⟨_, rfl, rfl, World.grownBy.refl _ _⟩
    · intro a w' hf he
      have f2 : a.tmps.getD 26 undef = .agg (bytesV R).toArray := he 2 (by kernel_rfl)
      have f3 : a.tmps.getD 27 undef = .agg (bytesV s).toArray := he 3 (by kernel_rfl)
      rw [show kindRow _ _ = none from by kernel_rfl] at hf
      have hne := run_eql_barr (P := Tryz.prog) w' R s HRl.out Hs.out Tryz.underlying127 Tryz.underlying5 (by kernel_rfl)
      rw [← Hq.out] at hne
      refine wpOp_step rfl (fun K hK => ?_)
      go_simp
      exact hK _ _ ⟨_, rfl, rfl, World.grownBy.refl _ _⟩
  · intro a w' hf he
    obtain ⟨u24, f0⟩ : ∃ u, a.tmps.getD 24 undef = u := ⟨_, rfl⟩
    obtain ⟨u25, f1⟩ : ∃ u, a.tmps.getD 25 undef = u := ⟨_, rfl⟩
    obtain ⟨u26, f2⟩ : ∃ u, a.tmps.getD 26 undef = u := ⟨_, rfl⟩
    obtain ⟨u27, f3⟩ : ∃ u, a.tmps.getD 27 undef = u := ⟨_, rfl⟩
    have f4 : a.tmps.getD 28 undef = .bool (!q) := he 4 (by decide)
    have hlit := hf.lit ((24, u24) :: (25, u25) :: (26, u26) :: (27, u27) :: (28, .bool (!q)) :: []) (by kernel_rfl) ⟨f0, f1, f2, f3, f4, trivial⟩
    have hB := hf.bel
    clear he hf f0 f1 f2 f3 f4 
    subst hlit
    simp only [putAll_nil, putAll_cons, Act.put, List.setIfInBounds_toArray, List.set_cons_zero, List.set_cons_succ]
    simp only [List.drop_succ_cons, List.drop_zero]
    have hB0 : Below w.heap.size w w' := hb1.trans (hB.mono hb1.size)
    clear hB
    cases q with
    | true =>
      have hop : Hid (opened s = (x, y, true)) := Lib.hid (by rw [Hop.out, if_pos (by rw [HR.out]; exact of_decide_eq_true Hq.out.symm)])
      go_wp2_with fail
      go_ret3
      rw [hop.out]
      exact ⟨rfl, hB0⟩
    | false =>
      have hop : Hid (opened s = (0, 0, false)) := Lib.hid (by rw [Hop.out, if_neg (by rw [HR.out]; exact of_decide_eq_false Hq.out.symm)])
      go_wp2_with fail
      go_ret3
      rw [hop.out]
      exact ⟨rfl, hB0⟩
end Go.Proofs.YtaldlapnhhhclaaGreat.Seal
/- A ring of slots, plainly. Conditions: none. -/
namespace Go.Proofs.YtaldlapnhhhclaaGreat.Slots
open Tw Disk Seal

abbrev Ent := Nat × Nat
def RingOk (b s : Int) : Prop := 2 ≤ s ∧ s ≤ 8 ∧ 0 ≤ b ∧ b ≤ 1024
instance (b s : Int) : Decidable (RingOk b s) := by unfold RingOk; infer_instance
/-- does the ring stand on a disk of so many sectors? -/
def On (b s : Int) (N : Nat) : Prop := RingOk b s ∧ b ≤ (N : Int) - s
instance (b s : Int) (N : Nat) : Decidable (On b s N) := by unfold On; infer_instance
def place (b s : Int) (n : Nat) : Int := b + ((n % s.toNat : Nat) : Int)
def told (b s at_ : Int) (x : Sec) : Ent := if (opened x).2.2 = true ∧ place b s (opened x).1 = at_ then ((opened x).1, (opened x).2.1) else (0, 0)
def readAt (d : Dsk) (b s at_ : Int) : Ent := if (d.read at_).2 = 0 then told b s at_ (d.read at_).1 else (0, 0)
def better (p x : Ent) : Ent := if p.1 < x.1 then x else p
def best (d : Dsk) (b s : Int) : Nat → Ent
  | 0 => (0, 0)
  | k + 1 => better (best d b s k) (readAt d b s (b + (k : Int)))
def latest (d : Dsk) (b s : Int) : Ent := if On b s d.cells.length then best d b s s.toNat else (0, 0)
def sput (d : Dsk) (b s : Int) (word : Nat) : Dsk × Nat :=
  if On b s d.cells.length then
    if d.broken = true then (d, 3)
    else if (latest d b s).1 = 4294967295 then (d, 13)
    else if (d.write (place b s ((latest d b s).1 + 1)) (rec ((latest d b s).1 + 1) word)).2 = 0 then (d.write (place b s ((latest d b s).1 + 1)) (rec ((latest d b s).1 + 1) word)).1.flush
    else d.write (place b s ((latest d b s).1 + 1)) (rec ((latest d b s).1 + 1) word)
  else (d, 2)
theorem opened_lt (x : Sec) : (opened x).1 < 4294967296 ∧ (opened x).2.1 < 18446744073709551616 := by
  unfold opened
  split
  · exact ⟨by have := Num.gv_lt 4 x; simpa using this, by have := Num.gv_lt 8 (x.drop 4); simpa using this⟩
  · simp
theorem readAt_lt (d : Dsk) (b s at_ : Int) : (readAt d b s at_).1 < 4294967296 ∧ (readAt d b s at_).2 < 18446744073709551616 := by
  unfold readAt told
  split
  · split
    · exact opened_lt _
    · simp
  · simp
theorem best_lt (d : Dsk) (b s : Int) (k : Nat) : (best d b s k).1 < 4294967296 ∧ (best d b s k).2 < 18446744073709551616 := by
  induction k with
  | zero => simp [best]
  | succ k ih =>
    unfold best better
    split
    · exact readAt_lt _ _ _ _
    · exact ih
theorem latest_lt (d : Dsk) (b s : Int) : (latest d b s).1 < 4294967296 ∧ (latest d b s).2 < 18446744073709551616 := by
  unfold latest
  split
  · exact best_lt _ _ _ _
  · simp
theorem place_on {b s : Int} {N : Nat} (h : On b s N) (n : Nat) : 0 ≤ place b s n ∧ place b s n < (N : Int) ∧ b ≤ place b s n := by
  unfold On RingOk at h
  unfold place
  have h1 : n % s.toNat < s.toNat := Nat.mod_lt _ (by omega)
  omega
theorem rec_len (n p : Nat) : (rec n p).length = 16 := rec_length n p
theorem sput_ok {d : Dsk} (h : d.Ok) (ho : d.ops + 1 < 1000000000) (b s : Int) (word : Nat) : (sput d b s word).1.Ok := by
  unfold sput
  split
  · split
    · exact h
    · split
      · exact h
      · have h1 := write_ok h (by omega) (place b s ((latest d b s).1 + 1)) (rec_len ((latest d b s).1 + 1) word)
        split
        · refine flush_ok h1 ?_
          have h2 : (d.write (place b s ((latest d b s).1 + 1)) (rec ((latest d b s).1 + 1) word)).1.ops ≤ d.ops + 1 := by
            unfold Dsk.write Dsk.put Dsk.spend Dsk.burn
            (repeat' split) <;> simp_all
          omega
        · exact h1
  · exact h
end Go.Proofs.YtaldlapnhhhclaaGreat.Slots
/- Contracts of the package span: Plain, End, Good. Conditions: none. -/
namespace Go.Proofs.YtaldlapnhhhclaaGreat.Span
open Go.RowKit Tw
set_option maxHeartbeats 2000000
set_option maxRecDepth 100000

theorem ret_bool {v : Value} {a b : Bool} (hv : v = .bool a) (h : a = b) : Ending.returned v = .returned (.bool b) := by rw [hv, h]
def Plain (x y : Int) : Prop := 0 ≤ x ∧ x ≤ 1073741824 ∧ 0 ≤ y ∧ y ≤ 1073741824
instance (x y : Int) : Decidable (Plain x y) := by unfold Plain; infer_instance
/-- does the span lie within so many sectors, and has it one? -/
def Good (x y s : Int) : Prop := 0 ≤ x ∧ 0 < y ∧ x ≤ 1073741824 ∧ y ≤ 1073741824 ∧ x + y ≤ s
instance (x y s : Int) : Decidable (Good x y s) := by unfold Good; infer_instance
theorem c_within (x : Int) (w : World) :
    Calls Tryz.prog 207 #[.int .i64 x] w fun e w' => e = .returned (.bool (decide (0 ≤ x ∧ x ≤ 1073741824))) ∧ w = w' := by
  go_enter Tryz.func207, Tryz.ntmps207
  go_wp2
  all_goals
    go_ret
    refine ⟨ret_bool rfl ?_, rfl⟩
    rw [Bool.eq_iff_iff]
    simp only [decide_eq_true_eq, Bool.false_eq_true, Bool.true_eq_false, Bool.and_eq_true, true_iff, false_iff]
    omega
theorem c_Plain (x y : Int) (w : World) :
    Calls Tryz.prog 187 #[.agg #[.int .i64 x, .int .i64 y]] w fun e w' => e = .returned (.bool (decide (Plain x y))) ∧ Below w.heap.size w w' := by
  have HB := Lib.hid ((Below.refl _ _).alloc (Nat.le_refl w.heap.size) (.cells #[.int .i64 x, .int .i64 y] 144))
  have hx := c_within x
  have hy := c_within y
  go_enter Tryz.func187, Tryz.ntmps187
  go_wp2_with (first
    | (go_at_call 207
       (with_reducible refine (hx _).mono ?_)
       rintro e w1 ⟨rfl, rfl⟩
       clear hx)
    | (go_at_call 207
       (with_reducible refine (hy _).mono ?_)
       rintro e w1 ⟨rfl, rfl⟩
       clear hy))
  all_goals
    go_ret
    refine ⟨ret_bool rfl ?_, HB.out⟩
    rw [Bool.eq_iff_iff]
    simp only [decide_eq_true_eq, Bool.false_eq_true, Bool.true_eq_false, Bool.and_eq_true, true_iff, false_iff]
    simp only [Plain]
    omega
theorem c_End (x y : Int) (w : World) (h : Plain x y) :
    Calls Tryz.prog 188 #[.agg #[.int .i64 x, .int .i64 y]] w fun e w' => e = .returned (.int .i64 (x + y)) ∧ Below w.heap.size w w' := by
  have HB := Lib.hid ((Below.refl _ _).alloc (Nat.le_refl w.heap.size) (.cells #[.int .i64 x, .int .i64 y] 144))
  have HX := Lib.hid (heap_alloc_new w (.cells #[.int .i64 x, .int .i64 y] 144))
  have hd := Lib.hid (decide_eq_true h)
  unfold Plain at h
  go_enter Tryz.func188, Tryz.ntmps188
  go_wp2_with (first
    | (go_at_call 187
       (with_reducible refine (c_Plain x y _).mono ?_)
       rintro e w1 ⟨rfl, hb1⟩
       rw [hd.out]
       have B1 := Lib.hid (HB.out.trans (hb1.mono HB.out.size))
       have d0 := (hb1.block _ (heap_lt HX.out)).trans HX.out
       have d1 : w1.cell? ⟨w.heap.size, 0, none⟩ = some (.int .i64 x) := by simp [World.cell?, d0]
       have d2 : w1.cell? ⟨w.heap.size, 1, none⟩ = some (.int .i64 y) := by simp [World.cell?, d0]
       clear d0 hb1 HX))
  go_ret
  exact ⟨rfl, B1.out⟩
theorem c_Good (x y s : Int) (w : World) :
    Calls Tryz.prog 170 #[.agg #[.int .i64 x, .int .i64 y], .int .i64 s] w fun e w' => e = .returned (.bool (decide (Good x y s))) ∧ Below w.heap.size w w' := by
  have HB := Lib.hid ((Below.refl _ _).alloc (Nat.le_refl w.heap.size) (.cells #[.int .i64 x, .int .i64 y] 144))
  have HX := Lib.hid (heap_alloc_new w (.cells #[.int .i64 x, .int .i64 y] 144))
  by_cases hp : Plain x y
  · have hd := Lib.hid (decide_eq_true hp)
    have Hp := Lib.hid hp
    unfold Plain at hp
    go_enter Tryz.func170, Tryz.ntmps170
    go_wp2_with (first
      | (go_at_call 187
         (with_reducible refine (c_Plain x y _).mono ?_)
         rintro e w1 ⟨rfl, hb1⟩
         rw [hd.out]
         have B1 := Lib.hid (HB.out.trans (hb1.mono HB.out.size))
         have d0 := (hb1.block _ (heap_lt HX.out)).trans HX.out
         have d1 : w1.cell? ⟨w.heap.size, 0, none⟩ = some (.int .i64 x) := by simp [World.cell?, d0]
         have d2 : w1.cell? ⟨w.heap.size, 1, none⟩ = some (.int .i64 y) := by simp [World.cell?, d0]
         clear d0 hb1 HX)
      | (go_at_call 188
         (with_reducible refine (c_End x y _ Hp.out).mono ?_)
         rintro e w2 ⟨rfl, hb2⟩
         have B1 := Lib.hid (B1.out.trans (hb2.mono B1.out.size))
         clear hb2))
    all_goals
      go_ret
      refine ⟨ret_bool rfl ?_, B1.out⟩
      rw [Bool.eq_iff_iff]
      simp only [decide_eq_true_eq, Bool.false_eq_true, Bool.true_eq_false, Bool.and_eq_true, true_iff, false_iff]
      simp only [Good]
      omega
  · have hd := Lib.hid (decide_eq_false hp)
    unfold Plain at hp
    go_enter Tryz.func170, Tryz.ntmps170
    go_wp2_with (first
      | (go_at_call 187
         (with_reducible refine (c_Plain x y _).mono ?_)
         rintro e w1 ⟨rfl, hb1⟩
         rw [hd.out]
         have B1 := Lib.hid (HB.out.trans (hb1.mono HB.out.size))
         clear hb1 HX))
    go_ret
    refine ⟨ret_bool rfl ?_, B1.out⟩
    rw [Bool.eq_iff_iff]
    simp only [decide_eq_true_eq, Bool.false_eq_true, Bool.true_eq_false, Bool.and_eq_true, true_iff, false_iff]
    simp only [Good]
    omega
end Go.Proofs.YtaldlapnhhhclaaGreat.Span
/- Contracts of the package slots: good, place, on, Place. Conditions: none. -/
namespace Go.Proofs.YtaldlapnhhhclaaGreat.Slots
open Go.RowKit Tw Disk
set_option maxHeartbeats 2000000
set_option maxRecDepth 100000

theorem ret_int {v : Value} {a b : Int} (hv : v = .int .i64 a) (h : a = b) : Ending.returned v = .returned (.int .i64 b) := by rw [hv, h]
theorem c_good (b s : Int) (w : World) :
    Calls Tryz.prog 177 #[.agg #[.int .i64 b, .int .i64 s]] w fun e w' => e = .returned (.bool (decide (RingOk b s))) ∧ Below w.heap.size w w' := by
  have HB := Lib.hid ((Below.refl _ _).alloc (Nat.le_refl w.heap.size) (.cells #[.int .i64 b, .int .i64 s] 214))
  go_enter Tryz.func177, Tryz.ntmps177
  go_wp2
  all_goals
    go_ret
    refine ⟨Span.ret_bool rfl ?_, HB.out⟩
    rw [Bool.eq_iff_iff]
    simp only [decide_eq_true_eq, Bool.false_eq_true, Bool.true_eq_false, Bool.and_eq_true, true_iff, false_iff]
    simp only [RingOk]
    omega
theorem c_place (b s : Int) (n : Nat) (w : World) (h : RingOk b s) (hn : n < 4294967296) :
    Calls Tryz.prog 159 #[.agg #[.int .i64 b, .int .i64 s], .int .u32 (n : Int)] w fun e w' => e = .returned (.int .i64 (place b s n)) ∧ Below w.heap.size w w' := by
  have HB := Lib.hid ((Below.refl _ _).alloc (Nat.le_refl w.heap.size) (.cells #[.int .i64 b, .int .i64 s] 214))
  obtain ⟨k, rfl⟩ : ∃ k : Nat, s = (k : Int) := ⟨s.toNat, by unfold RingOk at h; omega⟩
  obtain ⟨h1, h2, h3, h4⟩ := h
  go_enter Tryz.func159, Tryz.ntmps159
  go_wp2_with fail
  go_quiet (fail)
  go_wp2
  go_ret
  refine ⟨ret_int rfl ?_, HB.out.trans ((Fr.drewN (S := fun _ => False) nq).bel (fun _ e => e.elim) HB.out.size)⟩
  unfold place
  rw [Int.toNat_natCast]
  have h5 : n % k < k := Nat.mod_lt _ (by omega)
  have h6 : ((n % k : Nat) : Int) = (n : Int) % (k : Int) := by omega
  rw [h6]
  have h8 : 0 ≤ (n : Int) % (k : Int) ∧ (n : Int) % (k : Int) < (k : Int) := by omega
  generalize (n : Int) % (k : Int) = q at *
  have h7 : wrap64 q = q := by unfold wrap64; omega
  rw [h7]
  unfold wrap64
  omega
theorem c_rring (b s : Int) (w : World) :
    Calls Tryz.prog 114 #[.int .i64 b, .int .i64 s] w fun e w' => e = .returned (.bool (decide (RingOk b s))) ∧ w = w' := by
  go_enter Tryz.func114, Tryz.ntmps114
  go_wp2
  all_goals
    go_ret
    refine ⟨Span.ret_bool rfl ?_, rfl⟩
    rw [Bool.eq_iff_iff]
    simp only [decide_eq_true_eq, Bool.false_eq_true, Bool.true_eq_false, Bool.and_eq_true, true_iff, false_iff]
    simp only [RingOk]
    omega
theorem two_puts : (sput (Dsk.new 4) 1 2 7).2 = 0 ∧ (sput (sput (Dsk.new 4) 1 2 7).1 1 2 9).2 = 0 ∧ latest (sput (sput (Dsk.new 4) 1 2 7).1 1 2 9).1 1 2 = (2, 9) := by decide +kernel
theorem c_rPlace (b s : Int) (n : Nat) (w : World) (hn : n < 4294967296) :
    Calls Tryz.prog 116 #[.int .u32 (n : Int), .int .i64 b, .int .i64 s] w fun e w' => e = .returned (.int .i64 (if RingOk b s then place b s n else 0)) ∧ w = w' := by
  have hg := c_rring b s
  by_cases h : RingOk b s
  · have hd := Lib.hid (decide_eq_true h)
    rw [if_pos h]
    obtain ⟨k, rfl⟩ : ∃ k : Nat, s = (k : Int) := ⟨s.toNat, by unfold RingOk at h; omega⟩
    obtain ⟨h1, h2, h3, h4⟩ := h
    go_enter Tryz.func116, Tryz.ntmps116
    go_wp2_with (first
      | (go_at_call 114
         (with_reducible refine (hg _).mono ?_)
         rintro e w1 ⟨rfl, rfl⟩
         rw [hd.out]))
    go_ret
    refine ⟨ret_int rfl ?_, rfl⟩
    unfold place
    rw [Int.toNat_natCast]
    have h5 : n % k < k := Nat.mod_lt _ (by omega)
    have h6 : ((n % k : Nat) : Int) = (n : Int) % (k : Int) := by omega
    rw [h6]
    have h8 : 0 ≤ (n : Int) % (k : Int) ∧ (n : Int) % (k : Int) < (k : Int) := by omega
    generalize (n : Int) % (k : Int) = q at *
    unfold wrap64
    omega
  · have hd := Lib.hid (decide_eq_false h)
    rw [if_neg h]
    go_enter Tryz.func116, Tryz.ntmps116
    go_wp2_with (first
      | (go_at_call 114
         (with_reducible refine (hg _).mono ?_)
         rintro e w1 ⟨rfl, rfl⟩
         rw [hd.out]))
    go_ret
    exact ⟨rfl, rfl⟩
/-- a disk, or none: how many sectors it has -/
def DV (w : World) (v : Value) (N : Nat) : Prop := (∃ p g mb c d, v = .pointer (some ⟨p, 0, none⟩) ∧ Dk w p g mb c d ∧ d.cells.length = N) ∨ (v = .pointer none ∧ N = 0)
theorem DV.bel {w w' : World} {v : Value} {N : Nat} (h : DV w v N) (hb : Below w.heap.size w w') : DV w' v N := by
  rcases h with ⟨p, g, mb, c, d, rfl, hk, hN⟩ | ⟨rfl, rfl⟩
  · exact .inl ⟨p, g, mb, c, d, rfl, hk.bel hb, hN⟩
  · exact .inr ⟨rfl, rfl⟩
theorem c_SizeV {w : World} {v : Value} {N : Nat} (h : DV w v N) : Calls Tryz.prog 131 #[v] w fun e w' => e = .returned (.int .i64 (N : Int)) ∧ w = w' := by
  rcases h with ⟨p, g, mb, c, d, rfl, hk, rfl⟩ | ⟨rfl, rfl⟩
  · exact c_Size hk
  · exact c_Size_nil w
theorem DV.lt {w : World} {v : Value} {N : Nat} (h : DV w v N) : N ≤ 1024 := by
  rcases h with ⟨p, g, mb, c, d, rfl, hk, rfl⟩ | ⟨rfl, rfl⟩
  · exact hk.ok.n.2
  · omega
theorem c_on (b s : Int) (u : Value) (N : Nat) (w : World) (h : DV w u N) :
    Calls Tryz.prog 157 #[.agg #[.int .i64 b, .int .i64 s], u] w fun e w' => e = .returned (.bool (decide (On b s N))) ∧ Below w.heap.size w w' := by
  have HB := Lib.hid ((Below.refl _ _).alloc (Nat.le_refl w.heap.size) (.cells #[.int .i64 b, .int .i64 s] 214))
  have HX := Lib.hid (heap_alloc_new w (.cells #[.int .i64 b, .int .i64 s] 214))
  have hN := h.lt
  have HV := Lib.hid (h.bel HB.out)
  have hg := c_good b s
  clear h
  by_cases h : RingOk b s
  · have hd := Lib.hid (decide_eq_true h)
    obtain ⟨h1, h2, h3, h4⟩ := Lib.hid h |>.out
    have hon : Hid (decide (On b s N) = decide (b ≤ (N : Int) - s)) := Lib.hid (by simp [On, h])
    clear h
    rw [hon.out]
    go_enter Tryz.func157, Tryz.ntmps157
    go_wp2_with fail
    refine wp_region_phi (by kernel_rfl) 13 none (fun _ => false) (fun i_ v wz => match i_ with
      | 0 => v = .agg #[.int .i64 b, .int .i64 s]
      | 1 => v = .bool true
      | 2 => v = .bool true
      | 3 => v = .pointer (some ⟨w.heap.size, 0, none⟩)
      | 4 => v = .int .i64 b
      | 5 => v = u
      | 6 => v = .int .i64 (N : Int)
      | 7 => v = .pointer (some ⟨w.heap.size, 1, none⟩)
      | 8 => v = .int .i64 s
      | 9 => v = .int .i64 ((N : Int) - s)
      | 10 => v = .bool (decide (b ≤ (N : Int) - s))
      | 11 => v = .bool (decide (b ≤ (N : Int) - s))
      | 12 => v = .bool (decide (b ≤ (N : Int) - s))
      | _ => True) (by kernel_rfl) ?_ ?_ ?_
    · (repeat' (first | exact allLt_zero | refine allLt_succ ?_ ?_))
      · exact fun _ _ _ h _ => h
      · exact fun _ _ _ h _ => h
      · exact fun _ _ _ h _ => h
      · exact fun _ _ _ h _ => h
      · exact fun _ _ _ h _ => h
      · exact fun _ _ _ h _ => h
      · exact fun _ _ _ h _ => h
      · exact fun _ _ _ h _ => h
      · exact fun _ _ _ h _ => h
      · exact fun _ _ _ h _ => h
      · exact fun _ _ _ h _ => h
      · exact fun _ _ _ h _ => h
      · exact fun _ _ _ h _ => h
    · (repeat' (first | exact allLt_zero | refine allLt_succ ?_ ?_))
      · intro a w' hf he
        have k2 : a.tmps.getD 2 undef = .pointer (some ⟨w.heap.size, 0, none⟩) := hf.var (by kernel_rfl) rfl
        rw [show kindRow _ _ = none from by kernel_rfl] at hf
        have d0 := (hf.bel.block _ (heap_lt HX.out)).trans HX.out
        have d1 : w'.cell? ⟨w.heap.size, 0, none⟩ = some (.int .i64 b) := by simp [World.cell?, d0]
        have d2 : w'.cell? ⟨w.heap.size, 1, none⟩ = some (.int .i64 s) := by simp [World.cell?, d0]
        clear d0
        refine wpOp_step rfl (fun K hK => ?_)
        go_simp
        exact hK _ _ ⟨_, rfl, rfl, World.grownBy.refl _ _⟩
      · intro a w' hf he
        have f0 : a.tmps.getD 5 undef = .agg #[.int .i64 b, .int .i64 s] := he 0 (by kernel_rfl)
        rw [show kindRow _ _ = none from by kernel_rfl] at hf
        refine wpOp_step rfl (fun K hK => ?_)
        go_simp
        refine (hg _).mono ?_
        rintro e w2 ⟨rfl, hb2⟩
        rw [hd.out]
        exact hK _ _ ⟨_, rfl, rfl, grown_bel hb2⟩
      · intro a w' hf he
        have f1 : a.tmps.getD 6 undef = .bool true := he 1 (by kernel_rfl)
        refine wpOp_step rfl (fun K hK => ?_)
        go_simp
        exact hK _ _ ⟨_, rfl, rfl, World.grownBy.refl _ _⟩
      · intro a w' hf he
        have k2 : a.tmps.getD 2 undef = .pointer (some ⟨w.heap.size, 0, none⟩) := hf.var (by kernel_rfl) rfl
        have f2 : a.tmps.getD 7 undef = .bool true := he 2 (by kernel_rfl)
        refine wpOp_run rfl rfl rfl f2 (fun K hK => ?_)
        go_simp
        exact hK _ _ ⟨_, rfl, rfl, World.grownBy.refl _ _⟩
      · intro a w' hf he
        have f3 : a.tmps.getD 8 undef = .pointer (some ⟨w.heap.size, 0, none⟩) := he 3 (by kernel_rfl)
        have f2 : a.tmps.getD 7 undef = .bool true := he 2 (by kernel_rfl)
        rw [show kindRow _ _ = none from by kernel_rfl] at hf
        have d0 := (hf.bel.block _ (heap_lt HX.out)).trans HX.out
        have d1 : w'.cell? ⟨w.heap.size, 0, none⟩ = some (.int .i64 b) := by simp [World.cell?, d0]
        clear d0
        refine wpOp_run rfl rfl rfl f2 (fun K hK => ?_)
        go_simp
        exact hK _ _ ⟨_, rfl, rfl, World.grownBy.refl _ _⟩
      · intro a w' hf he
        have k1 : a.tmps.getD 1 undef = u := hf.var (by kernel_rfl) rfl
        have f2 : a.tmps.getD 7 undef = .bool true := he 2 (by kernel_rfl)
        refine wpOp_run rfl rfl rfl f2 (fun K hK => ?_)
        go_simp
        exact hK _ _ ⟨_, rfl, rfl, World.grownBy.refl _ _⟩
      · intro a w' hf he
        have f5 : a.tmps.getD 10 undef = u := he 5 (by kernel_rfl)
        have f2 : a.tmps.getD 7 undef = .bool true := he 2 (by kernel_rfl)
        rw [show kindRow _ _ = none from by kernel_rfl] at hf
        refine wpOp_run rfl rfl rfl f2 (fun K hK => ?_)
        go_simp
        refine (c_SizeV (HV.out.bel hf.bel)).mono ?_
        rintro e w2 ⟨rfl, rfl⟩
        exact hK _ _ ⟨_, rfl, rfl, World.grownBy.refl _ _⟩
      · intro a w' hf he
        have k2 : a.tmps.getD 2 undef = .pointer (some ⟨w.heap.size, 0, none⟩) := hf.var (by kernel_rfl) rfl
        have f2 : a.tmps.getD 7 undef = .bool true := he 2 (by kernel_rfl)
        refine wpOp_run rfl rfl rfl f2 (fun K hK => ?_)
        go_simp
        exact hK _ _ ⟨_, rfl, rfl, World.grownBy.refl _ _⟩
      · intro a w' hf he
        have f7 : a.tmps.getD 12 undef = .pointer (some ⟨w.heap.size, 1, none⟩) := he 7 (by kernel_rfl)
        have f2 : a.tmps.getD 7 undef = .bool true := he 2 (by kernel_rfl)
        rw [show kindRow _ _ = none from by kernel_rfl] at hf
        have d0 := (hf.bel.block _ (heap_lt HX.out)).trans HX.out
        have d2 : w'.cell? ⟨w.heap.size, 1, none⟩ = some (.int .i64 s) := by simp [World.cell?, d0]
        clear d0
        refine wpOp_run rfl rfl rfl f2 (fun K hK => ?_)
        go_simp
        exact hK _ _ ⟨_, rfl, rfl, World.grownBy.refl _ _⟩
      · intro a w' hf he
        have f6 : a.tmps.getD 11 undef = .int .i64 (N : Int) := he 6 (by kernel_rfl)
        have f8 : a.tmps.getD 13 undef = .int .i64 s := he 8 (by kernel_rfl)
        have f2 : a.tmps.getD 7 undef = .bool true := he 2 (by kernel_rfl)
        rw [show kindRow _ _ = none from by kernel_rfl] at hf
        refine wpOp_run rfl rfl rfl f2 (fun K hK => ?_)
        go_simp
        rw [show IntKind.i64.wrap ((N : Int) - s) = (N : Int) - s from by rw [IntKind.wrap_i64]; omega]
        exact hK _ _ ⟨_, rfl, rfl, World.grownBy.refl _ _⟩
      · intro a w' hf he
        have f4 : a.tmps.getD 9 undef = .int .i64 b := he 4 (by kernel_rfl)
        have f9 : a.tmps.getD 14 undef = .int .i64 ((N : Int) - s) := he 9 (by kernel_rfl)
        have f2 : a.tmps.getD 7 undef = .bool true := he 2 (by kernel_rfl)
        refine wpOp_run rfl rfl rfl f2 (fun K hK => ?_)
        go_simp
        exact hK _ _ ⟨_, rfl, rfl, World.grownBy.refl _ _⟩
      · intro a w' hf he
        have f2 : a.tmps.getD 7 undef = .bool true := he 2 (by kernel_rfl)
        have f10 : a.tmps.getD 15 undef = .bool (decide (b ≤ (N : Int) - s)) := he 10 (by kernel_rfl)
        refine wpOp_step rfl (fun K hK => ?_)
        go_simp
        exact hK _ _ ⟨_, rfl, rfl, World.grownBy.refl _ _⟩
      · intro a w' hf he
        have f11 : a.tmps.getD 16 undef = .bool (decide (b ≤ (N : Int) - s)) := he 11 (by kernel_rfl)
        refine wpOp_step rfl (fun K hK => ?_)
        go_simp
        exact hK _ _ ⟨_, rfl, rfl, World.grownBy.refl _ _⟩
    · intro a w' hf he
      obtain ⟨u5, f0⟩ : ∃ u, a.tmps.getD 5 undef = u := ⟨_, rfl⟩
      obtain ⟨u6, f1⟩ : ∃ u, a.tmps.getD 6 undef = u := ⟨_, rfl⟩
      obtain ⟨u7, f2⟩ : ∃ u, a.tmps.getD 7 undef = u := ⟨_, rfl⟩
      obtain ⟨u8, f3⟩ : ∃ u, a.tmps.getD 8 undef = u := ⟨_, rfl⟩
      obtain ⟨u9, f4⟩ : ∃ u, a.tmps.getD 9 undef = u := ⟨_, rfl⟩
      obtain ⟨u10, f5⟩ : ∃ u, a.tmps.getD 10 undef = u := ⟨_, rfl⟩
      obtain ⟨u11, f6⟩ : ∃ u, a.tmps.getD 11 undef = u := ⟨_, rfl⟩
      obtain ⟨u12, f7⟩ : ∃ u, a.tmps.getD 12 undef = u := ⟨_, rfl⟩
      obtain ⟨u13, f8⟩ : ∃ u, a.tmps.getD 13 undef = u := ⟨_, rfl⟩
      obtain ⟨u14, f9⟩ : ∃ u, a.tmps.getD 14 undef = u := ⟨_, rfl⟩
      obtain ⟨u15, f10⟩ : ∃ u, a.tmps.getD 15 undef = u := ⟨_, rfl⟩
      obtain ⟨u16, f11⟩ : ∃ u, a.tmps.getD 16 undef = u := ⟨_, rfl⟩
      have f12 : a.tmps.getD 4 undef = .bool (decide (b ≤ (N : Int) - s)) := he 12 (by decide)
      have hlit := hf.lit ((5, u5) :: (6, u6) :: (7, u7) :: (8, u8) :: (9, u9) :: (10, u10) :: (11, u11) :: (12, u12) :: (13, u13) :: (14, u14) :: (15, u15) :: (16, u16) :: (4, .bool (decide (b ≤ (N : Int) - s))) :: []) (by kernel_rfl) ⟨f0, f1, f2, f3, f4, f5, f6, f7, f8, f9, f10, f11, f12, trivial⟩
      have hB := hf.bel
      clear he hf f0 f1 f2 f3 f4 f5 f6 f7 f8 f9 f10 f11 f12 
      subst hlit
      simp only [putAll_nil, putAll_cons, Act.put, List.setIfInBounds_toArray, List.set_cons_zero, List.set_cons_succ]
      simp only [List.drop_succ_cons, List.drop_zero]
      go_wp2_with fail
      go_ret
      exact ⟨rfl, HB.out.trans (hB.mono HB.out.size)⟩
  · have hd := Lib.hid (decide_eq_false h)
    have hon : Hid (decide (On b s N) = false) := Lib.hid (by simp [On, h])
    clear h
    rw [hon.out]
    go_enter Tryz.func157, Tryz.ntmps157
    go_wp2_with fail
    refine wp_region_phi (by kernel_rfl) 13 none (fun _ => false) (fun i_ v wz => match i_ with
      | 0 => v = .agg #[.int .i64 b, .int .i64 s]
      | 1 => v = .bool false
      | 2 => v = .bool false
      | 3 => v = undef
      | 4 => v = undef
      | 5 => v = undef
      | 6 => v = undef
      | 7 => v = undef
      | 8 => v = undef
      | 9 => v = undef
      | 10 => v = undef
      | 11 => v = (.bool false)
      | 12 => v = (.bool false)
      | _ => True) (by kernel_rfl) ?_ ?_ ?_
    · (repeat' (first | exact allLt_zero | refine allLt_succ ?_ ?_))
      · exact fun _ _ _ h _ => h
      · exact fun _ _ _ h _ => h
      · exact fun _ _ _ h _ => h
      · exact fun _ _ _ h _ => h
      · exact fun _ _ _ h _ => h
      · exact fun _ _ _ h _ => h
      · exact fun _ _ _ h _ => h
      · exact fun _ _ _ h _ => h
      · exact fun _ _ _ h _ => h
      · exact fun _ _ _ h _ => h
      · exact fun _ _ _ h _ => h
      · exact fun _ _ _ h _ => h
      · exact fun _ _ _ h _ => h
    · (repeat' (first | exact allLt_zero | refine allLt_succ ?_ ?_))
      · intro a w' hf he
        have k2 : a.tmps.getD 2 undef = .pointer (some ⟨w.heap.size, 0, none⟩) := hf.var (by kernel_rfl) rfl
        rw [show kindRow _ _ = none from by kernel_rfl] at hf
        have d0 := (hf.bel.block _ (heap_lt HX.out)).trans HX.out
        have d1 : w'.cell? ⟨w.heap.size, 0, none⟩ = some (.int .i64 b) := by simp [World.cell?, d0]
        have d2 : w'.cell? ⟨w.heap.size, 1, none⟩ = some (.int .i64 s) := by simp [World.cell?, d0]
        clear d0
        refine wpOp_step rfl (fun K hK => ?_)
        go_simp
        exact hK _ _ ⟨_, rfl, rfl, World.grownBy.refl _ _⟩
      · intro a w' hf he
        have f0 : a.tmps.getD 5 undef = .agg #[.int .i64 b, .int .i64 s] := he 0 (by kernel_rfl)
        rw [show kindRow _ _ = none from by kernel_rfl] at hf
        refine wpOp_step rfl (fun K hK => ?_)
        go_simp
        refine (hg _).mono ?_
        rintro e w2 ⟨rfl, hb2⟩
        rw [hd.out]
        exact hK _ _ ⟨_, rfl, rfl, grown_bel hb2⟩
      · intro a w' hf he
        have f1 : a.tmps.getD 6 undef = .bool false := he 1 (by kernel_rfl)
        refine wpOp_step rfl (fun K hK => ?_)
        go_simp
        exact hK _ _ ⟨_, rfl, rfl, World.grownBy.refl _ _⟩
      · intro a w' hf he
        have f2 : a.tmps.getD 7 undef = .bool false := he 2 (by kernel_rfl)
        exact wpOp_pass rfl rfl rfl f2 rfl ⟨_, rfl, rfl, World.grownBy.refl _ _⟩
      · intro a w' hf he
        have f2 : a.tmps.getD 7 undef = .bool false := he 2 (by kernel_rfl)
        exact wpOp_pass rfl rfl rfl f2 rfl ⟨_, rfl, rfl, World.grownBy.refl _ _⟩
      · intro a w' hf he
        have f2 : a.tmps.getD 7 undef = .bool false := he 2 (by kernel_rfl)
        exact wpOp_pass rfl rfl rfl f2 rfl ⟨_, rfl, rfl, World.grownBy.refl _ _⟩
      · intro a w' hf he
        have f2 : a.tmps.getD 7 undef = .bool false := he 2 (by kernel_rfl)
        exact wpOp_pass rfl rfl rfl f2 rfl ⟨_, rfl, rfl, World.grownBy.refl _ _⟩
      · intro a w' hf he
        have f2 : a.tmps.getD 7 undef = .bool false := he 2 (by kernel_rfl)
        exact wpOp_pass rfl rfl rfl f2 rfl ⟨_, rfl, rfl, World.grownBy.refl _ _⟩
      · intro a w' hf he
        have f2 : a.tmps.getD 7 undef = .bool false := he 2 (by kernel_rfl)
        exact wpOp_pass rfl rfl rfl f2 rfl ⟨_, rfl, rfl, World.grownBy.refl _ _⟩
      · intro a w' hf he
        have f2 : a.tmps.getD 7 undef = .bool false := he 2 (by kernel_rfl)
        exact wpOp_pass rfl rfl rfl f2 rfl ⟨_, rfl, rfl, World.grownBy.refl _ _⟩
      · intro a w' hf he
        have f2 : a.tmps.getD 7 undef = .bool false := he 2 (by kernel_rfl)
        exact wpOp_pass rfl rfl rfl f2 rfl ⟨_, rfl, rfl, World.grownBy.refl _ _⟩
      · intro a w' hf he
        have f2 : a.tmps.getD 7 undef = .bool false := he 2 (by kernel_rfl)
        have f10 : a.tmps.getD 15 undef = undef := he 10 (by kernel_rfl)
        refine wpOp_step rfl (fun K hK => ?_)
        go_simp
        exact hK _ _ ⟨_, rfl, rfl, World.grownBy.refl _ _⟩
      · intro a w' hf he
        have f11 : a.tmps.getD 16 undef = (.bool false) := he 11 (by kernel_rfl)
        refine wpOp_step rfl (fun K hK => ?_)
        go_simp
        exact hK _ _ ⟨_, rfl, rfl, World.grownBy.refl _ _⟩
    · intro a w' hf he
      obtain ⟨u5, f0⟩ : ∃ u, a.tmps.getD 5 undef = u := ⟨_, rfl⟩
      obtain ⟨u6, f1⟩ : ∃ u, a.tmps.getD 6 undef = u := ⟨_, rfl⟩
      obtain ⟨u7, f2⟩ : ∃ u, a.tmps.getD 7 undef = u := ⟨_, rfl⟩
      obtain ⟨u8, f3⟩ : ∃ u, a.tmps.getD 8 undef = u := ⟨_, rfl⟩
      obtain ⟨u9, f4⟩ : ∃ u, a.tmps.getD 9 undef = u := ⟨_, rfl⟩
      obtain ⟨u10, f5⟩ : ∃ u, a.tmps.getD 10 undef = u := ⟨_, rfl⟩
      obtain ⟨u11, f6⟩ : ∃ u, a.tmps.getD 11 undef = u := ⟨_, rfl⟩
      obtain ⟨u12, f7⟩ : ∃ u, a.tmps.getD 12 undef = u := ⟨_, rfl⟩
      obtain ⟨u13, f8⟩ : ∃ u, a.tmps.getD 13 undef = u := ⟨_, rfl⟩
      obtain ⟨u14, f9⟩ : ∃ u, a.tmps.getD 14 undef = u := ⟨_, rfl⟩
      obtain ⟨u15, f10⟩ : ∃ u, a.tmps.getD 15 undef = u := ⟨_, rfl⟩
      obtain ⟨u16, f11⟩ : ∃ u, a.tmps.getD 16 undef = u := ⟨_, rfl⟩
      have f12 : a.tmps.getD 4 undef = (.bool false) := he 12 (by decide)
      have hlit := hf.lit ((5, u5) :: (6, u6) :: (7, u7) :: (8, u8) :: (9, u9) :: (10, u10) :: (11, u11) :: (12, u12) :: (13, u13) :: (14, u14) :: (15, u15) :: (16, u16) :: (4, (.bool false)) :: []) (by kernel_rfl) ⟨f0, f1, f2, f3, f4, f5, f6, f7, f8, f9, f10, f11, f12, trivial⟩
      have hB := hf.bel
      clear he hf f0 f1 f2 f3 f4 f5 f6 f7 f8 f9 f10 f11 f12 
      subst hlit
      simp only [putAll_nil, putAll_cons, Act.put, List.setIfInBounds_toArray, List.set_cons_zero, List.set_cons_succ]
      simp only [List.drop_succ_cons, List.drop_zero]
      go_wp2_with fail
      go_ret
      exact ⟨rfl, HB.out.trans (hB.mono HB.out.size)⟩
end Go.Proofs.YtaldlapnhhhclaaGreat.Slots
/- Contracts of the package slots: read, latest, Latest. Conditions: none. -/
namespace Go.Proofs.YtaldlapnhhhclaaGreat.Slots
open Go.RowKit Tw Disk
set_option maxHeartbeats 2000000
set_option maxRecDepth 100000

theorem read_len {d : Dsk} (h : d.Ok) (x : Int) : (d.read x).1.length = 16 := by
  unfold Dsk.read
  split
  · rename_i hh
    split
    · exact zs_len
    · exact h.view (cell_mem hh)
  · exact zs_len
theorem read_err (d : Dsk) (x : Int) : (d.read x).2 ≤ 13 := by
  unfold Dsk.read
  (repeat' split) <;> simp
section
variable {w : World} {p g mb c : Nat} {d : Dsk}
theorem c_read (h : Dk w p g mb c d) (b s at_ : Int) (hr : RingOk b s) (hat : 0 ≤ at_ ∧ at_ ≤ 4096) :
    Calls Tryz.prog 178 #[.agg #[.int .i64 b, .int .i64 s], .pointer (some ⟨p, 0, none⟩), .int .i64 at_] w fun e w' => e = .returned (.agg #[.int .u32 ((readAt d b s at_).1 : Nat), .int .u64 ((readAt d b s at_).2 : Nat)]) ∧ Below w.heap.size w w' := by
  have HB := Lib.hid (((Below.refl _ _).alloc (Nat.le_refl w.heap.size) (.cells #[.int .i64 b, .int .i64 s] 214)).alloc (by simp) (.cells #[.int .u32 0, .int .u64 0] 217))
  have hx1 := heap_alloc_new w (.cells #[.int .i64 b, .int .i64 s] 214)
  have hx2 := heap_alloc_new (w.alloc (.cells #[.int .i64 b, .int .i64 s] 214)) (.cells #[.int .u32 0, .int .u64 0] 217)
  have HX := Lib.hid ((Below.heap_alloc (w.alloc (.cells #[.int .i64 b, .int .i64 s] 214)) (.cells #[.int .u32 0, .int .u64 0] 217) _ (heap_lt hx1)).trans hx1)
  rw [World.size_alloc] at hx2
  have HY := Lib.hid hx2
  have HK := Lib.hid (h.bel HB.out)
  have hrl := read_len h.ok at_
  have hre := read_err d at_
  have hR := fun w (h : Dk w p g mb c d) => c_dRead h at_ (by omega)
  clear h hx1 hx2
  obtain ⟨⟨x, er⟩, hrd⟩ : ∃ r, d.read at_ = r := ⟨_, rfl⟩
  obtain ⟨⟨r1, r2⟩, hra⟩ : ∃ r, readAt d b s at_ = r := ⟨_, rfl⟩
  rw [hra]
  unfold readAt told at hra
  rw [hrd] at hrl hre hra
  simp only at hrl hre hra
  have Hra := Lib.hid hra
  have Hrd := Lib.hid hrd
  have Hrl := Lib.hid hrl
  have Hr := Lib.hid hr
  have hsz : Hid ((bytesV x).toArray.size = 16) := Lib.hid (by rw [List.size_toArray, bytesV_length]; exact hrl)
  clear hrd hra hrl hr
  go_enter Tryz.func178, Tryz.ntmps178
  go_upto_region 1 with (fail)
  generalize (w.alloc (.cells #[.int .i64 b, .int .i64 s] 214)).alloc (.cells #[.int .u32 0, .int .u64 0] 217) = W1 at *
  by_cases he : er = 0
  · subst he
    obtain ⟨⟨n, q, ok⟩, hop⟩ : ∃ r, Seal.opened x = r := ⟨_, rfl⟩
    have hn := opened_lt x
    rw [hop] at hn
    have hra := Hra.out
    rw [if_pos rfl, hop] at hra
    simp only at hra hn
    have Hop := Lib.hid hop
    have Hn := Lib.hid hn
    have hp := fun w => c_place b s n w Hr.out hn.1
    clear hop hn hre
    cases ok with
    | false =>
      rw [if_neg (by simp)] at hra
      simp only [Prod.mk.injEq] at hra
      have Hre := Lib.hid hra
      clear hra
      go_wp2_with (first
    | (go_at_call 130
       (with_reducible refine (hR _ HK.out).mono ?_)
       rintro e w2 ⟨rfl, hb2⟩
       rw [Hrd.out]
       simp only [secV]
       have HB2 := Lib.hid (HB.out.trans (hb2.mono HB.out.size))
       have HX2 := Lib.hid ((hb2.block _ (heap_lt HX.out)).trans HX.out)
       have HY2 := Lib.hid ((hb2.block _ (heap_lt HY.out)).trans HY.out)
       have HX7 := Lib.hid (heap_alloc_new w2 (.cells #[.int .u8 0, .int .u8 0, .int .u8 0, .int .u8 0, .int .u8 0, .int .u8 0, .int .u8 0, .int .u8 0, .int .u8 0, .int .u8 0, .int .u8 0, .int .u8 0, .int .u8 0, .int .u8 0, .int .u8 0, .int .u8 0] 127))
       clear hb2 hR HB HX HY)
    | (refine wpL_store_all rfl rfl 127 (.tmp 7) (.tmp 16) rfl _ rfl _ rfl _ _ HX7.out (by rw [hsz.out]; kernel_rfl) hsz.out (fun v hv => bytesV_one v (by simpa using hv)) ?_
       intro w5 x5 g5
       have F5 := ((Fr.alloc (S := fun k => k = w2.heap.size) (w := w2) (.cells #[.int .u8 0, .int .u8 0, .int .u8 0, .int .u8 0, .int .u8 0, .int .u8 0, .int .u8 0, .int .u8 0, .int .u8 0, .int .u8 0, .int .u8 0, .int .u8 0, .int .u8 0, .int .u8 0, .int .u8 0, .int .u8 0] 127)).trans (Fr.grown (S := fun k => k = w2.heap.size) g5 (by simp)) (fun b hb e => e))
       have HX5 := Lib.hid x5
       have HB5 := Lib.hid (HB2.out.trans (F5.bel (fun k e => by have := HB2.out.size; omega) HB2.out.size))
       have HX3 := Lib.hid (heap_fr HX2.out F5 (by have := heap_lt HX2.out; omega))
       have HY3 := Lib.hid (heap_fr HY2.out F5 (by have := heap_lt HY2.out; omega))
       clear x5 g5 F5)
    | (go_at_call 191
       (with_reducible refine (Seal.c_Open x _ Hrl.out).mono ?_)
       rintro e w3 ⟨rfl, hb3⟩
       rw [Hop.out]
       have HB6 := Lib.hid (HB5.out.trans (hb3.mono HB5.out.size))
       have HX6 := Lib.hid ((hb3.block _ (heap_lt HX3.out)).trans HX3.out)
       have HY6 := Lib.hid ((hb3.block _ (heap_lt HY3.out)).trans HY3.out)
       have d1 : w3.cell? ⟨w.heap.size, 0, none⟩ = some (.int .i64 b) := by simp [World.cell?, HX6.out]
       have d2 : w3.cell? ⟨w.heap.size, 1, none⟩ = some (.int .i64 s) := by simp [World.cell?, HX6.out]
       clear hb3)
    | (refine wpList_load_row rfl 127 (.tmp 7) rfl _ rfl _ _ _ _ HX5.out Tryz.underlying127 rfl (by rw [hsz.out]; kernel_rfl) ?_)
    | (refine wpL_store_all rfl rfl 217 (.tmp 6) (.tmp 36) rfl _ rfl _ rfl _ _ HY6.out (by kernel_rfl) rfl (by simp [Value.oneCell']) ?_
       intro w9 x9 g9
       have HR := Lib.hid x9
       have HBR := Lib.hid (HB6.out.grown g9 HB6.out.size (by rintro k ⟨⟩; exact Nat.le_succ _))
       clear x9 g9)
    | fail)
      refine bodyPost_ret (results_cell_row rfl _ _ (w.heap.size + 1) _ _ (0, 0) _ rfl HR.out Tryz.underlying217 rfl (by kernel_rfl)) rfl ?_
      rw [← Hre.out.1, ← Hre.out.2]
      exact ⟨rfl, HBR.out⟩
    | true =>
      by_cases hpl : place b s n = at_
      · rw [if_pos ⟨rfl, hpl⟩] at hra
        simp only [Prod.mk.injEq] at hra
        have Hre := Lib.hid hra
        have hne : (place b s n != at_) = false := by simp [hpl]
        clear hra hpl
        go_wp2_with (first
      | (go_at_call 130
         (with_reducible refine (hR _ HK.out).mono ?_)
         rintro e w2 ⟨rfl, hb2⟩
         rw [Hrd.out]
         simp only [secV]
         have HB2 := Lib.hid (HB.out.trans (hb2.mono HB.out.size))
         have HX2 := Lib.hid ((hb2.block _ (heap_lt HX.out)).trans HX.out)
         have HY2 := Lib.hid ((hb2.block _ (heap_lt HY.out)).trans HY.out)
         have HX7 := Lib.hid (heap_alloc_new w2 (.cells #[.int .u8 0, .int .u8 0, .int .u8 0, .int .u8 0, .int .u8 0, .int .u8 0, .int .u8 0, .int .u8 0, .int .u8 0, .int .u8 0, .int .u8 0, .int .u8 0, .int .u8 0, .int .u8 0, .int .u8 0, .int .u8 0] 127))
         clear hb2 hR HB HX HY)
      | (refine wpL_store_all rfl rfl 127 (.tmp 7) (.tmp 16) rfl _ rfl _ rfl _ _ HX7.out (by rw [hsz.out]; kernel_rfl) hsz.out (fun v hv => bytesV_one v (by simpa using hv)) ?_
         intro w5 x5 g5
         have F5 := ((Fr.alloc (S := fun k => k = w2.heap.size) (w := w2) (.cells #[.int .u8 0, .int .u8 0, .int .u8 0, .int .u8 0, .int .u8 0, .int .u8 0, .int .u8 0, .int .u8 0, .int .u8 0, .int .u8 0, .int .u8 0, .int .u8 0, .int .u8 0, .int .u8 0, .int .u8 0, .int .u8 0] 127)).trans (Fr.grown (S := fun k => k = w2.heap.size) g5 (by simp)) (fun b hb e => e))
         have HX5 := Lib.hid x5
         have HB5 := Lib.hid (HB2.out.trans (F5.bel (fun k e => by have := HB2.out.size; omega) HB2.out.size))
         have HX3 := Lib.hid (heap_fr HX2.out F5 (by have := heap_lt HX2.out; omega))
         have HY3 := Lib.hid (heap_fr HY2.out F5 (by have := heap_lt HY2.out; omega))
         clear x5 g5 F5)
      | (go_at_call 191
         (with_reducible refine (Seal.c_Open x _ Hrl.out).mono ?_)
         rintro e w3 ⟨rfl, hb3⟩
         rw [Hop.out]
         have HB6 := Lib.hid (HB5.out.trans (hb3.mono HB5.out.size))
         have HX6 := Lib.hid ((hb3.block _ (heap_lt HX3.out)).trans HX3.out)
         have HY6 := Lib.hid ((hb3.block _ (heap_lt HY3.out)).trans HY3.out)
         have d1 : w3.cell? ⟨w.heap.size, 0, none⟩ = some (.int .i64 b) := by simp [World.cell?, HX6.out]
         have d2 : w3.cell? ⟨w.heap.size, 1, none⟩ = some (.int .i64 s) := by simp [World.cell?, HX6.out]
         clear hb3)
      | (refine wpList_load_row rfl 127 (.tmp 7) rfl _ rfl _ _ _ _ HX5.out Tryz.underlying127 rfl (by rw [hsz.out]; kernel_rfl) ?_)
      | (go_at_call 159
         (with_reducible refine (hp _).mono ?_)
         rintro e w4 ⟨rfl, hb4⟩
         have HB7 := Lib.hid (HB6.out.trans (hb4.mono HB6.out.size))
         have HY7 := Lib.hid ((hb4.block _ (heap_lt HY6.out)).trans HY6.out)
         clear hb4 hp)
      | (refine wpL_store_all rfl rfl 217 (.tmp 6) (.tmp 39) rfl _ rfl _ rfl _ _ HY7.out (by kernel_rfl) rfl (by simp [Value.oneCell']) ?_
         intro w9 x9 g9
         have HR := Lib.hid x9
         have HBR := Lib.hid (HB7.out.grown g9 HB7.out.size (by rintro k ⟨⟩; exact Nat.le_succ _))
         clear x9 g9)
      | fail)
        refine bodyPost_ret (results_cell_row rfl _ _ (w.heap.size + 1) _ _ (0, 0) _ rfl HR.out Tryz.underlying217 rfl (by kernel_rfl)) rfl ?_
        rw [← Hre.out.1, ← Hre.out.2]
        exact ⟨rfl, HBR.out⟩
      · rw [if_neg (fun h => hpl h.2)] at hra
        simp only [Prod.mk.injEq] at hra
        have Hre := Lib.hid hra
        have hne : (place b s n != at_) = true := by simp [hpl]
        clear hra hpl
        go_wp2_with (first
      | (go_at_call 130
         (with_reducible refine (hR _ HK.out).mono ?_)
         rintro e w2 ⟨rfl, hb2⟩
         rw [Hrd.out]
         simp only [secV]
         have HB2 := Lib.hid (HB.out.trans (hb2.mono HB.out.size))
         have HX2 := Lib.hid ((hb2.block _ (heap_lt HX.out)).trans HX.out)
         have HY2 := Lib.hid ((hb2.block _ (heap_lt HY.out)).trans HY.out)
         have HX7 := Lib.hid (heap_alloc_new w2 (.cells #[.int .u8 0, .int .u8 0, .int .u8 0, .int .u8 0, .int .u8 0, .int .u8 0, .int .u8 0, .int .u8 0, .int .u8 0, .int .u8 0, .int .u8 0, .int .u8 0, .int .u8 0, .int .u8 0, .int .u8 0, .int .u8 0] 127))
         clear hb2 hR HB HX HY)
      | (refine wpL_store_all rfl rfl 127 (.tmp 7) (.tmp 16) rfl _ rfl _ rfl _ _ HX7.out (by rw [hsz.out]; kernel_rfl) hsz.out (fun v hv => bytesV_one v (by simpa using hv)) ?_
         intro w5 x5 g5
         have F5 := ((Fr.alloc (S := fun k => k = w2.heap.size) (w := w2) (.cells #[.int .u8 0, .int .u8 0, .int .u8 0, .int .u8 0, .int .u8 0, .int .u8 0, .int .u8 0, .int .u8 0, .int .u8 0, .int .u8 0, .int .u8 0, .int .u8 0, .int .u8 0, .int .u8 0, .int .u8 0, .int .u8 0] 127)).trans (Fr.grown (S := fun k => k = w2.heap.size) g5 (by simp)) (fun b hb e => e))
         have HX5 := Lib.hid x5
         have HB5 := Lib.hid (HB2.out.trans (F5.bel (fun k e => by have := HB2.out.size; omega) HB2.out.size))
         have HX3 := Lib.hid (heap_fr HX2.out F5 (by have := heap_lt HX2.out; omega))
         have HY3 := Lib.hid (heap_fr HY2.out F5 (by have := heap_lt HY2.out; omega))
         clear x5 g5 F5)
      | (go_at_call 191
         (with_reducible refine (Seal.c_Open x _ Hrl.out).mono ?_)
         rintro e w3 ⟨rfl, hb3⟩
         rw [Hop.out]
         have HB6 := Lib.hid (HB5.out.trans (hb3.mono HB5.out.size))
         have HX6 := Lib.hid ((hb3.block _ (heap_lt HX3.out)).trans HX3.out)
         have HY6 := Lib.hid ((hb3.block _ (heap_lt HY3.out)).trans HY3.out)
         have d1 : w3.cell? ⟨w.heap.size, 0, none⟩ = some (.int .i64 b) := by simp [World.cell?, HX6.out]
         have d2 : w3.cell? ⟨w.heap.size, 1, none⟩ = some (.int .i64 s) := by simp [World.cell?, HX6.out]
         clear hb3)
      | (refine wpList_load_row rfl 127 (.tmp 7) rfl _ rfl _ _ _ _ HX5.out Tryz.underlying127 rfl (by rw [hsz.out]; kernel_rfl) ?_)
      | (go_at_call 159
         (with_reducible refine (hp _).mono ?_)
         rintro e w4 ⟨rfl, hb4⟩
         have HB7 := Lib.hid (HB6.out.trans (hb4.mono HB6.out.size))
         have HY7 := Lib.hid ((hb4.block _ (heap_lt HY6.out)).trans HY6.out)
         clear hb4 hp)
      | (refine wpL_store_all rfl rfl 217 (.tmp 6) (.tmp 36) rfl _ rfl _ rfl _ _ HY7.out (by kernel_rfl) rfl (by simp [Value.oneCell']) ?_
         intro w9 x9 g9
         have HR := Lib.hid x9
         have HBR := Lib.hid (HB7.out.grown g9 HB7.out.size (by rintro k ⟨⟩; exact Nat.le_succ _))
         clear x9 g9)
      | fail)
        refine bodyPost_ret (results_cell_row rfl _ _ (w.heap.size + 1) _ _ (0, 0) _ rfl HR.out Tryz.underlying217 rfl (by kernel_rfl)) rfl ?_
        rw [← Hre.out.1, ← Hre.out.2]
        exact ⟨rfl, HBR.out⟩
  · have hra := Hra.out
    rw [if_neg he] at hra
    simp only [Prod.mk.injEq] at hra
    have hne : ((er : Int) != 0) = true := by simp; omega
    have Hre := Lib.hid hra
    clear hra he
    go_wp2_with (first
  | (go_at_call 130
     (with_reducible refine (hR _ HK.out).mono ?_)
     rintro e w2 ⟨rfl, hb2⟩
     rw [Hrd.out]
     simp only [secV]
     have HB2 := Lib.hid (HB.out.trans (hb2.mono HB.out.size))
     have HX2 := Lib.hid ((hb2.block _ (heap_lt HX.out)).trans HX.out)
     have HY2 := Lib.hid ((hb2.block _ (heap_lt HY.out)).trans HY.out)
     have HX7 := Lib.hid (heap_alloc_new w2 (.cells #[.int .u8 0, .int .u8 0, .int .u8 0, .int .u8 0, .int .u8 0, .int .u8 0, .int .u8 0, .int .u8 0, .int .u8 0, .int .u8 0, .int .u8 0, .int .u8 0, .int .u8 0, .int .u8 0, .int .u8 0, .int .u8 0] 127))
     clear hb2 hR HB HX HY)
  | (refine wpL_store_all rfl rfl 127 (.tmp 7) (.tmp 16) rfl _ rfl _ rfl _ _ HX7.out (by rw [hsz.out]; kernel_rfl) hsz.out (fun v hv => bytesV_one v (by simpa using hv)) ?_
     intro w5 x5 g5
     have F5 := ((Fr.alloc (S := fun k => k = w2.heap.size) (w := w2) (.cells #[.int .u8 0, .int .u8 0, .int .u8 0, .int .u8 0, .int .u8 0, .int .u8 0, .int .u8 0, .int .u8 0, .int .u8 0, .int .u8 0, .int .u8 0, .int .u8 0, .int .u8 0, .int .u8 0, .int .u8 0, .int .u8 0] 127)).trans (Fr.grown (S := fun k => k = w2.heap.size) g5 (by simp)) (fun b hb e => e))
     have HX5 := Lib.hid x5
     have HB5 := Lib.hid (HB2.out.trans (F5.bel (fun k e => by have := HB2.out.size; omega) HB2.out.size))
     have HX3 := Lib.hid (heap_fr HX2.out F5 (by have := heap_lt HX2.out; omega))
     have HY3 := Lib.hid (heap_fr HY2.out F5 (by have := heap_lt HY2.out; omega))
     clear x5 g5 F5)
  | (refine wpL_store_all rfl rfl 217 (.tmp 6) (.tmp 20) rfl _ rfl _ rfl _ _ HY3.out (by kernel_rfl) rfl (by simp [Value.oneCell']) ?_
     intro w9 x9 g9
     have HR := Lib.hid x9
     have HBR := Lib.hid (HB5.out.grown g9 HB5.out.size (by rintro k ⟨⟩; exact Nat.le_succ _))
     clear x9 g9)
  | fail)
    refine bodyPost_ret (results_cell_row rfl _ _ (w.heap.size + 1) _ _ (0, 0) _ rfl HR.out Tryz.underlying217 rfl (by kernel_rfl)) rfl ?_
    rw [← Hre.out.1, ← Hre.out.2]
    exact ⟨rfl, HBR.out⟩
end
end Go.Proofs.YtaldlapnhhhclaaGreat.Slots
