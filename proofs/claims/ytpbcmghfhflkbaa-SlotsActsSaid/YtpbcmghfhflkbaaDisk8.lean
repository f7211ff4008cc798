/- Contracts of the package disk: Crash. Conditions: none. -/
import Derived.Test.YtpbcmghfhflkbaaDisk7
import Derived.Test.YtpbcmghfhflkbaaArr
import Derived.Laws.BitsAllLaws
set_option linter.unusedVariables false
set_option linter.unusedSimpArgs false
namespace Go.Proofs.Ytpbcmghfhflkbaa.Disk
open Go.RowKit Tw Go.Maps Go.ChangeMaps Go.Sort
set_option maxHeartbeats 4000000
set_option maxRecDepth 100000

theorem set_fresh (d : Dsk) {i : Nat} (hi : i < d.cells.length) (x : Sec) (y : Int) : ({ d with cells := d.cells.set i (x, none) } : Dsk).fresh y = if y = (i : Int) then none else d.fresh y := by
  have hlen : ({ d with cells := d.cells.set i (x, none) } : Dsk).cells.length = d.cells.length := by simp
  have hh : ∀ z, ({ d with cells := d.cells.set i (x, none) } : Dsk).has z ↔ d.has z := fun z => by rw [has_iff, has_iff, hlen]
  unfold Dsk.fresh
  by_cases hy : d.has y
  · rw [if_pos ((hh y).2 hy)]
    have hy' := (has_iff d y).1 hy
    have hc : ({ d with cells := d.cells.set i (x, none) } : Dsk).cell y = if y = (i : Int) then (x, none) else d.cell y := by
      unfold Dsk.cell
      simp only [List.getD_eq_getElem?_getD]
      by_cases h : y = (i : Int)
      · subst h
        rw [if_pos rfl, Int.toNat_natCast, List.getElem?_set_self hi]
        rfl
      · rw [if_neg h, List.getElem?_set_ne (by omega)]
    rw [hc, if_pos hy]
    split <;> rfl
  · rw [if_neg (fun h => hy ((hh y).1 h)), if_neg hy]
    split <;> rfl
theorem mapIs_del {D : DataW Value} {d : Dsk} (h : MapIs D d) {i : Nat} (hi : i < d.cells.length) (x : Sec) : MapIs (D.del (kl (i : Int))) { d with cells := d.cells.set i (x, none) } := fun y => by
  rw [set_fresh d hi x y]
  by_cases hy : y = (i : Int)
  · subst hy
    rw [if_pos rfl]
    exact ⟨has_del_same, fun z => atKey_del_same z⟩
  · rw [if_neg hy]
    obtain ⟨h1, h2⟩ := h y
    exact ⟨(has_del_other (kl_ne hy)).trans h1, fun z => (atKey_del_other (kl_ne hy) z).trans (h2 z)⟩
theorem durable_set {d : Dsk} (h : d.Ok) {i : Nat} (hi : i < d.cells.length) {x : Sec} (hx : x.length = 16) : splice (bytesV (durable d)) (i * 16) (bytesV x) = bytesV (durable { d with cells := d.cells.set i (x, none) }) := by
  have e1 : durable d = catS (fun j => (d.cells.getD j c0).1) d.cells.length := flat_catS d.cells (·.1)
  have e2 : durable { d with cells := d.cells.set i (x, none) } = catS (fun j => ((d.cells.set i (x, none)).getD j c0).1) d.cells.length := by
    have := flat_catS (d.cells.set i (x, none)) (·.1)
    rw [List.length_set] at this
    exact this
  rw [e1, e2]
  have hgx : ((d.cells.set i (x, none)).getD i c0).1 = x := by rw [List.getD_eq_getElem?_getD, List.getElem?_set_self hi]; rfl
  have := catS_put (f := fun j => (d.cells.getD j c0).1) (g := fun j => ((d.cells.set i (x, none)).getD j c0).1) hi (fun j hj => h.safe _ (cellAt_mem hj)) (by simp only [hgx]; exact hx) (fun j hj hne => by
    simp only [List.getD_eq_getElem?_getD]
    rw [List.getElem?_set_ne (by omega)])
  simp only [hgx] at this
  exact this
theorem durable_keep {d : Dsk} {i : Nat} {s f : Sec} (hc : d.cell (i : Int) = (s, some f)) (hi : i < d.cells.length) : durable { d with cells := d.cells.set i (s, none) } = durable d := by
  have hg : d.cells[i]? = some (s, some f) := by
    have := cell_get (d := d) (at_ := (i : Int)) ((has_iff d _).2 (by omega))
    rw [hc, Int.toNat_natCast] at this
    exact this
  unfold durable
  simp only
  clear hc hi
  generalize d.cells = l at *
  induction l generalizing i with
  | nil => rfl
  | cons a l ih =>
    cases i with
    | zero =>
      simp at hg
      subst hg
      rfl
    | succ i =>
      rw [List.set_cons_succ, List.flatMap_cons, List.flatMap_cons, ih (by simpa using hg)]
theorem own_form0 {w : World} {base : Nat} {e : TypeId} {size n : Nat} {A : Option Addr} {c : Nat} {xs : List Value} (h : Tw.Own w base e size A n c xs) (hn : 0 < n) : ∃ g, A = some ⟨g, 0, none⟩ ∧ base ≤ g ∧ g < w.heap.size := by
  have hl := h.lt
  rcases h.2 with ⟨hv, h0⟩ | ⟨g', cap, cur, hv, _⟩
  · omega
  · injection hv with h1
    subst h1
    exact ⟨g', rfl, hl g' rfl⟩

/-- the mask's bit, as the program reckons it -/
theorem mask_vals (mask k : Nat) (hm : mask < 18446744073709551616) : Value.int .i64 ((k : Int).tmod 64) = .int .i64 ((k : Int) % 64) ∧ Value.int .u64 ((mask : Int) / 2 ^ ((k : Int) % 64).toNat) = .int .u64 ((mask / 2 ^ (k % 64) : Nat) : Int) ∧
    Value.int .u64 (bits .and .u64 ((mask : Int) / 2 ^ (k % 64)) 1) = .int .u64 ((mask / 2 ^ (k % 64) % 2 : Nat) : Int) ∧ Value.bool ((mask : Int) / 2 ^ (k % 64) % 2 == 1) = .bool (decide (mask / 2 ^ (k % 64) % 2 = 1)) := by
  have hlt : mask / 2 ^ (k % 64) < 18446744073709551616 := Nat.lt_of_le_of_lt (Nat.div_le_self _ _) hm
  have hcast : (mask : Int) / 2 ^ (k % 64) = ((mask / 2 ^ (k % 64) : Nat) : Int) := by simp
  refine ⟨by rw [Int.tmod_eq_emod_of_nonneg (by omega)], ?_, ?_, ?_⟩
  · rw [show ((k : Int) % 64).toNat = k % 64 by omega, hcast]
  · rw [hcast, show (1 : Int) = ((1 : Nat) : Int) from rfl, u64_and_nat _ 1 hlt (by omega), Nat.and_one_is_mod]
  · rw [hcast]
    congr 1
    rw [Bool.eq_iff_iff]
    simp only [beq_iff_eq, decide_eq_true_eq]
    omega
section
variable {w w' : World} {p g mb c : Nat} {d : Dsk}
/-- a disk whose cells are other ones, and whose map is less -/
theorem Dk.cut (h : Dk w p g mb c d) {i : Nat} (hi : i < d.cells.length) {x : Sec} (hx : x.length = 16) {D : DataW Value} {m : Nat} (hm : w'.ownsMap Try.prog 3 R mb m (D.del (kl (i : Int)))) (hle : m ≤ d.ops) (hD : MapIs D d)
    (hb : w'.heap[p]? = w.heap[p]?) (ho : Tw.Own w' 0 35 16 (some ⟨g, 0, none⟩) d.cells.length c (bytesV (durable { d with cells := d.cells.set i (x, none) }))) : Dk w' p g mb c { d with cells := d.cells.set i (x, none) } := by
  refine ⟨⟨by simpa using h.ok.n, fun c hc => ?_, fun c hc s' hs' => ?_, h.ok.fuse, h.ok.ops⟩, ?_, ?_, ⟨_, m, hm, hle, mapIs_del hD hi x⟩, h.ne⟩
  · rcases List.mem_or_eq_of_mem_set hc with hc | rfl
    · exact h.ok.safe c hc
    · exact hx
  · rcases List.mem_or_eq_of_mem_set hc with hc | rfl
    · exact h.ok.fresh c hc s' hs'
    · cases hs'
  · rw [hb, h.blk]
    simp
  · simpa using ho
theorem c_Crash (h : Dk w p g mb c d) (mask : Nat) (hmask : mask < 18446744073709551616) : Calls Try.prog 20 #[.pointer (some ⟨p, 0, none⟩), .int .u64 (mask : Int)] w fun e w' => e = .returned (.tuple #[]) ∧ Dk w' p g mb c (d.crash mask) ∧ Fr (fun k => k = p ∨ k = g ∨ k = mb) w w' := by
  have hlt := h.lts
  have hne := h.ne
  have hn := h.ok.n
  have hcl := cached_len d
  have Hok := Lib.hid h.ok
  have H := Lib.hid h
  have Hc0 := Lib.hid (crashTo_zero d mask)
  have Hc1 := Lib.hid (crashTo_all d mask)
  have Hzl := Lib.hid (cachedZ_len d)
  clear h
  generalize hN : d.cached.length = N at *
  go_enter Try.func20, Try.ntmps20
  go_wp2_with (first
    | (go_at_call 90
       (with_reducible refine (c_Made H.out).mono ?_)
       rintro e w' ⟨rfl, rfl⟩)
    | (go_at_call 100
       refine (c_Cached H.out).mono ?_
       rintro e w1 ⟨A, c2, rfl, hrow, hb1⟩
       rw [hN] at hrow ⊢
       have HR := Lib.hid hrow
       have H1 := Lib.hid (H.out.bel hb1)
       have HF := Lib.hid (Fr.of_bel (S := fun k => k = p ∨ k = g ∨ k = mb) hb1)
       clear hrow hb1 H))
  go_loopw [13] (fun v wr => ∃ k : Nat, k ≤ N ∧ v = .int .i64 (k : Int) ∧ Hid (Dk wr p g mb c (d.crashTo mask k)) ∧ Hid (Tw.Own wr w.heap.size 3 1 A N c2 (d.cachedZ.map encZ)) ∧ Hid (Fr (fun k => k = p ∨ k = g ∨ k = mb) w wr)) (fun i _ => N - (intOf i).toNat)
  case atStart => exact ⟨0, Nat.zero_le _, rfl, by rw [Hc0.out]; exact H1, HR, HF⟩
  case round =>
    clear H1 HR HF Hc0
    obtain ⟨k, hk, rfl, HK, HR, HF⟩ := hrel
    by_cases hkn : k < N
    · obtain ⟨gb, rfl, hgb, hgl⟩ := own_form0 HR.out (by omega)
      obtain ⟨x, hx⟩ : ∃ x, d.cachedZ[k]? = some x := ⟨_, List.getElem?_eq_getElem (by rw [Hzl.out]; exact hkn)⟩
      obtain ⟨i, s, f, rfl, hi, hs, hf, hcell, hfresh, hnext⟩ := crash_round Hok.out mask k hx
      have hcx : wr.cell? ⟨gb, k, none⟩ = some (.int .i64 (i : Int)) := by
        have h1 := HR.out.rd.cell _ rfl k (.int .i64 (i : Int)) (by rw [List.getElem?_map, hx]; rfl)
        rw [Addr.add_mid, Nat.zero_add] at h1
        exact h1
      have hcl2 := (crashTo_len d mask k)
      generalize d.crashTo mask k = dk at *
      rw [← hcl2] at hi
      have hn2 : dk.cells.length ≤ 1024 := by omega
      clear hcl2
      have HNx := Lib.hid hnext
      have HCell := Lib.hid hcell
      have HFr := Lib.hid hfresh
      obtain ⟨k0, k1, k2, k3, k4⟩ := HK.out.cells
      obtain ⟨D, m, hm, hle, hD⟩ := HK.out.map
      obtain ⟨hD1, hD2⟩ := hD (i : Int)
      rw [hfresh] at hD1 hD2
      have Hm := Lib.hid hm
      have hlook : (Instr.lookup 176 (.map (some mb)) (.int .i64 (i : Int)) false).run Try.prog wr = .ok (.agg (bytesV f).toArray) wr := by
        obtain ⟨v, ps, hrun, hv⟩ := hm.lookup law Try.underlying176 (zeroE wr) (R := R) (zd := .held (secV zs)) (zp := []) rfl (hkey (x := (i : Int)) (by omega))
        rw [hD2] at hv
        simp only [R, atOf, secV, Option.some.injEq, Prod.mk.injEq, DataW.held.injEq] at hv
        rw [hrun, hv.1]
      have HD := Lib.hid hD
      have HD2 := Lib.hid hD2
      have Hle := Lib.hid hle
      have hfl : (bytesV f).toArray.size = 16 := by simp [bytesV, hf]
      have Hfl := Lib.hid hfl
      have Hs := Lib.hid hs
      have Hf := Lib.hid hf
      have hlw := HK.out.lts
      have HX := Lib.hid (heap_alloc_new wr (.cells #[.int .u8 0, .int .u8 0, .int .u8 0, .int .u8 0, .int .u8 0, .int .u8 0, .int .u8 0, .int .u8 0, .int .u8 0, .int .u8 0, .int .u8 0, .int .u8 0, .int .u8 0, .int .u8 0, .int .u8 0, .int .u8 0] 35))
      have FA := Lib.hid (Fr.alloc (S := fun k => False) (w := wr) (.cells #[.int .u8 0, .int .u8 0, .int .u8 0, .int .u8 0, .int .u8 0, .int .u8 0, .int .u8 0, .int .u8 0, .int .u8 0, .int .u8 0, .int .u8 0, .int .u8 0, .int .u8 0, .int .u8 0, .int .u8 0, .int .u8 0] 35))
      have hii : -9223372036854775808 ≤ (i : Int) ∧ (i : Int) ≤ 9223372036854775807 := by omega
      clear hx hcell hfresh hnext hm hle hD hD1 hD2 hs hf hfl
      go_upto_region 6 with (first
        | (refine wpL_store_all rfl rfl 35 (.tmp 6) (.tmp 23) rfl _ rfl _ rfl _ _ HX.out (by rw [Hfl.out]; kernel_rfl) Hfl.out (fun v hv => bytesV_one v (by simpa using hv)) ?_
           intro w5 x5 g5
           have HX5 := Lib.hid x5
           have F5 := Lib.hid (FA.out.trans (Fr.grown (S := fun k => k = wr.heap.size) g5 (by simp)) (fun b hb e => absurd e (by omega)))
           have Hm5 := Lib.hid (ownsMap_fr Hm.out F5.out (fun e => e))
           have kk1 := (F5.out.block p hlw.1 (fun e => e))
           have d1 : w5.cell? ⟨p, 1, none⟩ = some (.map (some mb)) := by simp only [World.cell?, kk1]; exact k1
           clear x5 g5 k0 k1 k2 k3 k4 kk1)
        | (at_delete
           refine wpList_delete_own _ rfl _ _ 176 3 rfl 35 law Try.underlying176 R mb m D rfl Hm5.out _ (kl (i : Int)) rfl (hkey hii) ?_
           intro w6 hown6 hturn
           have Hm6 := Lib.hid hown6
           have Hg6 := Lib.hid hturn.grown
           clear hown6 hturn))
      simp only [Act.put]
      have hg6 := Hg6.out
      have Hblk6 := Lib.hid (heap_grown (heap_fr HK.out.blk F5.out (fun e => e)) hg6 (by simpa using fun e => hne.2.1 e))
      have Hown6 : Hid (Tw.Own w6 0 35 16 (some ⟨g, 0, none⟩) dk.cells.length c (bytesV (durable dk))) := Lib.hid ((HK.out.own.fr (S := fun _ => False) F5.out (fun _ _ e => e)).kept hg6 (by right; simpa [Value.ownBlock] using hne.2.2))
      have HX6 := Lib.hid (heap_grown HX5.out hg6 (by simp; omega))
      have F6 : Hid (Fr (fun k => k = p ∨ k = g ∨ k = mb) w w6) := Lib.hid ((HF.out.trans F5.out (fun _ _ e => e.elim)).trans (Fr.grown (S := fun k => k = mb) hg6 (by simp)) (fun _ _ e => .inr (.inr e)))
      have HR6 : Hid (Tw.Own w6 w.heap.size 3 1 (some ⟨gb, 0, none⟩) N c2 (d.cachedZ.map encZ)) := Lib.hid ((HR.out.fr (S := fun _ => False) F5.out (fun _ _ e => e)).kept hg6 (by right; simp [Value.ownBlock]; omega))
      clear hg6 HX5 F5 Hm5 HX FA Hg6 HR HF Hm
      have hsp : spared mask k = decide (mask / 2 ^ (k % 64) % 2 = 1) := rfl
      have E := Lib.hid (mask_vals mask k hmask)
      have Hp := Lib.hid HK.out.blk
      cases hb : spared mask k with
      | false =>
        rw [hb] at hsp
        have E5 : Hid (Value.bool ((mask : Int) / 2 ^ (k % 64) % 2 == 1) = .bool false) := Lib.hid (by rw [E.out.2.2.2, ← hsp])
        rw [hb] at HNx
        clear hsp hb
        refine wp_region_phi (by kernel_rfl) 17 none (fun _ => false) (fun i_ v wz => match i_ with
          | 0 => v = .int .u64 (mask : Int)
          | 1 => v = .int .i64 (k : Int)
          | 2 => v = .int .i64 ((k : Int) % 64)
          | 3 => v = .int .u64 ((mask / 2 ^ (k % 64) : Nat) : Int)
          | 4 => v = .int .u64 ((mask / 2 ^ (k % 64) % 2 : Nat) : Int)
          | 5 => v = .bool false
          | 6 => v = .bool false
          | 7 => v = undef
          | 8 => v = undef
          | 9 => v = undef
          | 10 => v = undef
          | 11 => v = undef
          | 12 => v = undef
          | 13 => v = undef
          | 14 => v = undef
          | 15 => v = undef
          | 16 => v = (.bool false)
          | _ => True) (by kernel_rfl) ?_ ?_ ?_
        · (repeat' (first | exact allLt_zero | refine allLt_succ ?_ ?_))
          · exact fun _ _ _ h _ => h
          · exact fun _ _ _ h _ => h
          · exact fun _ _ _ h _ => h
          · exact fun _ _ _ h _ => h
          · exact fun _ _ _ h _ => h
          · exact fun _ _ _ h _ => h
          · exact fun _ _ _ h _ => h
          · exact fun _ _ _ h _ => h
          · exact fun _ _ _ h _ => h
          · exact fun _ _ _ h _ => h
          · exact fun _ _ _ h _ => h
          · exact fun _ _ _ h _ => h
          · exact fun _ _ _ h _ => h
          · exact fun _ _ _ h _ => h
          · exact fun _ _ _ h _ => h
          · exact fun _ _ _ h _ => h
          · exact fun _ _ _ h _ => h
        · (repeat' (first | exact allLt_zero | refine allLt_succ ?_ ?_))
          · intro a w' hf he
            have k1 : a.tmps.getD 1 undef = .int .u64 (mask : Int) := hf.var (by kernel_rfl) rfl
            refine wpOp_step rfl (fun K hK => ?_)
            go_simp
            exact hK _ _ ⟨_, rfl, rfl, World.grownBy.refl _ _⟩
          · intro a w' hf he
            have k4 : a.tmps.getD 4 undef = .int .i64 (k : Int) := hf.var (by kernel_rfl) rfl
            refine wpOp_step rfl (fun K hK => ?_)
            go_simp
            exact hK _ _ ⟨_, rfl, rfl, World.grownBy.refl _ _⟩
          · intro a w' hf he
            have f1 : a.tmps.getD 30 undef = .int .i64 (k : Int) := he 1 (by kernel_rfl)
            rw [show kindRow _ _ = none from by kernel_rfl] at hf
            refine wpOp_step rfl (fun K hK => ?_)
            go_simp
            exact hK _ _ ⟨_, rfl, E.out.1, World.grownBy.refl _ _⟩
          · intro a w' hf he
            have f0 : a.tmps.getD 29 undef = .int .u64 (mask : Int) := he 0 (by kernel_rfl)
            have f2 : a.tmps.getD 31 undef = .int .i64 ((k : Int) % 64) := he 2 (by kernel_rfl)
            rw [show kindRow _ _ = none from by kernel_rfl] at hf
            refine wpOp_step rfl (fun K hK => ?_)
            go_simp
            exact hK _ _ ⟨_, rfl, E.out.2.1, World.grownBy.refl _ _⟩
          · intro a w' hf he
            have f3 : a.tmps.getD 32 undef = .int .u64 ((mask / 2 ^ (k % 64) : Nat) : Int) := he 3 (by kernel_rfl)
            rw [show kindRow _ _ = none from by kernel_rfl] at hf
            refine wpOp_step rfl (fun K hK => ?_)
            go_simp
            exact hK _ _ ⟨_, rfl, E.out.2.2.1, World.grownBy.refl _ _⟩
          · intro a w' hf he
            have f4 : a.tmps.getD 33 undef = .int .u64 ((mask / 2 ^ (k % 64) % 2 : Nat) : Int) := he 4 (by kernel_rfl)
            rw [show kindRow _ _ = none from by kernel_rfl] at hf
            refine wpOp_step rfl (fun K hK => ?_)
            go_simp
            exact hK _ _ ⟨_, rfl, E5.out, World.grownBy.refl _ _⟩
          · intro a w' hf he
            have f5 : a.tmps.getD 34 undef = .bool false := he 5 (by kernel_rfl)
            refine wpOp_step rfl (fun K hK => ?_)
            go_simp
            exact hK _ _ ⟨_, rfl, rfl, World.grownBy.refl _ _⟩
          · intro a w' hf he
            have f6 : a.tmps.getD 35 undef = .bool false := he 6 (by kernel_rfl)
            exact wpOp_pass rfl rfl rfl f6 rfl ⟨_, rfl, rfl, World.grownBy.refl _ _⟩
          · intro a w' hf he
            have f6 : a.tmps.getD 35 undef = .bool false := he 6 (by kernel_rfl)
            exact wpOp_pass rfl rfl rfl f6 rfl ⟨_, rfl, rfl, World.grownBy.refl _ _⟩
          · intro a w' hf he
            have f6 : a.tmps.getD 35 undef = .bool false := he 6 (by kernel_rfl)
            exact wpOp_pass rfl rfl rfl f6 rfl ⟨_, rfl, rfl, World.grownBy.refl _ _⟩
          · intro a w' hf he
            have f6 : a.tmps.getD 35 undef = .bool false := he 6 (by kernel_rfl)
            exact wpOp_pass rfl rfl rfl f6 rfl ⟨_, rfl, rfl, World.grownBy.refl _ _⟩
          · intro a w' hf he
            have f6 : a.tmps.getD 35 undef = .bool false := he 6 (by kernel_rfl)
            exact wpOp_pass rfl rfl rfl f6 rfl ⟨_, rfl, rfl, World.grownBy.refl _ _⟩
          · intro a w' hf he
            have f6 : a.tmps.getD 35 undef = .bool false := he 6 (by kernel_rfl)
            exact wpOp_pass rfl rfl rfl f6 rfl ⟨_, rfl, rfl, World.grownBy.refl _ _⟩
          · intro a w' hf he
            have f6 : a.tmps.getD 35 undef = .bool false := he 6 (by kernel_rfl)
            exact wpOp_pass rfl rfl rfl f6 rfl ⟨_, rfl, rfl, World.grownBy.refl _ _⟩
          · intro a w' hf he
            have f6 : a.tmps.getD 35 undef = .bool false := he 6 (by kernel_rfl)
            exact wpOp_pass rfl rfl rfl f6 rfl ⟨_, rfl, rfl, World.grownBy.refl _ _⟩
          · intro a w' hf he
            have f6 : a.tmps.getD 35 undef = .bool false := he 6 (by kernel_rfl)
            exact wpOp_pass rfl rfl rfl f6 rfl ⟨_, rfl, rfl, World.grownBy.refl _ _⟩
          · intro a w' hf he
            have f6 : a.tmps.getD 35 undef = .bool false := he 6 (by kernel_rfl)
            have f15 : a.tmps.getD 44 undef = undef := he 15 (by kernel_rfl)
            refine wpOp_step rfl (fun K hK => ?_)
            go_simp
            exact hK _ _ ⟨_, rfl, rfl, World.grownBy.refl _ _⟩
        · intro a w' hf he
          obtain ⟨u29, f0⟩ : ∃ u, a.tmps.getD 29 undef = u := ⟨_, rfl⟩
          obtain ⟨u30, f1⟩ : ∃ u, a.tmps.getD 30 undef = u := ⟨_, rfl⟩
          obtain ⟨u31, f2⟩ : ∃ u, a.tmps.getD 31 undef = u := ⟨_, rfl⟩
          obtain ⟨u32, f3⟩ : ∃ u, a.tmps.getD 32 undef = u := ⟨_, rfl⟩
          obtain ⟨u33, f4⟩ : ∃ u, a.tmps.getD 33 undef = u := ⟨_, rfl⟩
          obtain ⟨u34, f5⟩ : ∃ u, a.tmps.getD 34 undef = u := ⟨_, rfl⟩
          obtain ⟨u35, f6⟩ : ∃ u, a.tmps.getD 35 undef = u := ⟨_, rfl⟩
          obtain ⟨u36, f7⟩ : ∃ u, a.tmps.getD 36 undef = u := ⟨_, rfl⟩
          obtain ⟨u37, f8⟩ : ∃ u, a.tmps.getD 37 undef = u := ⟨_, rfl⟩
          obtain ⟨u38, f9⟩ : ∃ u, a.tmps.getD 38 undef = u := ⟨_, rfl⟩
          obtain ⟨u39, f10⟩ : ∃ u, a.tmps.getD 39 undef = u := ⟨_, rfl⟩
          obtain ⟨u40, f11⟩ : ∃ u, a.tmps.getD 40 undef = u := ⟨_, rfl⟩
          obtain ⟨u41, f12⟩ : ∃ u, a.tmps.getD 41 undef = u := ⟨_, rfl⟩
          obtain ⟨u42, f13⟩ : ∃ u, a.tmps.getD 42 undef = u := ⟨_, rfl⟩
          obtain ⟨u43, f14⟩ : ∃ u, a.tmps.getD 43 undef = u := ⟨_, rfl⟩
          obtain ⟨u44, f15⟩ : ∃ u, a.tmps.getD 44 undef = u := ⟨_, rfl⟩
          have f16 : a.tmps.getD 45 undef = (.bool false) := he 16 (by decide)
          have hlit := hf.lit ((29, u29) :: (30, u30) :: (31, u31) :: (32, u32) :: (33, u33) :: (34, u34) :: (35, u35) :: (36, u36) :: (37, u37) :: (38, u38) :: (39, u39) :: (40, u40) :: (41, u41) :: (42, u42) :: (43, u43) :: (44, u44) :: (45, (.bool false)) :: []) (by kernel_rfl) ⟨f0, f1, f2, f3, f4, f5, f6, f7, f8, f9, f10, f11, f12, f13, f14, f15, f16, trivial⟩
          have hB := hf.bel
          clear he hf f0 f1 f2 f3 f4 f5 f6 f7 f8 f9 f10 f11 f12 f13 f14 f15 f16 
          subst hlit
          simp only [putAll_nil, putAll_cons, Act.put, List.setIfInBounds_toArray, List.set_cons_zero, List.set_cons_succ]
          simp only [List.drop_succ_cons, List.drop_zero]
          have Hm7 := Lib.hid (ownsMap_fr Hm6.out (Fr.of_bel (S := fun _ => False) hB) (fun e => e))
          have Hb7 := Lib.hid ((hB.block _ (heap_lt Hblk6.out)).trans (Hblk6.out.trans Hp.out.symm))
          have Ho7 := Lib.hid (Tw.Own.bel Hown6.out hB)
          have F7 := Lib.hid (F6.out.trans (Fr.of_bel (S := fun k => k = p ∨ k = g ∨ k = mb) hB) (fun _ _ e => e))
          have HR7 := Lib.hid (Tw.Own.bel HR6.out hB)
          clear hB Hm6 Hblk6 Hown6 F6 HR6
          go_wp2_with fail
          go_roundw
          case rel =>
            refine ⟨k + 1, by omega, by go_num, ?_, HR7, F7⟩
            rw [HNx.out]
            exact Lib.hid (HK.out.cut hi Hs.out Hm7.out Hle.out HD.out Hb7.out (by simp only [Bool.false_eq_true, if_false]; rw [durable_keep HCell.out hi]; exact Ho7.out))
          case measure => simp [intOf] <;> omega
      | true =>
        rw [hb] at hsp
        have E5 : Hid (Value.bool ((mask : Int) / 2 ^ (k % 64) % 2 == 1) = .bool true) := Lib.hid (by rw [E.out.2.2.2, ← hsp])
        rw [hb] at HNx
        have hsafe : Hid (∀ j v, (bytesV s)[j]? = some v → w6.cell? ((⟨g, i * 16, none⟩ : Addr).add j) = some v) := Lib.hid (fun j v hv => by
          have hj := (List.getElem?_eq_some_iff.1 hv).1
          rw [bytesV_length, Hs.out] at hj
          have h1 : (bytesV (durable dk))[i * 16 + j]? = some v := by
            have h2 := durable_get HK.out.ok (at_ := (i : Int)) ((has_iff dk _).2 (by omega)) hj
            rw [Int.toNat_natCast, HCell.out] at h2
            simp only [bytesV, List.getElem?_map] at hv ⊢
            rw [h2, hv]
          have h3 := Hown6.out.rd.cell _ rfl _ _ h1
          rw [Addr.add_mid, Nat.zero_add] at h3
          rw [Addr.add_mid]
          exact h3)
        have hq := run_eql_barr (P := Try.prog) w6 f s Hf.out Hs.out Try.underlying35 Try.underlying5 (by kernel_rfl)
        obtain ⟨q, hqd⟩ : ∃ q, decide (f = s) = q := ⟨_, rfl⟩
        have Hq := Lib.hid hqd
        clear hsp hb hq hqd
        refine wp_region_phi (by kernel_rfl) 17 none (fun _ => false) (fun i_ v wz => match i_ with
          | 0 => v = .int .u64 (mask : Int)
          | 1 => v = .int .i64 (k : Int)
          | 2 => v = .int .i64 ((k : Int) % 64)
          | 3 => v = .int .u64 ((mask / 2 ^ (k % 64) : Nat) : Int)
          | 4 => v = .int .u64 ((mask / 2 ^ (k % 64) % 2 : Nat) : Int)
          | 5 => v = .bool true
          | 6 => v = .bool true
          | 7 => v = .agg (bytesV f).toArray
          | 8 => v = .pointer (some ⟨p, 0, none⟩)
          | 9 => v = .pointer (some ⟨p, 0, none⟩)
          | 10 => v = .pointer (some ⟨p, 0, none⟩)
          | 11 => v = .slice (some ⟨g, 0, none⟩) dk.cells.length c
          | 12 => v = .int .i64 (i : Int)
          | 13 => v = .pointer (some ⟨g, i * 16, none⟩)
          | 14 => v = .agg (bytesV s).toArray
          | 15 => v = .bool (!q)
          | 16 => v = .bool (!q)
          | _ => True) (by kernel_rfl) ?_ ?_ ?_
        · (repeat' (first | exact allLt_zero | refine allLt_succ ?_ ?_))
          · exact fun _ _ _ h _ => h
          · exact fun _ _ _ h _ => h
          · exact fun _ _ _ h _ => h
          · exact fun _ _ _ h _ => h
          · exact fun _ _ _ h _ => h
          · exact fun _ _ _ h _ => h
          · exact fun _ _ _ h _ => h
          · exact fun _ _ _ h _ => h
          · exact fun _ _ _ h _ => h
          · exact fun _ _ _ h _ => h
          · exact fun _ _ _ h _ => h
          · exact fun _ _ _ h _ => h
          · exact fun _ _ _ h _ => h
          · exact fun _ _ _ h _ => h
          · exact fun _ _ _ h _ => h
          · exact fun _ _ _ h _ => h
          · exact fun _ _ _ h _ => h
        · (repeat' (first | exact allLt_zero | refine allLt_succ ?_ ?_))
          · intro a w' hf he
            have k1 : a.tmps.getD 1 undef = .int .u64 (mask : Int) := hf.var (by kernel_rfl) rfl
            refine wpOp_step rfl (fun K hK => ?_)
            go_simp
            exact hK _ _ ⟨_, rfl, rfl, World.grownBy.refl _ _⟩
          · intro a w' hf he
            have k4 : a.tmps.getD 4 undef = .int .i64 (k : Int) := hf.var (by kernel_rfl) rfl
            refine wpOp_step rfl (fun K hK => ?_)
            go_simp
            exact hK _ _ ⟨_, rfl, rfl, World.grownBy.refl _ _⟩
          · intro a w' hf he
            have f1 : a.tmps.getD 30 undef = .int .i64 (k : Int) := he 1 (by kernel_rfl)
            rw [show kindRow _ _ = none from by kernel_rfl] at hf
            refine wpOp_step rfl (fun K hK => ?_)
            go_simp
            exact hK _ _ ⟨_, rfl, E.out.1, World.grownBy.refl _ _⟩
          · intro a w' hf he
            have f0 : a.tmps.getD 29 undef = .int .u64 (mask : Int) := he 0 (by kernel_rfl)
            have f2 : a.tmps.getD 31 undef = .int .i64 ((k : Int) % 64) := he 2 (by kernel_rfl)
            rw [show kindRow _ _ = none from by kernel_rfl] at hf
            refine wpOp_step rfl (fun K hK => ?_)
            go_simp
            exact hK _ _ ⟨_, rfl, E.out.2.1, World.grownBy.refl _ _⟩
          · intro a w' hf he
            have f3 : a.tmps.getD 32 undef = .int .u64 ((mask / 2 ^ (k % 64) : Nat) : Int) := he 3 (by kernel_rfl)
            rw [show kindRow _ _ = none from by kernel_rfl] at hf
            refine wpOp_step rfl (fun K hK => ?_)
            go_simp
            exact hK _ _ ⟨_, rfl, E.out.2.2.1, World.grownBy.refl _ _⟩
          · intro a w' hf he
            have f4 : a.tmps.getD 33 undef = .int .u64 ((mask / 2 ^ (k % 64) % 2 : Nat) : Int) := he 4 (by kernel_rfl)
            rw [show kindRow _ _ = none from by kernel_rfl] at hf
            refine wpOp_step rfl (fun K hK => ?_)
            go_simp
            exact hK _ _ ⟨_, rfl, E5.out, World.grownBy.refl _ _⟩
          · intro a w' hf he
            have f5 : a.tmps.getD 34 undef = .bool true := he 5 (by kernel_rfl)
            refine wpOp_step rfl (fun K hK => ?_)
            go_simp
            exact hK _ _ ⟨_, rfl, rfl, World.grownBy.refl _ _⟩
          · intro a w' hf he
            have k6 : a.tmps.getD 6 undef = .pointer (some ⟨wr.heap.size, 0, none⟩) := hf.var (by kernel_rfl) rfl
            have f6 : a.tmps.getD 35 undef = .bool true := he 6 (by kernel_rfl)
            rw [show kindRow _ _ = none from by kernel_rfl] at hf
            refine wpOp_run rfl rfl rfl f6 (fun K hK => ?_)
            refine wp_load_rd 35 (.tmp 6) rfl ⟨wr.heap.size, 0, none⟩ k6 (bytesV f) _ ((rd_of_heap (n := 16) ((hf.bel.block _ (heap_lt HX6.out)).trans HX6.out) (by rw [bytesV_length, Hf.out]) (by simp [maxLen])).cell _ rfl) Try.underlying35 rfl (by rw [bytesV_length, Hf.out]; kernel_rfl) ?_
            exact hK _ _ ⟨_, rfl, rfl, World.grownBy.refl _ _⟩
          · intro a w' hf he
            have k0 : a.tmps.getD 0 undef = .pointer (some ⟨p, 0, none⟩) := hf.var (by kernel_rfl) rfl
            have f6 : a.tmps.getD 35 undef = .bool true := he 6 (by kernel_rfl)
            refine wpOp_run rfl rfl rfl f6 (fun K hK => ?_)
            go_simp
            exact hK _ _ ⟨_, rfl, rfl, World.grownBy.refl _ _⟩
          · intro a w' hf he
            have f8 : a.tmps.getD 37 undef = .pointer (some ⟨p, 0, none⟩) := he 8 (by kernel_rfl)
            have f6 : a.tmps.getD 35 undef = .bool true := he 6 (by kernel_rfl)
            refine wpOp_run rfl rfl rfl f6 (fun K hK => ?_)
            go_simp
            exact hK _ _ ⟨_, rfl, rfl, World.grownBy.refl _ _⟩
          · intro a w' hf he
            have f9 : a.tmps.getD 38 undef = .pointer (some ⟨p, 0, none⟩) := he 9 (by kernel_rfl)
            have f6 : a.tmps.getD 35 undef = .bool true := he 6 (by kernel_rfl)
            rw [show kindRow _ _ = none from by kernel_rfl] at hf
            refine wpOp_run rfl rfl rfl f6 (fun K hK => ?_)
            go_simp
            exact hK _ _ ⟨_, rfl, rfl, World.grownBy.refl _ _⟩
          · intro a w' hf he
            have f10 : a.tmps.getD 39 undef = .pointer (some ⟨p, 0, none⟩) := he 10 (by kernel_rfl)
            have f6 : a.tmps.getD 35 undef = .bool true := he 6 (by kernel_rfl)
            rw [show kindRow _ _ = none from by kernel_rfl] at hf
            have d0 := (hf.bel.block _ (heap_lt Hblk6.out)).trans Hblk6.out
            have dd : w'.cell? ⟨p, 0, none⟩ = some (.slice (some ⟨g, 0, none⟩) dk.cells.length c) := by simp [World.cell?, d0]
            clear d0
            refine wpOp_run rfl rfl rfl f6 (fun K hK => ?_)
            go_simp
            exact hK _ _ ⟨_, rfl, rfl, World.grownBy.refl _ _⟩
          · intro a w' hf he
            have k5 : a.tmps.getD 5 undef = .int .i64 (i : Int) := hf.var (by kernel_rfl) rfl
            have f6 : a.tmps.getD 35 undef = .bool true := he 6 (by kernel_rfl)
            refine wpOp_run rfl rfl rfl f6 (fun K hK => ?_)
            go_simp
            exact hK _ _ ⟨_, rfl, rfl, World.grownBy.refl _ _⟩
          · intro a w' hf he
            have f11 : a.tmps.getD 40 undef = .slice (some ⟨g, 0, none⟩) dk.cells.length c := he 11 (by kernel_rfl)
            have f12 : a.tmps.getD 41 undef = .int .i64 (i : Int) := he 12 (by kernel_rfl)
            have f6 : a.tmps.getD 35 undef = .bool true := he 6 (by kernel_rfl)
            rw [show kindRow _ _ = none from by kernel_rfl] at hf
            refine wpOp_run rfl rfl rfl f6 (fun K hK => ?_)
            go_simp
            exact hK _ _ ⟨_, rfl, rfl, World.grownBy.refl _ _⟩
          · intro a w' hf he
            have f13 : a.tmps.getD 42 undef = .pointer (some ⟨g, i * 16, none⟩) := he 13 (by kernel_rfl)
            have f6 : a.tmps.getD 35 undef = .bool true := he 6 (by kernel_rfl)
            rw [show kindRow _ _ = none from by kernel_rfl] at hf
            refine wpOp_run rfl rfl rfl f6 (fun K hK => ?_)
            refine wp_load_rd 35 (.tmp 42) rfl ⟨g, i * 16, none⟩ f13 (bytesV s) _ (fun j v hv => (hf.bel.cell (block_lt_of_cell (hsafe.out j v hv))).trans (hsafe.out j v hv)) Try.underlying35 rfl (by rw [bytesV_length, Hs.out]; kernel_rfl) ?_
            exact hK _ _ ⟨_, rfl, rfl, World.grownBy.refl _ _⟩
          · intro a w' hf he
            have f7 : a.tmps.getD 36 undef = .agg (bytesV f).toArray := he 7 (by kernel_rfl)
            have f14 : a.tmps.getD 43 undef = .agg (bytesV s).toArray := he 14 (by kernel_rfl)
            have f6 : a.tmps.getD 35 undef = .bool true := he 6 (by kernel_rfl)
            rw [show kindRow _ _ = none from by kernel_rfl] at hf
            have hne := run_eql_barr (P := Try.prog) w' f s Hf.out Hs.out Try.underlying35 Try.underlying5 (by kernel_rfl)
            rw [Hq.out] at hne
            refine wpOp_run rfl rfl rfl f6 (fun K hK => ?_)
            go_simp
            exact hK _ _ ⟨_, rfl, rfl, World.grownBy.refl _ _⟩
          · intro a w' hf he
            have f6 : a.tmps.getD 35 undef = .bool true := he 6 (by kernel_rfl)
            have f15 : a.tmps.getD 44 undef = .bool (!q) := he 15 (by kernel_rfl)
            refine wpOp_step rfl (fun K hK => ?_)
            go_simp
            exact hK _ _ ⟨_, rfl, rfl, World.grownBy.refl _ _⟩
        · intro a w' hf he
          obtain ⟨u29, f0⟩ : ∃ u, a.tmps.getD 29 undef = u := ⟨_, rfl⟩
          obtain ⟨u30, f1⟩ : ∃ u, a.tmps.getD 30 undef = u := ⟨_, rfl⟩
          obtain ⟨u31, f2⟩ : ∃ u, a.tmps.getD 31 undef = u := ⟨_, rfl⟩
          obtain ⟨u32, f3⟩ : ∃ u, a.tmps.getD 32 undef = u := ⟨_, rfl⟩
          obtain ⟨u33, f4⟩ : ∃ u, a.tmps.getD 33 undef = u := ⟨_, rfl⟩
          obtain ⟨u34, f5⟩ : ∃ u, a.tmps.getD 34 undef = u := ⟨_, rfl⟩
          obtain ⟨u35, f6⟩ : ∃ u, a.tmps.getD 35 undef = u := ⟨_, rfl⟩
          obtain ⟨u36, f7⟩ : ∃ u, a.tmps.getD 36 undef = u := ⟨_, rfl⟩
          obtain ⟨u37, f8⟩ : ∃ u, a.tmps.getD 37 undef = u := ⟨_, rfl⟩
          obtain ⟨u38, f9⟩ : ∃ u, a.tmps.getD 38 undef = u := ⟨_, rfl⟩
          obtain ⟨u39, f10⟩ : ∃ u, a.tmps.getD 39 undef = u := ⟨_, rfl⟩
          obtain ⟨u40, f11⟩ : ∃ u, a.tmps.getD 40 undef = u := ⟨_, rfl⟩
          obtain ⟨u41, f12⟩ : ∃ u, a.tmps.getD 41 undef = u := ⟨_, rfl⟩
          obtain ⟨u42, f13⟩ : ∃ u, a.tmps.getD 42 undef = u := ⟨_, rfl⟩
          obtain ⟨u43, f14⟩ : ∃ u, a.tmps.getD 43 undef = u := ⟨_, rfl⟩
          obtain ⟨u44, f15⟩ : ∃ u, a.tmps.getD 44 undef = u := ⟨_, rfl⟩
          have f16 : a.tmps.getD 45 undef = .bool (!q) := he 16 (by decide)
          have hlit := hf.lit ((29, u29) :: (30, u30) :: (31, u31) :: (32, u32) :: (33, u33) :: (34, u34) :: (35, u35) :: (36, u36) :: (37, u37) :: (38, u38) :: (39, u39) :: (40, u40) :: (41, u41) :: (42, u42) :: (43, u43) :: (44, u44) :: (45, .bool (!q)) :: []) (by kernel_rfl) ⟨f0, f1, f2, f3, f4, f5, f6, f7, f8, f9, f10, f11, f12, f13, f14, f15, f16, trivial⟩
          have hB := hf.bel
          clear he hf f0 f1 f2 f3 f4 f5 f6 f7 f8 f9 f10 f11 f12 f13 f14 f15 f16 
          subst hlit
          simp only [putAll_nil, putAll_cons, Act.put, List.setIfInBounds_toArray, List.set_cons_zero, List.set_cons_succ]
          simp only [List.drop_succ_cons, List.drop_zero]
          have Hm7 := Lib.hid (ownsMap_fr Hm6.out (Fr.of_bel (S := fun _ => False) hB) (fun e => e))
          have Hblk7 := Lib.hid ((hB.block _ (heap_lt Hblk6.out)).trans Hblk6.out)
          have Ho7 := Lib.hid (Tw.Own.bel Hown6.out hB)
          have HX7 := Lib.hid ((hB.block _ (heap_lt HX6.out)).trans HX6.out)
          have F7 := Lib.hid (F6.out.trans (Fr.of_bel (S := fun k => k = p ∨ k = g ∨ k = mb) hB) (fun _ _ e => e))
          have HR7 := Lib.hid (Tw.Own.bel HR6.out hB)
          clear hB Hm6 Hblk6 Hown6 F6 HR6 HX6 hsafe
          cases q with
          | true =>
            have hfs := of_decide_eq_true Hq.out
            go_wp2_with fail
            go_roundw
            case rel =>
              refine ⟨k + 1, by omega, by go_num, ?_, HR7, F7⟩
              rw [HNx.out]
              exact Lib.hid (HK.out.cut hi (by simp only [if_true]; exact Hf.out) Hm7.out Hle.out HD.out (Hblk7.out.trans Hp.out.symm) (by simp only [if_true]; rw [hfs, durable_keep HCell.out hi]; exact Ho7.out))
            case measure => simp [intOf] <;> omega
          | false =>
            obtain ⟨W7, hW7⟩ : ∃ x, w' = x := ⟨_, rfl⟩
            rw [hW7] at Hm7 Hblk7 Ho7 HX7 F7 HR7 ⊢
            clear hW7
            go_upto_region 7 with (fail)
            refine wp_region_phi (by kernel_rfl) 7 none (fun _ => false) (fun i_ v wz => match i_ with
              | 0 => v = .pointer (some ⟨p, 0, none⟩)
              | 1 => v = .pointer (some ⟨p, 0, none⟩)
              | 2 => v = .pointer (some ⟨p, 0, none⟩)
              | 3 => v = .slice (some ⟨g, 0, none⟩) dk.cells.length c
              | 4 => v = .int .i64 (i : Int)
              | 5 => v = .agg (bytesV f).toArray
              | 6 => v = .pointer (some ⟨g, i * 16, none⟩)
              | _ => True) (by kernel_rfl) ?_ ?_ ?_
            · (repeat' (first | exact allLt_zero | refine allLt_succ ?_ ?_))
              · exact fun _ _ _ h _ => h
              · exact fun _ _ _ h _ => h
              · exact fun _ _ _ h _ => h
              · exact fun _ _ _ h _ => h
              · exact fun _ _ _ h _ => h
              · exact fun _ _ _ h _ => h
              · exact fun _ _ _ h _ => h
            · (repeat' (first | exact allLt_zero | refine allLt_succ ?_ ?_))
              · intro a w' hf he
                have k0 : a.tmps.getD 0 undef = .pointer (some ⟨p, 0, none⟩) := hf.var (by kernel_rfl) rfl
                refine wpOp_step rfl (fun K hK => ?_)
                go_simp
                exact hK _ _ ⟨_, rfl, rfl, World.grownBy.refl _ _⟩
              · intro a w' hf he
                have f0 : a.tmps.getD 46 undef = .pointer (some ⟨p, 0, none⟩) := he 0 (by kernel_rfl)
                refine wpOp_step rfl (fun K hK => ?_)
                go_simp
                exact hK _ _ ⟨_, rfl, rfl, World.grownBy.refl _ _⟩
              · intro a w' hf he
                have f1 : a.tmps.getD 47 undef = .pointer (some ⟨p, 0, none⟩) := he 1 (by kernel_rfl)
                rw [show kindRow _ _ = none from by kernel_rfl] at hf
                refine wpOp_step rfl (fun K hK => ?_)
                go_simp
                exact hK _ _ ⟨_, rfl, rfl, World.grownBy.refl _ _⟩
              · intro a w' hf he
                have f2 : a.tmps.getD 48 undef = .pointer (some ⟨p, 0, none⟩) := he 2 (by kernel_rfl)
                rw [show kindRow _ _ = none from by kernel_rfl] at hf
                have d0 := (hf.bel.block _ (heap_lt Hblk7.out)).trans Hblk7.out
                have dd : w'.cell? ⟨p, 0, none⟩ = some (.slice (some ⟨g, 0, none⟩) dk.cells.length c) := by simp [World.cell?, d0]
                clear d0
                refine wpOp_step rfl (fun K hK => ?_)
                go_simp
                exact hK _ _ ⟨_, rfl, rfl, World.grownBy.refl _ _⟩
              · intro a w' hf he
                have k5 : a.tmps.getD 5 undef = .int .i64 (i : Int) := hf.var (by kernel_rfl) rfl
                refine wpOp_step rfl (fun K hK => ?_)
                go_simp
                exact hK _ _ ⟨_, rfl, rfl, World.grownBy.refl _ _⟩
              · intro a w' hf he
                have k6 : a.tmps.getD 6 undef = .pointer (some ⟨wr.heap.size, 0, none⟩) := hf.var (by kernel_rfl) rfl
                rw [show kindRow _ _ = none from by kernel_rfl] at hf
                refine wpOp_step rfl (fun K hK => ?_)
                refine wp_load_rd 35 (.tmp 6) rfl ⟨wr.heap.size, 0, none⟩ k6 (bytesV f) _ ((rd_of_heap (n := 16) ((hf.bel.block _ (heap_lt HX7.out)).trans HX7.out) (by rw [bytesV_length, Hf.out]) (by simp [maxLen])).cell _ rfl) Try.underlying35 rfl (by rw [bytesV_length, Hf.out]; kernel_rfl) ?_
                exact hK _ _ ⟨_, rfl, rfl, World.grownBy.refl _ _⟩
              · intro a w' hf he
                have f3 : a.tmps.getD 49 undef = .slice (some ⟨g, 0, none⟩) dk.cells.length c := he 3 (by kernel_rfl)
                have f4 : a.tmps.getD 50 undef = .int .i64 (i : Int) := he 4 (by kernel_rfl)
                rw [show kindRow _ _ = none from by kernel_rfl] at hf
                refine wpOp_step rfl (fun K hK => ?_)
                go_simp
                exact hK _ _ ⟨_, rfl, rfl, World.grownBy.refl _ _⟩
            · intro a w' hf he
              obtain ⟨u46, f0⟩ : ∃ u, a.tmps.getD 46 undef = u := ⟨_, rfl⟩
              obtain ⟨u47, f1⟩ : ∃ u, a.tmps.getD 47 undef = u := ⟨_, rfl⟩
              obtain ⟨u48, f2⟩ : ∃ u, a.tmps.getD 48 undef = u := ⟨_, rfl⟩
              obtain ⟨u49, f3⟩ : ∃ u, a.tmps.getD 49 undef = u := ⟨_, rfl⟩
              obtain ⟨u50, f4⟩ : ∃ u, a.tmps.getD 50 undef = u := ⟨_, rfl⟩
              have f5 : a.tmps.getD 51 undef = .agg (bytesV f).toArray := he 5 (by decide)
              have f6 : a.tmps.getD 52 undef = .pointer (some ⟨g, i * 16, none⟩) := he 6 (by decide)
              have hlit := hf.lit ((46, u46) :: (47, u47) :: (48, u48) :: (49, u49) :: (50, u50) :: (51, .agg (bytesV f).toArray) :: (52, .pointer (some ⟨g, i * 16, none⟩)) :: []) (by kernel_rfl) ⟨f0, f1, f2, f3, f4, f5, f6, trivial⟩
              have hB := hf.bel
              clear he hf f0 f1 f2 f3 f4 f5 f6 
              subst hlit
              simp only [putAll_nil, putAll_cons, Act.put, List.setIfInBounds_toArray, List.set_cons_zero, List.set_cons_succ]
              simp only [List.drop_succ_cons, List.drop_zero]
              have Hm8 := Lib.hid (ownsMap_fr Hm7.out (Fr.of_bel (S := fun _ => False) hB) (fun e => e))
              have Hblk8 := Lib.hid ((hB.block _ (heap_lt Hblk7.out)).trans Hblk7.out)
              have Ho8 := Lib.hid (Tw.Own.bel Ho7.out hB)
              have F8 := Lib.hid (F7.out.trans (Fr.of_bel (S := fun k => k = p ∨ k = g ∨ k = mb) hB) (fun _ _ e => e))
              have HR8 := Lib.hid (Tw.Own.bel HR7.out hB)
              clear hB Hm7 Hblk7 Ho7 F7 HR7 HX7
              go_wp2_with (first
                | (refine wpL_store_elem rfl rfl 35 (.tmp 52) (.tmp 51) rfl 0 35 16 g i dk.cells.length c rfl (bytesV f) (by rw [bytesV_length, Hf.out]) rfl (by kernel_rfl) _ Ho8.out (by omega) bytesV_one _ (durable_set HK.out.ok hi Hf.out) ?_
                   intro w9 hown9 hg9
                   have Ho9 := Lib.hid hown9
                   have F9 := Lib.hid (Fr.grown (S := fun k => k = g) hg9 (by simp))
                   clear hown9 hg9))
              go_roundw
              case rel =>
                refine ⟨k + 1, by omega, by go_num, ?_, Lib.hid (HR8.out.fr F9.out (fun ad e => by injection e with e; subst e; exact fun e => by simp at e; omega)), Lib.hid (F8.out.trans F9.out (fun _ _ e => .inr (.inl e)))⟩
                rw [HNx.out]
                exact Lib.hid (HK.out.cut hi (by simp only [if_true]; exact Hf.out) (ownsMap_fr Hm8.out F9.out (fun e => hne.2.2 e.symm)) Hle.out HD.out ((F9.out.block _ (heap_lt Hblk8.out) hne.1).trans (Hblk8.out.trans Hp.out.symm)) (by simp only [if_true]; exact Ho9.out))
              case measure => simp [intOf] <;> omega
    · obtain rfl : k = N := by omega
      have hfz2 := HK.out.frozen 2
      have hfz3 := HK.out.frozen 3
      obtain ⟨k0, k1, k2, k3, k4⟩ := HK.out.cells
      go_wp2_with fail
      refine bodyPost_end (results_none rfl _ _ _) rfl ?_
      have hok : ({ d.crashTo mask k with fuse := -1, broken := false, ops := (d.crashTo mask k).ops } : Dsk).Ok := by rw [Hc1.out]; exact crash_ok Hok.out mask
      have hfr : Fr (fun k => k = p) wr ((wr.setCell ⟨p, 3, none⟩ (.bool false)).setCell ⟨p, 2, none⟩ (.int .i64 (-1))) := (fr_set wr p 3 _).trans (fr_set _ p 2 _) (fun _ _ e => e)
      have hd : Dk ((wr.setCell ⟨p, 3, none⟩ (.bool false)).setCell ⟨p, 2, none⟩ (.int .i64 (-1))) p g mb c { d.crashTo mask k with fuse := -1, broken := false, ops := (d.crashTo mask k).ops } := by
        refine HK.out.reset hfr (Nat.le_refl _) hok ?_
        rw [heap_setCell_same _ p 2 _ _ _ (heap_setCell_same _ p 3 _ _ _ HK.out.blk)]
        simp
      rw [Hc1.out] at hd
      exact ⟨rfl, hd, HF.out.trans hfr (fun _ _ e => .inl e)⟩
end
end Go.Proofs.Ytpbcmghfhflkbaa.Disk
