/- The reference's disk: keep. Conditions: none. -/
import Derived.Test.YtpbcmghfhflkbaaRef3
import Derived.Test.YtpbcmghfhflkbaaDskCrash3
import Derived.IntWalk
set_option linter.unusedVariables false
set_option linter.unusedSimpArgs false
namespace Go.Proofs.Ytpbcmghfhflkbaa.Disk
open Go.RowKit Tw
set_option maxHeartbeats 4000000
set_option maxRecDepth 100000
/-- 16 noughts, as cells -/
def zl : List Value := [.int .u8 0, .int .u8 0, .int .u8 0, .int .u8 0, .int .u8 0, .int .u8 0, .int .u8 0, .int .u8 0, .int .u8 0, .int .u8 0, .int .u8 0, .int .u8 0, .int .u8 0, .int .u8 0, .int .u8 0, .int .u8 0]
theorem zl_eq : bytesV zs = zl := by simp [zl, bytesV, zs, List.replicate]
theorem rcell_keep {s f : Sec} (hs : s.length = 16) (hf : f.length = 16) : splice (rcell (s, some f)) 0 (bytesV f) = rcell (f, some f) := by
  have h1 : (bytesV s).length = 16 := by rw [bytesV_length, hs]
  have h2 : (bytesV f).length = 16 := by rw [bytesV_length, hf]
  show splice (bytesV s ++ (bytesV f ++ [Value.bool true])) 0 (bytesV f) = bytesV f ++ (bytesV f ++ [Value.bool true])
  rw [splice_left (by omega)]
  congr 1
  unfold splice
  rw [List.take_zero, List.nil_append, List.drop_eq_nil_of_le (by omega), List.append_nil]
theorem rcell_lose {s f : Sec} (hs : s.length = 16) (hf : f.length = 16) : splice (splice (rcell (s, some f)) 16 zl) 32 [.bool false] = rcell (s, none) := by
  have h1 : (bytesV s).length = 16 := by rw [bytesV_length, hs]
  have h2 : (bytesV f).length = 16 := by rw [bytesV_length, hf]
  have h3 : zl.length = 16 := rfl
  have e1 : splice (rcell (s, some f)) 16 zl = bytesV s ++ (zl ++ [.bool true]) := by
    unfold rcell
    have := splice_right (a := bytesV s) (r := bytesV ((some f).getD zs) ++ [Value.bool (some f).isSome]) (o := 0) (cs := zl)
    rw [h1] at this
    rw [this]
    simp only [Option.getD_some, Option.isSome_some]
    rw [splice_left (by omega)]
    congr 2
    unfold splice
    rw [List.take_zero, List.nil_append, List.drop_eq_nil_of_le (by omega), List.append_nil]
  rw [e1]
  have := splice_right (a := bytesV s ++ zl) (r := [Value.bool true]) (o := 0) (cs := [Value.bool false])
  rw [List.length_append, h1, h3, List.append_assoc] at this
  rw [this, List.append_assoc]
  unfold rcell
  rw [← zl_eq]
  rfl
theorem zl_one : ∀ v ∈ zl, v.oneCell' = true := by rw [← zl_eq]; exact bytesV_one
/-- the round's test, as the program reckons it -/
theorem quo_vals (mask k : Nat) (hm : mask < 18446744073709551616) : ((mask / 2 ^ k : Nat) : Int) < 18446744073709551616 ∧ ((mask / 2 ^ k : Nat) : Int) / 2 = ((mask / 2 ^ (k + 1) : Nat) : Int) := by
  have hlt : mask / 2 ^ k < 18446744073709551616 := Nat.lt_of_le_of_lt (Nat.div_le_self _ _) hm
  refine ⟨by omega, ?_⟩
  rw [Nat.pow_succ, ← Nat.div_div_eq_div_mul]
  omega
theorem lose_steps {l : List (List Value)} {i : Nat} {s f : Sec} (hl : ∀ a ∈ l, a.length = 33) (h : l[i]? = some (rcell (s, some f))) (hs : s.length = 16) (hf : f.length = 16) : ∃ mid, splice (cat l) (i * 33 + 16) zl = mid ∧ splice mid (i * 33 + 32) [.bool false] = cat (l.set i (rcell (s, none))) := by
  have hrl := hl _ (List.mem_of_getElem? h)
  have hlt := (List.getElem?_eq_some_iff.1 h).1
  refine ⟨_, cat_set (cs := zl) (o := 16) hl h (by decide), ?_⟩
  have hl2 : ∀ a ∈ l.set i (splice (rcell (s, some f)) 16 zl), a.length = 33 := fun a ha => by
    rcases List.mem_or_eq_of_mem_set ha with ha | rfl
    · exact hl a ha
    · rw [splice_len (by rw [hrl]; decide)]; exact hrl
  have h2 := cat_set (cs := [.bool false]) (o := 32) hl2 (List.getElem?_set_self hlt) (by simp)
  rw [List.set_set, rcell_lose hs hf] at h2
  exact h2
theorem keep_step {l : List (List Value)} {i : Nat} {s f : Sec} (hl : ∀ a ∈ l, a.length = 33) (h : l[i]? = some (rcell (s, some f))) (hs : s.length = 16) (hf : f.length = 16) : splice (cat l) (i * 33) (bytesV f) = cat (l.set i (rcell (f, some f))) ∧ (∀ a ∈ l.set i (rcell (f, some f)), a.length = 33) ∧ (l.set i (rcell (f, some f)))[i]? = some (rcell (f, some f)) := by
  have hlt := (List.getElem?_eq_some_iff.1 h).1
  have h2 := cat_set (cs := bytesV f) (o := 0) hl h (by rw [bytesV_length, hf]; omega)
  rw [rcell_keep hs hf] at h2
  refine ⟨h2, fun a ha => ?_, List.getElem?_set_self hlt⟩
  rcases List.mem_or_eq_of_mem_set ha with ha | rfl
  · exact hl a ha
  · exact rcell_len ⟨hf, fun s' e => by injection e with e; rw [← e]; exact hf⟩
theorem keep_end {w w' : World} {q r c i : Nat} {d d' : Dsk} (h : Rk w q r c d) (hi : i < d.cells.length) {y : Sec} (hy : y.length = 16) (he : d' = { d with cells := d.cells.set i (y, none) }) (hb : w'.heap[q]? = w.heap[q]?)
    (ho : Tw.Own w' 0 180 33 (some ⟨r, 0, none⟩) d.cells.length c (cat ((d.cells.map rcell).set i (rcell (y, none))))) : Rk w' q r c d' := by
  subst he
  refine h.recell hb (by simp) ⟨by simpa using h.ok.n, fun c hc => ?_, fun c hc s' hs' => ?_, h.ok.fuse, h.ok.ops⟩ ?_
  · rcases List.mem_or_eq_of_mem_set hc with hc | rfl
    · exact h.ok.safe c hc
    · exact hy
  · rcases List.mem_or_eq_of_mem_set hc with hc | rfl
    · exact h.ok.fresh c hc s' hs'
    · cases hs'
  · rw [rrow_cat, List.map_set]
    exact ho
section
variable {w w' : World} {q r c : Nat} {d : Dsk}
theorem r_keep (h : Rk w q r c d) (all : Bool) (mask : Nat) (hm : mask < 18446744073709551616) : Calls Try.prog 101 #[.pointer (some ⟨q, 0, none⟩), .bool all, .int .u64 (mask : Int)] w fun e w' => e = .returned (.tuple #[]) ∧ Rk w' q r c (d.keepD all mask) ∧ Fr (fun k => k = q ∨ k = r) w w' := by
  have hne := h.ne
  have hn := h.ok.n
  have Hok := Lib.hid h.ok
  have Hend := Lib.hid (crashTo_keepD d all mask)
  have Hem := Lib.hid (spared_em all mask)
  have H := Lib.hid h
  have Hc0 : Hid (d.crashTo (emask all mask) (cnt (d.cells.take 0)) = d) := Lib.hid (crashTo_zero d _)
  clear h
  obtain ⟨N, hN⟩ : ∃ N, d.cells.length = N := ⟨_, rfl⟩
  have HN := Lib.hid hN
  have Hlen : Hid (∀ n, (d.crashTo (emask all mask) n).cells.length = N) := Lib.hid (fun n => by rw [crashTo_len, hN])
  obtain ⟨k0, k1, k2, k3⟩ := H.out.cells
  rw [hN] at k0 hn
  clear hN
  generalize emask all mask = em at *
  go_enter Try.func101, Try.ntmps101
  go_wp2_with fail
  go_loopw [6, 15] (fun v6 v wr => ∃ i : Nat, i ≤ N ∧ v = .int .i64 (i : Int) ∧ v6 = .int .i64 (cnt (d.cells.take i) : Int) ∧ Hid (Rk wr q r c (d.crashTo em (cnt (d.cells.take i)))) ∧ Hid (Fr (fun k => k = q ∨ k = r) w wr)) (fun _ v _ => N - (intOf v).toNat)
  case atStart => exact ⟨0, Nat.zero_le _, rfl, rfl, by rw [Hc0.out]; exact H, Lib.hid (Fr.refl _ _)⟩
  case round =>
    clear H k0 k1 k2 k3 Hc0
    obtain ⟨i, hi, rfl, rfl, HK, HF⟩ := hrel
    by_cases hin : i < N
    · obtain ⟨c0, hc0⟩ : ∃ c0, d.cells[i]? = some c0 := ⟨_, List.getElem?_eq_getElem (by rw [HN.out]; exact hin)⟩
      have hcn : cnt (d.cells.take i) ≤ i := Nat.le_trans (cnt_le _) (by simp; omega)
      obtain ⟨s, of⟩ := c0
      cases of with
      | none =>
        obtain ⟨h1, h2⟩ := keep_pass em i hc0
        obtain ⟨k0, k1, k2, k3⟩ := HK.out.cells
        rw [Hlen.out] at k0
        obtain ⟨_, _, p3⟩ := HK.out.part (n := i) (by rw [Hlen.out]; exact hin)
        rw [h1] at p3
        simp only [Option.isSome_none] at p3
        have H2 := Lib.hid h2
        clear h1 h2 hc0
        go_wp2_with fail
        go_roundw
        case rel => exact ⟨i + 1, by omega, by go_num, by rw [H2.out], by rw [H2.out]; exact HK, HF⟩
        case measure => simp [intOf] <;> omega
      | some f =>
        obtain ⟨_, hs, hf, h1, h2, h3⟩ := keep_round Hok.out em i hc0
        obtain ⟨k0, k1, k2, k3⟩ := HK.out.cells
        rw [Hlen.out] at k0
        have hlen := Hlen.out (cnt (d.cells.take i))
        have hlen2 := Hlen.out (cnt (d.cells.take i) + 1)
        generalize cnt (d.cells.take i) = n at *
        obtain ⟨_, p2, p3⟩ := HK.out.part (n := i) (by rw [hlen]; exact hin)
        rw [h1] at p2 p3
        simp only [Option.isSome_some, Option.getD_some] at p2 p3
        have H1 := Lib.hid h1
        have H2 := Lib.hid h2
        have H3 := Lib.hid h3
        have Hs := Lib.hid hs
        have Hf := Lib.hid hf
        have P2 := Lib.hid p2
        have HL := Lib.hid hlen
        have HL2 := Lib.hid hlen2
        have Hsp := Lib.hid (Hem.out n)
        clear h1 h2 h3 hs hf p2 hlen hlen2 hc0
        generalize d.crashTo em n = dk at *
        obtain ⟨n6, hn6⟩ : ∃ n6, n % 64 = n6 := ⟨_, rfl⟩
        have hn64 : n6 < 64 := by omega
        have hz : (n : Int) % 64 = (n6 : Int) := by omega
        have Hn6 := Lib.hid hn6
        rw [hn6] at Hsp
        clear hn6
        go_wp2_with fail
        go_loopw [8, 9] (fun v8 v9 wr2 => ∃ j : Nat, j ≤ n6 ∧ v8 = .int .u64 ((mask / 2 ^ j : Nat) : Int) ∧ v9 = .int .i64 (j : Int) ∧ wr2 = wr) (fun _ v _ => n6 - (intOf v).toNat)
        case atStart => exact ⟨0, Nat.zero_le _, by simp, rfl, rfl⟩
        case round =>
          obtain ⟨j, hj, rfl, rfl, rfl⟩ := hrel
          obtain ⟨q1, q2⟩ := quo_vals mask j hm
          by_cases hjn : j < n6
          · have Q2 := Lib.hid q2
            have Wq : Hid (IntKind.u64.wrap (((mask / 2 ^ j : Nat) : Int) / 2) = ((mask / 2 ^ (j + 1) : Nat) : Int)) := Lib.hid (by rw [IntKind.wrap_u64, q2]; exact Int.emod_eq_of_lt (Int.natCast_nonneg _) (quo_vals mask (j + 1) hm).1)
            clear q2 q1
            generalize (mask / 2 ^ j : Nat) = mj at *
            go_wp2_with fail
            go_roundw
            case rel => exact ⟨j + 1, by omega, by rw [Wq.out], by go_num, trivial⟩
            case measure => simp [intOf] <;> omega
          · obtain rfl : j = n6 := by omega
            clear q1 q2
            have hwd := HK.out.wide
            have hrw := HK.out.row (n := i) (by rw [HL.out]; exact hin)
            rw [H1.out] at hrw
            have Hwd := Lib.hid hwd
            have Hrw := Lib.hid hrw
            have Hzl : Hid (zl.length = 16) := Lib.hid rfl
            have Hfl : Hid ((bytesV f).length = 16) := Lib.hid (by rw [bytesV_length, Hf.out])
            have O0 : Hid (Tw.Own wr 0 180 33 (some ⟨r, 0, none⟩) N c (cat (dk.cells.map rcell))) := Lib.hid (by have := HK.out.own_cat; rwa [HL.out] at this)
            have B0 : Hid (wr.heap[q]? = some (.cells #[.slice (some ⟨r, 0, none⟩) N c, .int .i64 dk.fuse, .bool dk.broken, .int .i64 (dk.ops : Int)] 51 (0, 0))) := Lib.hid (by have := HK.out.blk; rwa [HL.out] at this)
            have Hp := Lib.hid HK.out.blk
            have HDok := Lib.hid HK.out.ok
            have Hib : Hid (i * 33 + 33 ≤ N * 33) := Lib.hid (by omega)
            obtain ⟨kp, hkp⟩ : ∃ kp, spared em n = kp := ⟨_, rfl⟩
            rw [hkp] at H3 Hsp
            have F0 : Hid (Fr (fun k => k = r) wr wr) := Lib.hid (Fr.refl _ _)
            clear hkp hwd hrw
            cases all with
            | true =>
              obtain rfl : kp = true := Hsp.out
              go_upto_region 11 with (fail)
              refine wp_region_phi (by kernel_rfl) 15 none (fun _ => false) (fun i_ v wz => match i_ with
                | 0 => v = .pointer (some ⟨q, 0, none⟩)
                | 1 => v = .pointer (some ⟨q, 0, none⟩)
                | 2 => v = .pointer (some ⟨q, 0, none⟩)
                | 3 => v = .slice (some ⟨r, 0, none⟩) N c
                | 4 => v = .int .i64 (i : Int)
                | 5 => v = .pointer (some ⟨q, 0, none⟩)
                | 6 => v = .pointer (some ⟨q, 0, none⟩)
                | 7 => v = .pointer (some ⟨q, 0, none⟩)
                | 8 => v = .slice (some ⟨r, 0, none⟩) N c
                | 9 => v = .int .i64 (i : Int)
                | 10 => v = .pointer (some ⟨r, i * 33, none⟩)
                | 11 => v = .pointer (some ⟨r, i * 33 + 16, none⟩)
                | 12 => v = .agg (bytesV f).toArray
                | 13 => v = .pointer (some ⟨r, i * 33, none⟩)
                | 14 => v = .pointer (some ⟨r, i * 33, none⟩)
                | _ => True) (by kernel_rfl) ?_ ?_ ?_
              · (repeat' (first | exact allLt_zero | refine allLt_succ ?_ ?_))
                · exact fun _ _ _ h _ => h
                · exact fun _ _ _ h _ => h
                · exact fun _ _ _ h _ => h
                · exact fun _ _ _ h _ => h
                · exact fun _ _ _ h _ => h
                · exact fun _ _ _ h _ => h
                · exact fun _ _ _ h _ => h
                · exact fun _ _ _ h _ => h
                · exact fun _ _ _ h _ => h
                · exact fun _ _ _ h _ => h
                · exact fun _ _ _ h _ => h
                · exact fun _ _ _ h _ => h
                · exact fun _ _ _ h _ => h
                · exact fun _ _ _ h _ => h
                · exact fun _ _ _ h _ => h
              · (repeat' (first | exact allLt_zero | refine allLt_succ ?_ ?_))
                · intro a w' hf he
                  have k0 : a.tmps.getD 0 undef = .pointer (some ⟨q, 0, none⟩) := hf.var (by kernel_rfl) rfl
                  refine wpOp_step rfl (fun K hK => ?_)
                  go_simp
                  exact hK _ _ ⟨_, rfl, rfl, World.grownBy.refl _ _⟩
                · intro a w' hf he
                  have f0 : a.tmps.getD 42 undef = .pointer (some ⟨q, 0, none⟩) := he 0 (by kernel_rfl)
                  refine wpOp_step rfl (fun K hK => ?_)
                  go_simp
                  exact hK _ _ ⟨_, rfl, rfl, World.grownBy.refl _ _⟩
                · intro a w' hf he
                  have f1 : a.tmps.getD 43 undef = .pointer (some ⟨q, 0, none⟩) := he 1 (by kernel_rfl)
                  rw [show kindRow _ _ = none from by kernel_rfl] at hf
                  refine wpOp_step rfl (fun K hK => ?_)
                  go_simp
                  exact hK _ _ ⟨_, rfl, rfl, World.grownBy.refl _ _⟩
                · intro a w' hf he
                  have f2 : a.tmps.getD 44 undef = .pointer (some ⟨q, 0, none⟩) := he 2 (by kernel_rfl)
                  rw [show kindRow _ _ = none from by kernel_rfl] at hf
                  have d0 := (hf.bel.block _ (heap_lt B0.out)).trans B0.out
                  have dd : w'.cell? ⟨q, 0, none⟩ = some (.slice (some ⟨r, 0, none⟩) N c) := by simp [World.cell?, d0]
                  clear d0
                  refine wpOp_step rfl (fun K hK => ?_)
                  go_simp
                  exact hK _ _ ⟨_, rfl, rfl, World.grownBy.refl _ _⟩
                · intro a w' hf he
                  have k7 : a.tmps.getD 7 undef = .int .i64 (i : Int) := hf.var (by kernel_rfl) rfl
                  refine wpOp_step rfl (fun K hK => ?_)
                  go_simp
                  exact hK _ _ ⟨_, rfl, rfl, World.grownBy.refl _ _⟩
                · intro a w' hf he
                  have k0 : a.tmps.getD 0 undef = .pointer (some ⟨q, 0, none⟩) := hf.var (by kernel_rfl) rfl
                  refine wpOp_step rfl (fun K hK => ?_)
                  go_simp
                  exact hK _ _ ⟨_, rfl, rfl, World.grownBy.refl _ _⟩
                · intro a w' hf he
                  have f5 : a.tmps.getD 47 undef = .pointer (some ⟨q, 0, none⟩) := he 5 (by kernel_rfl)
                  refine wpOp_step rfl (fun K hK => ?_)
                  go_simp
                  exact hK _ _ ⟨_, rfl, rfl, World.grownBy.refl _ _⟩
                · intro a w' hf he
                  have f6 : a.tmps.getD 48 undef = .pointer (some ⟨q, 0, none⟩) := he 6 (by kernel_rfl)
                  rw [show kindRow _ _ = none from by kernel_rfl] at hf
                  refine wpOp_step rfl (fun K hK => ?_)
                  go_simp
                  exact hK _ _ ⟨_, rfl, rfl, World.grownBy.refl _ _⟩
                · intro a w' hf he
                  have f7 : a.tmps.getD 49 undef = .pointer (some ⟨q, 0, none⟩) := he 7 (by kernel_rfl)
                  rw [show kindRow _ _ = none from by kernel_rfl] at hf
                  have d0 := (hf.bel.block _ (heap_lt B0.out)).trans B0.out
                  have dd : w'.cell? ⟨q, 0, none⟩ = some (.slice (some ⟨r, 0, none⟩) N c) := by simp [World.cell?, d0]
                  clear d0
                  refine wpOp_step rfl (fun K hK => ?_)
                  go_simp
                  exact hK _ _ ⟨_, rfl, rfl, World.grownBy.refl _ _⟩
                · intro a w' hf he
                  have k7 : a.tmps.getD 7 undef = .int .i64 (i : Int) := hf.var (by kernel_rfl) rfl
                  refine wpOp_step rfl (fun K hK => ?_)
                  go_simp
                  exact hK _ _ ⟨_, rfl, rfl, World.grownBy.refl _ _⟩
                · intro a w' hf he
                  have f8 : a.tmps.getD 50 undef = .slice (some ⟨r, 0, none⟩) N c := he 8 (by kernel_rfl)
                  have f9 : a.tmps.getD 51 undef = .int .i64 (i : Int) := he 9 (by kernel_rfl)
                  rw [show kindRow _ _ = none from by kernel_rfl] at hf
                  refine wpOp_step rfl (fun K hK => ?_)
                  go_simp
                  exact hK _ _ ⟨_, rfl, rfl, World.grownBy.refl _ _⟩
                · intro a w' hf he
                  have f10 : a.tmps.getD 52 undef = .pointer (some ⟨r, i * 33, none⟩) := he 10 (by kernel_rfl)
                  rw [show kindRow _ _ = none from by kernel_rfl] at hf
                  refine wpOp_step rfl (fun K hK => ?_)
                  go_simp
                  exact hK _ _ ⟨_, rfl, rfl, World.grownBy.refl _ _⟩
                · intro a w' hf he
                  have f11 : a.tmps.getD 53 undef = .pointer (some ⟨r, i * 33 + 16, none⟩) := he 11 (by kernel_rfl)
                  rw [show kindRow _ _ = none from by kernel_rfl] at hf
                  refine wpOp_step rfl (fun K hK => ?_)
                  refine wp_load_rd 35 (.tmp 53) rfl ⟨r, i * 33 + 16, none⟩ f11 (bytesV f) _ (fun j v hv => (hf.bel.cell (block_lt_of_cell (P2.out j v hv))).trans (P2.out j v hv)) Try.underlying35 rfl (by rw [Hfl.out]; kernel_rfl) ?_
                  exact hK _ _ ⟨_, rfl, rfl, World.grownBy.refl _ _⟩
                · intro a w' hf he
                  have f3 : a.tmps.getD 45 undef = .slice (some ⟨r, 0, none⟩) N c := he 3 (by kernel_rfl)
                  have f4 : a.tmps.getD 46 undef = .int .i64 (i : Int) := he 4 (by kernel_rfl)
                  rw [show kindRow _ _ = none from by kernel_rfl] at hf
                  refine wpOp_step rfl (fun K hK => ?_)
                  go_simp
                  exact hK _ _ ⟨_, rfl, rfl, World.grownBy.refl _ _⟩
                · intro a w' hf he
                  have f13 : a.tmps.getD 55 undef = .pointer (some ⟨r, i * 33, none⟩) := he 13 (by kernel_rfl)
                  rw [show kindRow _ _ = none from by kernel_rfl] at hf
                  refine wpOp_step rfl (fun K hK => ?_)
                  go_simp
                  exact hK _ _ ⟨_, rfl, rfl, World.grownBy.refl _ _⟩
              · intro a w' hf he
                obtain ⟨u42, f0⟩ : ∃ u, a.tmps.getD 42 undef = u := ⟨_, rfl⟩
                obtain ⟨u43, f1⟩ : ∃ u, a.tmps.getD 43 undef = u := ⟨_, rfl⟩
                obtain ⟨u44, f2⟩ : ∃ u, a.tmps.getD 44 undef = u := ⟨_, rfl⟩
                obtain ⟨u45, f3⟩ : ∃ u, a.tmps.getD 45 undef = u := ⟨_, rfl⟩
                obtain ⟨u46, f4⟩ : ∃ u, a.tmps.getD 46 undef = u := ⟨_, rfl⟩
                obtain ⟨u47, f5⟩ : ∃ u, a.tmps.getD 47 undef = u := ⟨_, rfl⟩
                obtain ⟨u48, f6⟩ : ∃ u, a.tmps.getD 48 undef = u := ⟨_, rfl⟩
                obtain ⟨u49, f7⟩ : ∃ u, a.tmps.getD 49 undef = u := ⟨_, rfl⟩
                obtain ⟨u50, f8⟩ : ∃ u, a.tmps.getD 50 undef = u := ⟨_, rfl⟩
                obtain ⟨u51, f9⟩ : ∃ u, a.tmps.getD 51 undef = u := ⟨_, rfl⟩
                obtain ⟨u52, f10⟩ : ∃ u, a.tmps.getD 52 undef = u := ⟨_, rfl⟩
                obtain ⟨u53, f11⟩ : ∃ u, a.tmps.getD 53 undef = u := ⟨_, rfl⟩
                have f12 : a.tmps.getD 54 undef = .agg (bytesV f).toArray := he 12 (by decide)
                obtain ⟨u55, f13⟩ : ∃ u, a.tmps.getD 55 undef = u := ⟨_, rfl⟩
                have f14 : a.tmps.getD 56 undef = .pointer (some ⟨r, i * 33, none⟩) := he 14 (by decide)
                have hlit := hf.lit ((42, u42) :: (43, u43) :: (44, u44) :: (45, u45) :: (46, u46) :: (47, u47) :: (48, u48) :: (49, u49) :: (50, u50) :: (51, u51) :: (52, u52) :: (53, u53) :: (54, .agg (bytesV f).toArray) :: (55, u55) :: (56, .pointer (some ⟨r, i * 33, none⟩)) :: []) (by kernel_rfl) ⟨f0, f1, f2, f3, f4, f5, f6, f7, f8, f9, f10, f11, f12, f13, f14, trivial⟩
                have hB := hf.bel
                clear he hf f0 f1 f2 f3 f4 f5 f6 f7 f8 f9 f10 f11 f12 f13 f14 
                subst hlit
                simp only [putAll_nil, putAll_cons, Act.put, List.setIfInBounds_toArray, List.set_cons_zero, List.set_cons_succ]
                simp only [List.drop_succ_cons, List.drop_zero]
                have F0 := Lib.hid (F0.out.trans (Fr.of_bel (S := fun k => k = r) hB) (fun _ _ e => e))
                have B0 := Lib.hid ((hB.block _ (heap_lt B0.out)).trans B0.out)
                have O0 := Lib.hid (Tw.Own.bel O0.out hB)
                clear hB
                obtain ⟨y1, y2, y3⟩ := keep_step Hwd.out Hrw.out Hs.out Hf.out
                have Y1 := Lib.hid y1
                have Y2 := Lib.hid y2
                have Y3 := Lib.hid y3
                clear y1 y2 y3
                go_upto_region 12 with (first
                  | (refine wpL_store_part rfl rfl 35 (.tmp 56) (.tmp 54) rfl 0 180 33 r (i * 33) N c rfl (bytesV f) rfl (by rw [Hfl.out]; kernel_rfl) _ O0.out (by have := Hib.out; have := Hfl.out; omega) bytesV_one _ Y1.out ?_
                     intro w3 o3 g3
                     have O0 := Lib.hid o3
                     have B0 := Lib.hid (heap_grown B0.out g3 (by simpa using hne))
                     have F0 := Lib.hid (F0.out.trans (Fr.grown (S := fun k => k = r) g3 (by simp)) (fun _ _ e => e))
                     clear o3 g3))
                have b0 := B0.out
                have dd0 : w3.cell? ⟨q, 0, none⟩ = some (.slice (some ⟨r, 0, none⟩) N c) := by simp [World.cell?, b0]
                clear b0
                obtain ⟨mid, m1, m2⟩ := lose_steps (i := i) (s := f) (f := f) Y2.out Y3.out Hf.out Hf.out
                have M1 := Lib.hid m1
                have M2 := Lib.hid m2
                clear m1 m2
                go_wp2_with (first
                  | (refine wpL_store_part rfl rfl 35 (.tmp 64) (.tmp 62) rfl 0 180 33 r (i * 33 + 16) N c rfl zl rfl (by kernel_rfl) _ O0.out (by have := Hib.out; have := Hzl.out; omega) zl_one _ M1.out ?_
                     intro w4 o4 g4
                     have O4 := Lib.hid o4
                     have B4 := Lib.hid (heap_grown B0.out g4 (by simpa using hne))
                     have F4 := Lib.hid (F0.out.trans (Fr.grown (S := fun k => k = r) g4 (by simp)) (fun _ _ e => e))
                     have b4 := B4.out
                     have dd : w4.cell? ⟨q, 0, none⟩ = some (.slice (some ⟨r, 0, none⟩) N c) := by simp [World.cell?, b4]
                     clear o4 g4 b4)
                  | (refine wpL_store_one rfl rfl 4 (.tmp 71) (.const (.bool false)) rfl 0 180 33 r (i * 33 + 32) N c rfl _ rfl rfl (by kernel_rfl) _ O4.out (by have := Hib.out; omega) rfl _ M2.out ?_
                     intro w5 o5 g5
                     have O5 := Lib.hid o5
                     have B5 := Lib.hid (heap_grown B4.out g5 (by simpa using hne))
                     have F5 := Lib.hid (F4.out.trans (Fr.grown (S := fun k => k = r) g5 (by simp)) (fun _ _ e => e))
                     clear o5 g5 dd))
                go_roundw
                case rel =>
                  refine ⟨i + 1, by omega, by go_num, by rw [H2.out]; go_num, ?_, Lib.hid (HF.out.trans F5.out (fun _ _ e => .inr e))⟩
                  rw [H2.out]
                  have ho5 := O5.out
                  have hb5 : w5.heap[q]? = wr.heap[q]? := by rw [B5.out, Hp.out, HL.out]
                  rw [List.set_set] at ho5
                  exact Lib.hid (keep_end HK.out (by rw [HL.out]; exact hin) Hf.out (by rw [H3.out]; simp) hb5 (by rw [HL.out]; exact ho5))
                case measure => simp [intOf] <;> omega
            | false =>
              generalize mask / 2 ^ j = mj at *
              by_cases hb : mj % 2 = 1
              · obtain rfl : kp = true := by rw [Hsp.out, decide_eq_true hb]; rfl
                have hbi : ((mj : Int) % 2 == 1) = true := by rw [beq_iff_eq]; omega
                clear hb
                go_upto_region 11 with (fail)
                refine wp_region_phi (by kernel_rfl) 15 none (fun _ => false) (fun i_ v wz => match i_ with
                  | 0 => v = .pointer (some ⟨q, 0, none⟩)
                  | 1 => v = .pointer (some ⟨q, 0, none⟩)
                  | 2 => v = .pointer (some ⟨q, 0, none⟩)
                  | 3 => v = .slice (some ⟨r, 0, none⟩) N c
                  | 4 => v = .int .i64 (i : Int)
                  | 5 => v = .pointer (some ⟨q, 0, none⟩)
                  | 6 => v = .pointer (some ⟨q, 0, none⟩)
                  | 7 => v = .pointer (some ⟨q, 0, none⟩)
                  | 8 => v = .slice (some ⟨r, 0, none⟩) N c
                  | 9 => v = .int .i64 (i : Int)
                  | 10 => v = .pointer (some ⟨r, i * 33, none⟩)
                  | 11 => v = .pointer (some ⟨r, i * 33 + 16, none⟩)
                  | 12 => v = .agg (bytesV f).toArray
                  | 13 => v = .pointer (some ⟨r, i * 33, none⟩)
                  | 14 => v = .pointer (some ⟨r, i * 33, none⟩)
                  | _ => True) (by kernel_rfl) ?_ ?_ ?_
                · (repeat' (first | exact allLt_zero | refine allLt_succ ?_ ?_))
                  · exact fun _ _ _ h _ => h
                  · exact fun _ _ _ h _ => h
                  · exact fun _ _ _ h _ => h
                  · exact fun _ _ _ h _ => h
                  · exact fun _ _ _ h _ => h
                  · exact fun _ _ _ h _ => h
                  · exact fun _ _ _ h _ => h
                  · exact fun _ _ _ h _ => h
                  · exact fun _ _ _ h _ => h
                  · exact fun _ _ _ h _ => h
                  · exact fun _ _ _ h _ => h
                  · exact fun _ _ _ h _ => h
                  · exact fun _ _ _ h _ => h
                  · exact fun _ _ _ h _ => h
                  · exact fun _ _ _ h _ => h
                · (repeat' (first | exact allLt_zero | refine allLt_succ ?_ ?_))
                  · intro a w' hf he
                    have k0 : a.tmps.getD 0 undef = .pointer (some ⟨q, 0, none⟩) := hf.var (by kernel_rfl) rfl
                    refine wpOp_step rfl (fun K hK => ?_)
                    go_simp
                    exact hK _ _ ⟨_, rfl, rfl, World.grownBy.refl _ _⟩
                  · intro a w' hf he
                    have f0 : a.tmps.getD 42 undef = .pointer (some ⟨q, 0, none⟩) := he 0 (by kernel_rfl)
                    refine wpOp_step rfl (fun K hK => ?_)
                    go_simp
                    exact hK _ _ ⟨_, rfl, rfl, World.grownBy.refl _ _⟩
                  · intro a w' hf he
                    have f1 : a.tmps.getD 43 undef = .pointer (some ⟨q, 0, none⟩) := he 1 (by kernel_rfl)
                    rw [show kindRow _ _ = none from by kernel_rfl] at hf
                    refine wpOp_step rfl (fun K hK => ?_)
                    go_simp
                    exact hK _ _ ⟨_, rfl, rfl, World.grownBy.refl _ _⟩
                  · intro a w' hf he
                    have f2 : a.tmps.getD 44 undef = .pointer (some ⟨q, 0, none⟩) := he 2 (by kernel_rfl)
                    rw [show kindRow _ _ = none from by kernel_rfl] at hf
                    have d0 := (hf.bel.block _ (heap_lt B0.out)).trans B0.out
                    have dd : w'.cell? ⟨q, 0, none⟩ = some (.slice (some ⟨r, 0, none⟩) N c) := by simp [World.cell?, d0]
                    clear d0
                    refine wpOp_step rfl (fun K hK => ?_)
                    go_simp
                    exact hK _ _ ⟨_, rfl, rfl, World.grownBy.refl _ _⟩
                  · intro a w' hf he
                    have k7 : a.tmps.getD 7 undef = .int .i64 (i : Int) := hf.var (by kernel_rfl) rfl
                    refine wpOp_step rfl (fun K hK => ?_)
                    go_simp
                    exact hK _ _ ⟨_, rfl, rfl, World.grownBy.refl _ _⟩
                  · intro a w' hf he
                    have k0 : a.tmps.getD 0 undef = .pointer (some ⟨q, 0, none⟩) := hf.var (by kernel_rfl) rfl
                    refine wpOp_step rfl (fun K hK => ?_)
                    go_simp
                    exact hK _ _ ⟨_, rfl, rfl, World.grownBy.refl _ _⟩
                  · intro a w' hf he
                    have f5 : a.tmps.getD 47 undef = .pointer (some ⟨q, 0, none⟩) := he 5 (by kernel_rfl)
                    refine wpOp_step rfl (fun K hK => ?_)
                    go_simp
                    exact hK _ _ ⟨_, rfl, rfl, World.grownBy.refl _ _⟩
                  · intro a w' hf he
                    have f6 : a.tmps.getD 48 undef = .pointer (some ⟨q, 0, none⟩) := he 6 (by kernel_rfl)
                    rw [show kindRow _ _ = none from by kernel_rfl] at hf
                    refine wpOp_step rfl (fun K hK => ?_)
                    go_simp
                    exact hK _ _ ⟨_, rfl, rfl, World.grownBy.refl _ _⟩
                  · intro a w' hf he
                    have f7 : a.tmps.getD 49 undef = .pointer (some ⟨q, 0, none⟩) := he 7 (by kernel_rfl)
                    rw [show kindRow _ _ = none from by kernel_rfl] at hf
                    have d0 := (hf.bel.block _ (heap_lt B0.out)).trans B0.out
                    have dd : w'.cell? ⟨q, 0, none⟩ = some (.slice (some ⟨r, 0, none⟩) N c) := by simp [World.cell?, d0]
                    clear d0
                    refine wpOp_step rfl (fun K hK => ?_)
                    go_simp
                    exact hK _ _ ⟨_, rfl, rfl, World.grownBy.refl _ _⟩
                  · intro a w' hf he
                    have k7 : a.tmps.getD 7 undef = .int .i64 (i : Int) := hf.var (by kernel_rfl) rfl
                    refine wpOp_step rfl (fun K hK => ?_)
                    go_simp
                    exact hK _ _ ⟨_, rfl, rfl, World.grownBy.refl _ _⟩
                  · intro a w' hf he
                    have f8 : a.tmps.getD 50 undef = .slice (some ⟨r, 0, none⟩) N c := he 8 (by kernel_rfl)
                    have f9 : a.tmps.getD 51 undef = .int .i64 (i : Int) := he 9 (by kernel_rfl)
                    rw [show kindRow _ _ = none from by kernel_rfl] at hf
                    refine wpOp_step rfl (fun K hK => ?_)
                    go_simp
                    exact hK _ _ ⟨_, rfl, rfl, World.grownBy.refl _ _⟩
                  · intro a w' hf he
                    have f10 : a.tmps.getD 52 undef = .pointer (some ⟨r, i * 33, none⟩) := he 10 (by kernel_rfl)
                    rw [show kindRow _ _ = none from by kernel_rfl] at hf
                    refine wpOp_step rfl (fun K hK => ?_)
                    go_simp
                    exact hK _ _ ⟨_, rfl, rfl, World.grownBy.refl _ _⟩
                  · intro a w' hf he
                    have f11 : a.tmps.getD 53 undef = .pointer (some ⟨r, i * 33 + 16, none⟩) := he 11 (by kernel_rfl)
                    rw [show kindRow _ _ = none from by kernel_rfl] at hf
                    refine wpOp_step rfl (fun K hK => ?_)
                    refine wp_load_rd 35 (.tmp 53) rfl ⟨r, i * 33 + 16, none⟩ f11 (bytesV f) _ (fun j v hv => (hf.bel.cell (block_lt_of_cell (P2.out j v hv))).trans (P2.out j v hv)) Try.underlying35 rfl (by rw [Hfl.out]; kernel_rfl) ?_
                    exact hK _ _ ⟨_, rfl, rfl, World.grownBy.refl _ _⟩
                  · intro a w' hf he
                    have f3 : a.tmps.getD 45 undef = .slice (some ⟨r, 0, none⟩) N c := he 3 (by kernel_rfl)
                    have f4 : a.tmps.getD 46 undef = .int .i64 (i : Int) := he 4 (by kernel_rfl)
                    rw [show kindRow _ _ = none from by kernel_rfl] at hf
                    refine wpOp_step rfl (fun K hK => ?_)
                    go_simp
                    exact hK _ _ ⟨_, rfl, rfl, World.grownBy.refl _ _⟩
                  · intro a w' hf he
                    have f13 : a.tmps.getD 55 undef = .pointer (some ⟨r, i * 33, none⟩) := he 13 (by kernel_rfl)
                    rw [show kindRow _ _ = none from by kernel_rfl] at hf
                    refine wpOp_step rfl (fun K hK => ?_)
                    go_simp
                    exact hK _ _ ⟨_, rfl, rfl, World.grownBy.refl _ _⟩
                · intro a w' hf he
                  obtain ⟨u42, f0⟩ : ∃ u, a.tmps.getD 42 undef = u := ⟨_, rfl⟩
                  obtain ⟨u43, f1⟩ : ∃ u, a.tmps.getD 43 undef = u := ⟨_, rfl⟩
                  obtain ⟨u44, f2⟩ : ∃ u, a.tmps.getD 44 undef = u := ⟨_, rfl⟩
                  obtain ⟨u45, f3⟩ : ∃ u, a.tmps.getD 45 undef = u := ⟨_, rfl⟩
                  obtain ⟨u46, f4⟩ : ∃ u, a.tmps.getD 46 undef = u := ⟨_, rfl⟩
                  obtain ⟨u47, f5⟩ : ∃ u, a.tmps.getD 47 undef = u := ⟨_, rfl⟩
                  obtain ⟨u48, f6⟩ : ∃ u, a.tmps.getD 48 undef = u := ⟨_, rfl⟩
                  obtain ⟨u49, f7⟩ : ∃ u, a.tmps.getD 49 undef = u := ⟨_, rfl⟩
                  obtain ⟨u50, f8⟩ : ∃ u, a.tmps.getD 50 undef = u := ⟨_, rfl⟩
                  obtain ⟨u51, f9⟩ : ∃ u, a.tmps.getD 51 undef = u := ⟨_, rfl⟩
                  obtain ⟨u52, f10⟩ : ∃ u, a.tmps.getD 52 undef = u := ⟨_, rfl⟩
                  obtain ⟨u53, f11⟩ : ∃ u, a.tmps.getD 53 undef = u := ⟨_, rfl⟩
                  have f12 : a.tmps.getD 54 undef = .agg (bytesV f).toArray := he 12 (by decide)
                  obtain ⟨u55, f13⟩ : ∃ u, a.tmps.getD 55 undef = u := ⟨_, rfl⟩
                  have f14 : a.tmps.getD 56 undef = .pointer (some ⟨r, i * 33, none⟩) := he 14 (by decide)
                  have hlit := hf.lit ((42, u42) :: (43, u43) :: (44, u44) :: (45, u45) :: (46, u46) :: (47, u47) :: (48, u48) :: (49, u49) :: (50, u50) :: (51, u51) :: (52, u52) :: (53, u53) :: (54, .agg (bytesV f).toArray) :: (55, u55) :: (56, .pointer (some ⟨r, i * 33, none⟩)) :: []) (by kernel_rfl) ⟨f0, f1, f2, f3, f4, f5, f6, f7, f8, f9, f10, f11, f12, f13, f14, trivial⟩
                  have hB := hf.bel
                  clear he hf f0 f1 f2 f3 f4 f5 f6 f7 f8 f9 f10 f11 f12 f13 f14 
                  subst hlit
                  simp only [putAll_nil, putAll_cons, Act.put, List.setIfInBounds_toArray, List.set_cons_zero, List.set_cons_succ]
                  simp only [List.drop_succ_cons, List.drop_zero]
                  have F0 := Lib.hid (F0.out.trans (Fr.of_bel (S := fun k => k = r) hB) (fun _ _ e => e))
                  have B0 := Lib.hid ((hB.block _ (heap_lt B0.out)).trans B0.out)
                  have O0 := Lib.hid (Tw.Own.bel O0.out hB)
                  clear hB
                  obtain ⟨y1, y2, y3⟩ := keep_step Hwd.out Hrw.out Hs.out Hf.out
                  have Y1 := Lib.hid y1
                  have Y2 := Lib.hid y2
                  have Y3 := Lib.hid y3
                  clear y1 y2 y3
                  go_upto_region 12 with (first
                    | (refine wpL_store_part rfl rfl 35 (.tmp 56) (.tmp 54) rfl 0 180 33 r (i * 33) N c rfl (bytesV f) rfl (by rw [Hfl.out]; kernel_rfl) _ O0.out (by have := Hib.out; have := Hfl.out; omega) bytesV_one _ Y1.out ?_
                       intro w3 o3 g3
                       have O0 := Lib.hid o3
                       have B0 := Lib.hid (heap_grown B0.out g3 (by simpa using hne))
                       have F0 := Lib.hid (F0.out.trans (Fr.grown (S := fun k => k = r) g3 (by simp)) (fun _ _ e => e))
                       clear o3 g3))
                  have b0 := B0.out
                  have dd0 : w3.cell? ⟨q, 0, none⟩ = some (.slice (some ⟨r, 0, none⟩) N c) := by simp [World.cell?, b0]
                  clear b0
                  obtain ⟨mid, m1, m2⟩ := lose_steps (i := i) (s := f) (f := f) Y2.out Y3.out Hf.out Hf.out
                  have M1 := Lib.hid m1
                  have M2 := Lib.hid m2
                  clear m1 m2
                  go_wp2_with (first
                    | (refine wpL_store_part rfl rfl 35 (.tmp 64) (.tmp 62) rfl 0 180 33 r (i * 33 + 16) N c rfl zl rfl (by kernel_rfl) _ O0.out (by have := Hib.out; have := Hzl.out; omega) zl_one _ M1.out ?_
                       intro w4 o4 g4
                       have O4 := Lib.hid o4
                       have B4 := Lib.hid (heap_grown B0.out g4 (by simpa using hne))
                       have F4 := Lib.hid (F0.out.trans (Fr.grown (S := fun k => k = r) g4 (by simp)) (fun _ _ e => e))
                       have b4 := B4.out
                       have dd : w4.cell? ⟨q, 0, none⟩ = some (.slice (some ⟨r, 0, none⟩) N c) := by simp [World.cell?, b4]
                       clear o4 g4 b4)
                    | (refine wpL_store_one rfl rfl 4 (.tmp 71) (.const (.bool false)) rfl 0 180 33 r (i * 33 + 32) N c rfl _ rfl rfl (by kernel_rfl) _ O4.out (by have := Hib.out; omega) rfl _ M2.out ?_
                       intro w5 o5 g5
                       have O5 := Lib.hid o5
                       have B5 := Lib.hid (heap_grown B4.out g5 (by simpa using hne))
                       have F5 := Lib.hid (F4.out.trans (Fr.grown (S := fun k => k = r) g5 (by simp)) (fun _ _ e => e))
                       clear o5 g5 dd))
                  go_roundw
                  case rel =>
                    refine ⟨i + 1, by omega, by go_num, by rw [H2.out]; go_num, ?_, Lib.hid (HF.out.trans F5.out (fun _ _ e => .inr e))⟩
                    rw [H2.out]
                    have ho5 := O5.out
                    have hb5 : w5.heap[q]? = wr.heap[q]? := by rw [B5.out, Hp.out, HL.out]
                    rw [List.set_set] at ho5
                    exact Lib.hid (keep_end HK.out (by rw [HL.out]; exact hin) Hf.out (by rw [H3.out]; simp) hb5 (by rw [HL.out]; exact ho5))
                  case measure => simp [intOf] <;> omega
              · obtain rfl : kp = false := by rw [Hsp.out, decide_eq_false hb]; rfl
                have hbi : ((mj : Int) % 2 == 1) = false := by rw [beq_eq_false_iff_ne]; omega
                clear hb
                go_upto_region 12 with (fail)
                obtain ⟨mid, m1, m2⟩ := lose_steps (i := i) (s := s) (f := f) Hwd.out Hrw.out Hs.out Hf.out
                have M1 := Lib.hid m1
                have M2 := Lib.hid m2
                clear m1 m2
                go_wp2_with (first
                  | (refine wpL_store_part rfl rfl 35 (.tmp 64) (.tmp 62) rfl 0 180 33 r (i * 33 + 16) N c rfl zl rfl (by kernel_rfl) _ O0.out (by have := Hib.out; have := Hzl.out; omega) zl_one _ M1.out ?_
                     intro w4 o4 g4
                     have O4 := Lib.hid o4
                     have B4 := Lib.hid (heap_grown B0.out g4 (by simpa using hne))
                     have F4 := Lib.hid (F0.out.trans (Fr.grown (S := fun k => k = r) g4 (by simp)) (fun _ _ e => e))
                     have b4 := B4.out
                     have dd : w4.cell? ⟨q, 0, none⟩ = some (.slice (some ⟨r, 0, none⟩) N c) := by simp [World.cell?, b4]
                     clear o4 g4 b4)
                  | (refine wpL_store_one rfl rfl 4 (.tmp 71) (.const (.bool false)) rfl 0 180 33 r (i * 33 + 32) N c rfl _ rfl rfl (by kernel_rfl) _ O4.out (by have := Hib.out; omega) rfl _ M2.out ?_
                     intro w5 o5 g5
                     have O5 := Lib.hid o5
                     have B5 := Lib.hid (heap_grown B4.out g5 (by simpa using hne))
                     have F5 := Lib.hid (F4.out.trans (Fr.grown (S := fun k => k = r) g5 (by simp)) (fun _ _ e => e))
                     clear o5 g5 dd))
                go_roundw
                case rel =>
                  refine ⟨i + 1, by omega, by go_num, by rw [H2.out]; go_num, ?_, Lib.hid (HF.out.trans F5.out (fun _ _ e => .inr e))⟩
                  rw [H2.out]
                  have ho5 := O5.out
                  have hb5 : w5.heap[q]? = wr.heap[q]? := by rw [B5.out, Hp.out, HL.out]
                  skip
                  exact Lib.hid (keep_end HK.out (by rw [HL.out]; exact hin) Hs.out (by rw [H3.out]; simp) hb5 (by rw [HL.out]; exact ho5))
                case measure => simp [intOf] <;> omega
    · obtain rfl : i = N := by omega
      go_wp2_with fail
      refine bodyPost_end (results_none rfl _ _ _) rfl ?_
      have hk := HK.out
      rw [← HN.out, List.take_length, Hend.out] at hk
      exact ⟨rfl, hk, HF.out⟩
end
end Go.Proofs.Ytpbcmghfhflkbaa.Disk
