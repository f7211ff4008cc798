/- The law DiskActs: both disks say the same. Conditions: none. -/
import Derived.Test.YtplemdgihlabgaaDiskDo2
import Derived.Test.YtplemdgihlabgaaInts
set_option linter.unusedVariables false
set_option linter.unusedSimpArgs false
namespace Go.Proofs.Ytplemdgihlabgaa.Disk
open Go.RowKit Tw
set_option maxHeartbeats 8000000
set_option maxRecDepth 100000
theorem cachedZ_iz (D : Dsk) : D.cachedZ.map encZ = izV D.cachedZ := rfl
theorem natsV_iz (D : Dsk) : natsV D.cached = izV D.cachedZ := by
  unfold natsV izV Dsk.cachedZ
  rw [List.map_map]
  rfl
theorem neq_sec (t : Sec) (ht : t.length = 16) (W : World) : (binOp .neq 23 (.agg (bytesV t).toArray) (.agg (bytesV t).toArray)).run Try.prog W = .ok (.bool false) W := by
  rw [run_neq_barr W t t ht ht Try.underlying23 Try.underlying5 (by kernel_rfl), decide_eq_true rfl]
  rfl
section
variable {w w' : World} {p g mb c q r c' : Nat} {D : Dsk}
theorem c_Alike (h : Pr w p g mb c q r c' D) : Calls Try.prog 30 #[.pointer (some ⟨p, 0, none⟩), .pointer (some ⟨q, 0, none⟩)] w fun e w' => e = .returned (.bool true) ∧ Below w.heap.size w w' := by
  have hn := h.dk.ok.n
  have H := Lib.hid h
  have Hok := Lib.hid h.dk.ok
  obtain ⟨N, hN⟩ : ∃ N, D.cells.length = N := ⟨_, rfl⟩
  have HN := Lib.hid hN
  rw [hN] at hn
  have hb0 := h.rk.blk
  rw [hN] at hb0
  have HB0 := Lib.hid hb0
  have hszc : Hid (∀ W x, Dk W p g mb c x → x = D → Calls Try.prog 21 #[.pointer (some ⟨p, 0, none⟩)] W fun e w' => e = .returned (.int .i64 (N : Int)) ∧ W = w') := Lib.hid (fun W x hx e => by subst e; rw [← hN]; exact c_Size hx)
  clear h hN hb0
  go_enter Try.func30, Try.ntmps30
  go_upto_region 1 with (fail)
  refine wp_region_phi (by kernel_rfl) 34 none (fun _ => false) (fun i_ v wz => match i_ with
    | 0 => v = .pointer (some ⟨p, 0, none⟩)
    | 1 => v = .int .i64 (N : Int)
    | 2 => v = .pointer (some ⟨q, 0, none⟩)
    | 3 => v = .pointer (some ⟨q, 0, none⟩)
    | 4 => v = .pointer (some ⟨q, 0, none⟩)
    | 5 => v = .slice (some ⟨r, 0, none⟩) N c'
    | 6 => v = .int .i64 (N : Int)
    | 7 => v = .bool false
    | 8 => v = .bool false
    | 9 => v = .pointer (some ⟨p, 0, none⟩)
    | 10 => v = .bool D.broken
    | 11 => v = .pointer (some ⟨q, 0, none⟩)
    | 12 => v = .pointer (some ⟨q, 0, none⟩)
    | 13 => v = .pointer (some ⟨q, 2, none⟩)
    | 14 => v = .bool D.broken
    | 15 => v = .bool false
    | 16 => v = .bool false
    | 17 => v = .bool false
    | 18 => v = .pointer (some ⟨p, 0, none⟩)
    | 19 => v = .int .i64 (D.ops : Int)
    | 20 => v = .pointer (some ⟨q, 0, none⟩)
    | 21 => v = .pointer (some ⟨q, 0, none⟩)
    | 22 => v = .pointer (some ⟨q, 3, none⟩)
    | 23 => v = .int .i64 (D.ops : Int)
    | 24 => v = .bool false
    | 25 => v = .bool false
    | 26 => v = .bool false
    | 27 => v = .pointer (some ⟨p, 0, none⟩)
    | 28 => ∃ A c2, v = .slice A D.cached.length c2 ∧ Rd wz 1 A D.cached.length c2 (izV D.cachedZ)
    | 29 => v = .pointer (some ⟨q, 0, none⟩)
    | 30 => ∃ A c2, v = .slice A D.cached.length c2 ∧ Rd wz 1 A D.cached.length c2 (izV D.cachedZ)
    | 31 => v = .bool true
    | 32 => v = .bool false
    | 33 => v = .bool false
    | _ => True) (by kernel_rfl) ?_ ?_ ?_
  · (repeat' (first | exact allLt_zero | refine allLt_succ ?_ ?_))
    · exact fun _ _ _ h _ => h
    · exact fun _ _ _ h _ => h
    · exact fun _ _ _ h _ => h
    · exact fun _ _ _ h _ => h
    · exact fun _ _ _ h _ => h
    · exact fun _ _ _ h _ => h
    · exact fun _ _ _ h _ => h
    · exact fun _ _ _ h _ => h
    · exact fun _ _ _ h _ => h
    · exact fun _ _ _ h _ => h
    · exact fun _ _ _ h _ => h
    · exact fun _ _ _ h _ => h
    · exact fun _ _ _ h _ => h
    · exact fun _ _ _ h _ => h
    · exact fun _ _ _ h _ => h
    · exact fun _ _ _ h _ => h
    · exact fun _ _ _ h _ => h
    · exact fun _ _ _ h _ => h
    · exact fun _ _ _ h _ => h
    · exact fun _ _ _ h _ => h
    · exact fun _ _ _ h _ => h
    · exact fun _ _ _ h _ => h
    · exact fun _ _ _ h _ => h
    · exact fun _ _ _ h _ => h
    · exact fun _ _ _ h _ => h
    · exact fun _ _ _ h _ => h
    · exact fun _ _ _ h _ => h
    · exact fun _ _ _ h _ => h
    · intro v w1 w2 h hg
      rw [show kindRow _ _ = none from by kernel_rfl] at hg
      obtain ⟨A3, c3, rfl, hr⟩ := h
      exact ⟨A3, c3, rfl, hr.bel (bel_grown hg)⟩
    · exact fun _ _ _ h _ => h
    · intro v w1 w2 h hg
      rw [show kindRow _ _ = none from by kernel_rfl] at hg
      obtain ⟨A3, c3, rfl, hr⟩ := h
      exact ⟨A3, c3, rfl, hr.bel (bel_grown hg)⟩
    · exact fun _ _ _ h _ => h
    · exact fun _ _ _ h _ => h
    · exact fun _ _ _ h _ => h
  · (repeat' (first | exact allLt_zero | refine allLt_succ ?_ ?_))
    · intro a w' hf he
      have k0 : a.tmps.getD 0 undef = .pointer (some ⟨p, 0, none⟩) := hf.var (by kernel_rfl) rfl
      refine wpOp_step rfl (fun K hK => ?_)
      go_simp
      exact hK _ _ ⟨_, rfl, rfl, World.grownBy.refl _ _⟩
    · intro a w' hf he
      have f0 : a.tmps.getD 10 undef = .pointer (some ⟨p, 0, none⟩) := he 0 (by kernel_rfl)
      rw [show kindRow _ _ = none from by kernel_rfl] at hf
      have hk := H.out.dk.bel hf.bel
      refine wpOp_step rfl (fun K hK => ?_)
      go_simp
      refine (hszc.out _ _ hk rfl).mono ?_
      rintro e w2 ⟨rfl, rfl⟩
      exact hK _ _ ⟨_, rfl, rfl, World.grownBy.refl _ _⟩
    · intro a w' hf he
      have k1 : a.tmps.getD 1 undef = .pointer (some ⟨q, 0, none⟩) := hf.var (by kernel_rfl) rfl
      refine wpOp_step rfl (fun K hK => ?_)
      go_simp
      exact hK _ _ ⟨_, rfl, rfl, World.grownBy.refl _ _⟩
    · intro a w' hf he
      have f2 : a.tmps.getD 12 undef = .pointer (some ⟨q, 0, none⟩) := he 2 (by kernel_rfl)
      rw [show kindRow _ _ = none from by kernel_rfl] at hf
      refine wpOp_step rfl (fun K hK => ?_)
      go_simp
      exact hK _ _ ⟨_, rfl, rfl, World.grownBy.refl _ _⟩
    · intro a w' hf he
      have f3 : a.tmps.getD 13 undef = .pointer (some ⟨q, 0, none⟩) := he 3 (by kernel_rfl)
      rw [show kindRow _ _ = none from by kernel_rfl] at hf
      refine wpOp_step rfl (fun K hK => ?_)
      go_simp
      exact hK _ _ ⟨_, rfl, rfl, World.grownBy.refl _ _⟩
    · intro a w' hf he
      have f4 : a.tmps.getD 14 undef = .pointer (some ⟨q, 0, none⟩) := he 4 (by kernel_rfl)
      rw [show kindRow _ _ = none from by kernel_rfl] at hf
      have d0 := (hf.bel.block _ (heap_lt HB0.out)).trans HB0.out
      have dd : w'.cell? ⟨q, 0, none⟩ = some (.slice (some ⟨r, 0, none⟩) N c') := by simp [World.cell?, d0]
      clear d0
      refine wpOp_step rfl (fun K hK => ?_)
      go_simp
      exact hK _ _ ⟨_, rfl, rfl, World.grownBy.refl _ _⟩
    · intro a w' hf he
      have f5 : a.tmps.getD 15 undef = .slice (some ⟨r, 0, none⟩) N c' := he 5 (by kernel_rfl)
      rw [show kindRow _ _ = none from by kernel_rfl] at hf
      refine wpOp_step rfl (fun K hK => ?_)
      go_simp
      exact hK _ _ ⟨_, rfl, rfl, World.grownBy.refl _ _⟩
    · intro a w' hf he
      have f1 : a.tmps.getD 11 undef = .int .i64 (N : Int) := he 1 (by kernel_rfl)
      have f6 : a.tmps.getD 16 undef = .int .i64 (N : Int) := he 6 (by kernel_rfl)
      rw [show kindRow _ _ = none from by kernel_rfl] at hf
      refine wpOp_step rfl (fun K hK => ?_)
      go_simp
      exact hK _ _ ⟨_, rfl, rfl, World.grownBy.refl _ _⟩
    · intro a w' hf he
      have f7 : a.tmps.getD 17 undef = .bool false := he 7 (by kernel_rfl)
      refine wpOp_step rfl (fun K hK => ?_)
      go_simp
      exact hK _ _ ⟨_, rfl, rfl, World.grownBy.refl _ _⟩
    · intro a w' hf he
      have k0 : a.tmps.getD 0 undef = .pointer (some ⟨p, 0, none⟩) := hf.var (by kernel_rfl) rfl
      have f8 : a.tmps.getD 18 undef = .bool false := he 8 (by kernel_rfl)
      refine wpOp_run rfl rfl rfl f8 (fun K hK => ?_)
      go_simp
      exact hK _ _ ⟨_, rfl, rfl, World.grownBy.refl _ _⟩
    · intro a w' hf he
      have f9 : a.tmps.getD 19 undef = .pointer (some ⟨p, 0, none⟩) := he 9 (by kernel_rfl)
      have f8 : a.tmps.getD 18 undef = .bool false := he 8 (by kernel_rfl)
      rw [show kindRow _ _ = none from by kernel_rfl] at hf
      refine wpOp_run rfl rfl rfl f8 (fun K hK => ?_)
      go_simp
      refine (c_Broken (H.out.dk.bel hf.bel)).mono ?_
      rintro e w2 ⟨rfl, rfl⟩
      exact hK _ _ ⟨_, rfl, rfl, World.grownBy.refl _ _⟩
    · intro a w' hf he
      have k1 : a.tmps.getD 1 undef = .pointer (some ⟨q, 0, none⟩) := hf.var (by kernel_rfl) rfl
      have f8 : a.tmps.getD 18 undef = .bool false := he 8 (by kernel_rfl)
      refine wpOp_run rfl rfl rfl f8 (fun K hK => ?_)
      go_simp
      exact hK _ _ ⟨_, rfl, rfl, World.grownBy.refl _ _⟩
    · intro a w' hf he
      have f11 : a.tmps.getD 21 undef = .pointer (some ⟨q, 0, none⟩) := he 11 (by kernel_rfl)
      have f8 : a.tmps.getD 18 undef = .bool false := he 8 (by kernel_rfl)
      rw [show kindRow _ _ = none from by kernel_rfl] at hf
      refine wpOp_run rfl rfl rfl f8 (fun K hK => ?_)
      go_simp
      exact hK _ _ ⟨_, rfl, rfl, World.grownBy.refl _ _⟩
    · intro a w' hf he
      have f12 : a.tmps.getD 22 undef = .pointer (some ⟨q, 0, none⟩) := he 12 (by kernel_rfl)
      have f8 : a.tmps.getD 18 undef = .bool false := he 8 (by kernel_rfl)
      rw [show kindRow _ _ = none from by kernel_rfl] at hf
      refine wpOp_run rfl rfl rfl f8 (fun K hK => ?_)
      go_simp
      exact hK _ _ ⟨_, rfl, rfl, World.grownBy.refl _ _⟩
    · intro a w' hf he
      have f13 : a.tmps.getD 23 undef = .pointer (some ⟨q, 2, none⟩) := he 13 (by kernel_rfl)
      have f8 : a.tmps.getD 18 undef = .bool false := he 8 (by kernel_rfl)
      rw [show kindRow _ _ = none from by kernel_rfl] at hf
      have d0 := (hf.bel.block _ (heap_lt HB0.out)).trans HB0.out
      have dd : w'.cell? ⟨q, 2, none⟩ = some (.bool D.broken) := by simp [World.cell?, d0]
      clear d0
      refine wpOp_run rfl rfl rfl f8 (fun K hK => ?_)
      go_simp
      exact hK _ _ ⟨_, rfl, rfl, World.grownBy.refl _ _⟩
    · intro a w' hf he
      have f10 : a.tmps.getD 20 undef = .bool D.broken := he 10 (by kernel_rfl)
      have f14 : a.tmps.getD 24 undef = .bool D.broken := he 14 (by kernel_rfl)
      have f8 : a.tmps.getD 18 undef = .bool false := he 8 (by kernel_rfl)
      rw [show kindRow _ _ = none from by kernel_rfl] at hf
      refine wpOp_run rfl rfl rfl f8 (fun K hK => ?_)
      go_simp
      exact hK _ _ ⟨_, rfl, by simp, World.grownBy.refl _ _⟩
    · intro a w' hf he
      have f8 : a.tmps.getD 18 undef = .bool false := he 8 (by kernel_rfl)
      have f15 : a.tmps.getD 25 undef = .bool false := he 15 (by kernel_rfl)
      refine wpOp_step rfl (fun K hK => ?_)
      go_simp
      exact hK _ _ ⟨_, rfl, rfl, World.grownBy.refl _ _⟩
    · intro a w' hf he
      have f16 : a.tmps.getD 26 undef = .bool false := he 16 (by kernel_rfl)
      refine wpOp_step rfl (fun K hK => ?_)
      go_simp
      exact hK _ _ ⟨_, rfl, rfl, World.grownBy.refl _ _⟩
    · intro a w' hf he
      have k0 : a.tmps.getD 0 undef = .pointer (some ⟨p, 0, none⟩) := hf.var (by kernel_rfl) rfl
      have f17 : a.tmps.getD 27 undef = .bool false := he 17 (by kernel_rfl)
      refine wpOp_run rfl rfl rfl f17 (fun K hK => ?_)
      go_simp
      exact hK _ _ ⟨_, rfl, rfl, World.grownBy.refl _ _⟩
    · intro a w' hf he
      have f18 : a.tmps.getD 28 undef = .pointer (some ⟨p, 0, none⟩) := he 18 (by kernel_rfl)
      have f17 : a.tmps.getD 27 undef = .bool false := he 17 (by kernel_rfl)
      rw [show kindRow _ _ = none from by kernel_rfl] at hf
      refine wpOp_run rfl rfl rfl f17 (fun K hK => ?_)
      go_simp
      refine (c_Ops (H.out.dk.bel hf.bel)).mono ?_
      rintro e w2 ⟨rfl, rfl⟩
      exact hK _ _ ⟨_, rfl, rfl, World.grownBy.refl _ _⟩
    · intro a w' hf he
      have k1 : a.tmps.getD 1 undef = .pointer (some ⟨q, 0, none⟩) := hf.var (by kernel_rfl) rfl
      have f17 : a.tmps.getD 27 undef = .bool false := he 17 (by kernel_rfl)
      refine wpOp_run rfl rfl rfl f17 (fun K hK => ?_)
      go_simp
      exact hK _ _ ⟨_, rfl, rfl, World.grownBy.refl _ _⟩
    · intro a w' hf he
      have f20 : a.tmps.getD 30 undef = .pointer (some ⟨q, 0, none⟩) := he 20 (by kernel_rfl)
      have f17 : a.tmps.getD 27 undef = .bool false := he 17 (by kernel_rfl)
      rw [show kindRow _ _ = none from by kernel_rfl] at hf
      refine wpOp_run rfl rfl rfl f17 (fun K hK => ?_)
      go_simp
      exact hK _ _ ⟨_, rfl, rfl, World.grownBy.refl _ _⟩
    · intro a w' hf he
      have f21 : a.tmps.getD 31 undef = .pointer (some ⟨q, 0, none⟩) := he 21 (by kernel_rfl)
      have f17 : a.tmps.getD 27 undef = .bool false := he 17 (by kernel_rfl)
      rw [show kindRow _ _ = none from by kernel_rfl] at hf
      refine wpOp_run rfl rfl rfl f17 (fun K hK => ?_)
      go_simp
      exact hK _ _ ⟨_, rfl, rfl, World.grownBy.refl _ _⟩
    · intro a w' hf he
      have f22 : a.tmps.getD 32 undef = .pointer (some ⟨q, 3, none⟩) := he 22 (by kernel_rfl)
      have f17 : a.tmps.getD 27 undef = .bool false := he 17 (by kernel_rfl)
      rw [show kindRow _ _ = none from by kernel_rfl] at hf
      have d0 := (hf.bel.block _ (heap_lt HB0.out)).trans HB0.out
      have dd : w'.cell? ⟨q, 3, none⟩ = some (.int .i64 (D.ops : Int)) := by simp [World.cell?, d0]
      clear d0
      refine wpOp_run rfl rfl rfl f17 (fun K hK => ?_)
      go_simp
      exact hK _ _ ⟨_, rfl, rfl, World.grownBy.refl _ _⟩
    · intro a w' hf he
      have f19 : a.tmps.getD 29 undef = .int .i64 (D.ops : Int) := he 19 (by kernel_rfl)
      have f23 : a.tmps.getD 33 undef = .int .i64 (D.ops : Int) := he 23 (by kernel_rfl)
      have f17 : a.tmps.getD 27 undef = .bool false := he 17 (by kernel_rfl)
      rw [show kindRow _ _ = none from by kernel_rfl] at hf
      refine wpOp_run rfl rfl rfl f17 (fun K hK => ?_)
      go_simp
      exact hK _ _ ⟨_, rfl, rfl, World.grownBy.refl _ _⟩
    · intro a w' hf he
      have f17 : a.tmps.getD 27 undef = .bool false := he 17 (by kernel_rfl)
      have f24 : a.tmps.getD 34 undef = .bool false := he 24 (by kernel_rfl)
      refine wpOp_step rfl (fun K hK => ?_)
      go_simp
      exact hK _ _ ⟨_, rfl, rfl, World.grownBy.refl _ _⟩
    · intro a w' hf he
      have f25 : a.tmps.getD 35 undef = .bool false := he 25 (by kernel_rfl)
      refine wpOp_step rfl (fun K hK => ?_)
      go_simp
      exact hK _ _ ⟨_, rfl, rfl, World.grownBy.refl _ _⟩
    · intro a w' hf he
      have k0 : a.tmps.getD 0 undef = .pointer (some ⟨p, 0, none⟩) := hf.var (by kernel_rfl) rfl
      have f26 : a.tmps.getD 36 undef = .bool false := he 26 (by kernel_rfl)
      refine wpOp_run rfl rfl rfl f26 (fun K hK => ?_)
      go_simp
      exact hK _ _ ⟨_, rfl, rfl, World.grownBy.refl _ _⟩
    · intro a w' hf he
      have f27 : a.tmps.getD 37 undef = .pointer (some ⟨p, 0, none⟩) := he 27 (by kernel_rfl)
      have f26 : a.tmps.getD 36 undef = .bool false := he 26 (by kernel_rfl)
      rw [show kindRow _ _ = none from by kernel_rfl] at hf
      refine wpOp_run rfl rfl rfl f26 (fun K hK => ?_)
      go_simp
      refine (c_Cached (H.out.dk.bel hf.bel)).mono ?_
      rintro e w2 ⟨A2, c2, rfl, ho2, hb2⟩
      exact hK _ _ ⟨_, rfl, ⟨_, _, rfl, ho2.rd⟩, grown_bel hb2⟩
    · intro a w' hf he
      have k1 : a.tmps.getD 1 undef = .pointer (some ⟨q, 0, none⟩) := hf.var (by kernel_rfl) rfl
      have f26 : a.tmps.getD 36 undef = .bool false := he 26 (by kernel_rfl)
      refine wpOp_run rfl rfl rfl f26 (fun K hK => ?_)
      go_simp
      exact hK _ _ ⟨_, rfl, rfl, World.grownBy.refl _ _⟩
    · intro a w' hf he
      have f29 : a.tmps.getD 39 undef = .pointer (some ⟨q, 0, none⟩) := he 29 (by kernel_rfl)
      have f26 : a.tmps.getD 36 undef = .bool false := he 26 (by kernel_rfl)
      rw [show kindRow _ _ = none from by kernel_rfl] at hf
      refine wpOp_run rfl rfl rfl f26 (fun K hK => ?_)
      go_simp
      refine (r_Cached (H.out.rk.bel hf.bel)).mono ?_
      rintro e w2 ⟨A2, c2, rfl, ho2, hb2⟩
      rw [natsV_iz] at ho2
      exact hK _ _ ⟨_, rfl, ⟨_, _, rfl, ho2.rd⟩, grown_bel hb2⟩
    · intro a w' hf he
      obtain ⟨A28, c28, hv28, hr28⟩ := he 28 (by kernel_rfl)
      have f28 : a.tmps.getD 38 undef = _ := hv28
      obtain ⟨A30, c30, hv30, hr30⟩ := he 30 (by kernel_rfl)
      have f30 : a.tmps.getD 40 undef = _ := hv30
      have f26 : a.tmps.getD 36 undef = .bool false := he 26 (by kernel_rfl)
      rw [show kindRow _ _ = none from by kernel_rfl] at hf
      refine wpOp_run rfl rfl rfl f26 (fun K hK => ?_)
      go_simp
      refine (c_IntsZ _ _ _ _ _ _ _ _ _ hr28 hr30).mono ?_
      rintro e w2 ⟨rfl, m, rfl⟩
      rw [beq_self_eq_true]
      exact hK _ _ ⟨_, rfl, rfl, ⟨rfl, rfl, rfl, Nat.le_refl _, fun _ _ _ => rfl⟩⟩
    · intro a w' hf he
      have f31 : a.tmps.getD 41 undef = .bool true := he 31 (by kernel_rfl)
      have f26 : a.tmps.getD 36 undef = .bool false := he 26 (by kernel_rfl)
      rw [show kindRow _ _ = none from by kernel_rfl] at hf
      refine wpOp_run rfl rfl rfl f26 (fun K hK => ?_)
      go_simp
      exact hK _ _ ⟨_, rfl, rfl, World.grownBy.refl _ _⟩
    · intro a w' hf he
      have f26 : a.tmps.getD 36 undef = .bool false := he 26 (by kernel_rfl)
      have f32 : a.tmps.getD 42 undef = .bool false := he 32 (by kernel_rfl)
      refine wpOp_step rfl (fun K hK => ?_)
      go_simp
      exact hK _ _ ⟨_, rfl, rfl, World.grownBy.refl _ _⟩
  · intro a w' hf he
    obtain ⟨u10, f0⟩ : ∃ u, a.tmps.getD 10 undef = u := ⟨_, rfl⟩
    obtain ⟨u11, f1⟩ : ∃ u, a.tmps.getD 11 undef = u := ⟨_, rfl⟩
    obtain ⟨u12, f2⟩ : ∃ u, a.tmps.getD 12 undef = u := ⟨_, rfl⟩
    obtain ⟨u13, f3⟩ : ∃ u, a.tmps.getD 13 undef = u := ⟨_, rfl⟩
    obtain ⟨u14, f4⟩ : ∃ u, a.tmps.getD 14 undef = u := ⟨_, rfl⟩
    obtain ⟨u15, f5⟩ : ∃ u, a.tmps.getD 15 undef = u := ⟨_, rfl⟩
    obtain ⟨u16, f6⟩ : ∃ u, a.tmps.getD 16 undef = u := ⟨_, rfl⟩
    obtain ⟨u17, f7⟩ : ∃ u, a.tmps.getD 17 undef = u := ⟨_, rfl⟩
    obtain ⟨u18, f8⟩ : ∃ u, a.tmps.getD 18 undef = u := ⟨_, rfl⟩
    obtain ⟨u19, f9⟩ : ∃ u, a.tmps.getD 19 undef = u := ⟨_, rfl⟩
    obtain ⟨u20, f10⟩ : ∃ u, a.tmps.getD 20 undef = u := ⟨_, rfl⟩
    obtain ⟨u21, f11⟩ : ∃ u, a.tmps.getD 21 undef = u := ⟨_, rfl⟩
    obtain ⟨u22, f12⟩ : ∃ u, a.tmps.getD 22 undef = u := ⟨_, rfl⟩
    obtain ⟨u23, f13⟩ : ∃ u, a.tmps.getD 23 undef = u := ⟨_, rfl⟩
    obtain ⟨u24, f14⟩ : ∃ u, a.tmps.getD 24 undef = u := ⟨_, rfl⟩
    obtain ⟨u25, f15⟩ : ∃ u, a.tmps.getD 25 undef = u := ⟨_, rfl⟩
    obtain ⟨u26, f16⟩ : ∃ u, a.tmps.getD 26 undef = u := ⟨_, rfl⟩
    obtain ⟨u27, f17⟩ : ∃ u, a.tmps.getD 27 undef = u := ⟨_, rfl⟩
    obtain ⟨u28, f18⟩ : ∃ u, a.tmps.getD 28 undef = u := ⟨_, rfl⟩
    obtain ⟨u29, f19⟩ : ∃ u, a.tmps.getD 29 undef = u := ⟨_, rfl⟩
    obtain ⟨u30, f20⟩ : ∃ u, a.tmps.getD 30 undef = u := ⟨_, rfl⟩
    obtain ⟨u31, f21⟩ : ∃ u, a.tmps.getD 31 undef = u := ⟨_, rfl⟩
    obtain ⟨u32, f22⟩ : ∃ u, a.tmps.getD 32 undef = u := ⟨_, rfl⟩
    obtain ⟨u33, f23⟩ : ∃ u, a.tmps.getD 33 undef = u := ⟨_, rfl⟩
    obtain ⟨u34, f24⟩ : ∃ u, a.tmps.getD 34 undef = u := ⟨_, rfl⟩
    obtain ⟨u35, f25⟩ : ∃ u, a.tmps.getD 35 undef = u := ⟨_, rfl⟩
    obtain ⟨u36, f26⟩ : ∃ u, a.tmps.getD 36 undef = u := ⟨_, rfl⟩
    obtain ⟨u37, f27⟩ : ∃ u, a.tmps.getD 37 undef = u := ⟨_, rfl⟩
    obtain ⟨u38, f28⟩ : ∃ u, a.tmps.getD 38 undef = u := ⟨_, rfl⟩
    obtain ⟨u39, f29⟩ : ∃ u, a.tmps.getD 39 undef = u := ⟨_, rfl⟩
    obtain ⟨u40, f30⟩ : ∃ u, a.tmps.getD 40 undef = u := ⟨_, rfl⟩
    obtain ⟨u41, f31⟩ : ∃ u, a.tmps.getD 41 undef = u := ⟨_, rfl⟩
    obtain ⟨u42, f32⟩ : ∃ u, a.tmps.getD 42 undef = u := ⟨_, rfl⟩
    have f33 : a.tmps.getD 43 undef = .bool false := he 33 (by decide)
    have hlit := hf.lit ((10, u10) :: (11, u11) :: (12, u12) :: (13, u13) :: (14, u14) :: (15, u15) :: (16, u16) :: (17, u17) :: (18, u18) :: (19, u19) :: (20, u20) :: (21, u21) :: (22, u22) :: (23, u23) :: (24, u24) :: (25, u25) :: (26, u26) :: (27, u27) :: (28, u28) :: (29, u29) :: (30, u30) :: (31, u31) :: (32, u32) :: (33, u33) :: (34, u34) :: (35, u35) :: (36, u36) :: (37, u37) :: (38, u38) :: (39, u39) :: (40, u40) :: (41, u41) :: (42, u42) :: (43, .bool false) :: []) (by kernel_rfl) ⟨f0, f1, f2, f3, f4, f5, f6, f7, f8, f9, f10, f11, f12, f13, f14, f15, f16, f17, f18, f19, f20, f21, f22, f23, f24, f25, f26, f27, f28, f29, f30, f31, f32, f33, trivial⟩
    have hB := hf.bel
    clear he hf f0 f1 f2 f3 f4 f5 f6 f7 f8 f9 f10 f11 f12 f13 f14 f15 f16 f17 f18 f19 f20 f21 f22 f23 f24 f25 f26 f27 f28 f29 f30 f31 f32 f33 
    subst hlit
    simp only [putAll_nil, putAll_cons, Act.put, List.setIfInBounds_toArray, List.set_cons_zero, List.set_cons_succ]
    simp only [List.drop_succ_cons, List.drop_zero]
    obtain ⟨W0, hW0⟩ : ∃ x, w' = x := ⟨_, rfl⟩
    rw [hW0] at hB ⊢
    have HB := Lib.hid hB
    clear hB hW0 hszc
    go_wp2_with fail
    go_loopw [5] (fun v wr => ∃ z : Int, -1 ≤ z ∧ z ≤ (N : Int) + 1 ∧ v = .int .i64 z ∧ Hid (Below w.heap.size w wr)) (fun v _ => ((N : Int) + 1 - intOf v).toNat)
    case atStart => exact ⟨-1, by omega, by omega, rfl, HB⟩
    case round =>
      clear HB
      obtain ⟨z, hz1, hz2, rfl, HB⟩ := hrel
      have hb0 := (HB.out.block _ (heap_lt HB0.out)).trans HB0.out
      have k0 : wr.cell? ⟨q, 0, none⟩ = some (.slice (some ⟨r, 0, none⟩) N c') := by simp [World.cell?, hb0]
      clear hb0
      by_cases hzn : z ≤ (N : Int)
      · have hrl2 := read_len Hok.out z
        have hdl2 := durableAt_len Hok.out z
        obtain ⟨t, ht⟩ : ∃ t, (D.read z).1 = t := ⟨_, rfl⟩
        obtain ⟨u, hu⟩ : ∃ u, D.durableAt z = u := ⟨_, rfl⟩
        obtain ⟨er, her⟩ : ∃ e, (D.read z).2 = e := ⟨_, rfl⟩
        rw [ht] at hrl2
        rw [hu] at hdl2
        have Ht := Lib.hid ht
        have Hu := Lib.hid hu
        have He := Lib.hid her
        have Hrl := Lib.hid hrl2
        have Hsz : Hid ((bytesV t).toArray.size = 16) := Lib.hid (by simp [bytesV, hrl2])
        have q1 := neq_sec t hrl2
        have q2 := neq_sec u hdl2
        clear ht hu her hrl2 hdl2
        go_wp2_with (first
          | (go_at_call 14
             (with_reducible refine (c_dRead (H.out.dk.bel HB.out) z (by omega)).mono ?_)
             rintro e w2 ⟨rfl, hb2⟩
             rw [Ht.out, He.out]
             unfold secV
             have HBa := Lib.hid ((Below.refl w2.heap.size w2).alloc (Nat.le_refl _) (.cells Z16 23))
             have HZ := Lib.hid (heap_alloc_new w2 (.cells Z16 23))
             unfold Z16 at HBa HZ
             have HB := Lib.hid (HB.out.trans (hb2.mono HB.out.size))
             clear hb2 k0)
          | (refine wpL_store_all rfl rfl 23 (.tmp 6) (.tmp 57) rfl _ rfl _ rfl _ _ HZ.out (by rw [Hsz.out]; kernel_rfl) Hsz.out (fun v hv => bytesV_one v (by simpa using hv)) ?_
             intro w4 x4 g4
             have hb4 := HBa.out.grown g4 HBa.out.size (by rintro k ⟨⟩; exact Nat.le_refl _)
             have HB := Lib.hid (HB.out.trans (hb4.mono HB.out.size))
             have Y7 := Lib.hid x4
             clear x4 g4 HBa HZ hb4)
          | (go_at_call 90
             (with_reducible refine (r_Read (H.out.rk.bel HB.out) z).mono ?_)
             rintro e w5 ⟨rfl, hb5⟩
             rw [Ht.out, He.out]
             unfold secV
             have HBa := Lib.hid ((Below.refl w5.heap.size w5).alloc (Nat.le_refl _) (.cells Z16 23))
             have HZ := Lib.hid (heap_alloc_new w5 (.cells Z16 23))
             unfold Z16 at HBa HZ
             have HB := Lib.hid (HB.out.trans (hb5.mono HB.out.size))
             have Y7 := Lib.hid ((hb5.block _ (heap_lt Y7.out)).trans Y7.out)
             clear hb5)
          | (refine wpL_store_all rfl rfl 23 (.tmp 8) (.tmp 63) rfl _ rfl _ rfl _ _ HZ.out (by rw [Hsz.out]; kernel_rfl) Hsz.out (fun v hv => bytesV_one v (by simpa using hv)) ?_
             intro w6 x6 g6
             have hb6 := HBa.out.grown g6 HBa.out.size (by rintro k ⟨⟩; exact Nat.le_refl _)
             have HB := Lib.hid (HB.out.trans (hb6.mono HB.out.size))
             have S7 := Lib.hid ((rd_of_heap (n := 16) ((hb6.block _ (heap_lt Y7.out)).trans Y7.out) (by rw [bytesV_length, Hrl.out]) (by simp [maxLen])).cell _ rfl)
             have S9 := Lib.hid ((rd_of_heap (n := 16) x6 (by rw [bytesV_length, Hrl.out]) (by simp [maxLen])).cell _ rfl)
             clear x6 g6 HBa HZ hb6 Y7)
          | (refine wpL_load_rd rfl 23 (.tmp 6) rfl _ rfl (bytesV t) _ S7.out Try.underlying23 rfl (by rw [bytesV_length, Hrl.out]; kernel_rfl) ?_)
          | (refine wpL_load_rd rfl 23 (.tmp 8) rfl _ rfl (bytesV t) _ S9.out Try.underlying23 rfl (by rw [bytesV_length, Hrl.out]; kernel_rfl) ?_)
          | (go_at_call 24
             (with_reducible refine (c_Durable (H.out.dk.bel HB.out) z).mono ?_)
             rintro e w7 ⟨rfl, hb7⟩
             rw [Hu.out]
             unfold secV
             have HB := Lib.hid (HB.out.trans (hb7.mono HB.out.size))
             clear hb7)
          | (go_at_call 92
             (with_reducible refine (r_Durable (H.out.rk.bel HB.out) z).mono ?_)
             rintro e w8 ⟨rfl, hb8⟩
             rw [Hu.out]
             unfold secV
             have HB := Lib.hid (HB.out.trans (hb8.mono HB.out.size))
             clear hb8))
        go_roundw
        case rel => exact ⟨z + 1, by omega, by omega, rfl, HB⟩
        case measure => simp [intOf] <;> omega
      · go_wp2_with fail
        go_ret
        exact ⟨rfl, HB.out⟩
end
end Go.Proofs.Ytplemdgihlabgaa.Disk
