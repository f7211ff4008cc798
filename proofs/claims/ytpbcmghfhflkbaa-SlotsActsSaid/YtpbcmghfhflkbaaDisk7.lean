/- Contracts of the package disk: Cached. Conditions: none. -/
import Derived.Test.YtpbcmghfhflkbaaDisk6
import Derived.Test.YtpbcmghfhflkbaaDskCrash2
import Derived.Test.YtpbcmghfhflkbaaShelf
import Derived.Shelf.AbstractIn
import Derived.TacticsInMore
set_option linter.unusedVariables false
set_option linter.unusedSimpArgs false
namespace Go.Proofs.Ytpbcmghfhflkbaa.Disk
open Go.RowKit Tw Go.Maps Go.ChangeMaps Go.Sort Go.Shelf
set_option maxHeartbeats 4000000
set_option maxRecDepth 100000

theorem sortsA (m : Nat) : AnyZI.SortsIn Try.prog Shf.sortedA_ren Fence.wide m :=
  ⟨fun blk off cap ss W hH hblk hsz => callsIn_wide.2 (AnyM.slices_Sort_int Shf.sortA blk off cap ss W hH hblk hsz),
   fun p cap W => callsIn_wide.2 (AnyM.slices_Sort_int_none Shf.sortA p cap W)⟩
theorem keys_perm {w : World} {mb m : Nat} {D : DataW Value} {d : Dsk} (hown : w.ownsMap Try.prog 3 R mb m D) (hi : MapIs D d) : d.cachedZ.Perm (intKeys D) := by
  obtain ⟨es, hD, hpw, _⟩ := hown.entries law
  obtain ⟨es', hD', hko⟩ := hown.keysOf
  obtain rfl : es = es' := by rw [hD] at hD'; simpa using hD'
  subst hD
  refine perm_intKeys hpw (fun p hp => by obtain ⟨v, hv⟩ := hko p hp; obtain ⟨x, _, hx, _⟩ := Maps.keyOf_i64 Try.underlying3 hv; exact ⟨x, hx⟩) (cachedZ_nodup d) (fun x => ?_)
  rw [cachedZ_mem]
  have := (hi x).1
  rw [← this]
  rfl
theorem sorted_of {d : Dsk} {D : DataW Value} {ss : List Int} (h : d.cachedZ.Perm (intKeys D)) (hs : ss.Perm (intKeys D)) : ss.mergeSort (fun x y => decide (x ≤ y)) = d.cachedZ := by
  have tr : ∀ a b c : Int, leI a b = true → leI b c = true → leI a c = true := fun a b c h1 h2 => by simp only [leI, decide_eq_true_eq] at *; omega
  have tot : ∀ a b : Int, (leI a b || leI b a) = true := fun a b => by simp only [leI, Bool.or_eq_true, decide_eq_true_eq]; omega
  refine List.Perm.eq_of_pairwise (le := fun a b => leI a b = true) (fun a b _ _ h1 h2 => ?_) (List.pairwise_mergeSort tr tot ss) ((cachedZ_sorted d).imp (fun {a b} h => by simp only [leI, decide_eq_true_eq]; omega)) (((List.mergeSort_perm ss leI).trans hs).trans h.symm)
  simp only [leI, decide_eq_true_eq] at h1 h2
  omega
theorem cached_size {w : World} {mb m : Nat} {D : DataW Value} {d : Dsk} (hown : w.ownsMap Try.prog 3 R mb m D) (hi : MapIs D d) : Maps.size D = d.cached.length := by
  have h := (keys_perm hown hi).length_eq
  obtain ⟨es, rfl, _⟩ := hown.keysOf
  rw [cachedZ_len] at h
  rw [h]
  simp [Maps.size, intKeys]
/-- slices.Sorted over what maps.Keys handed back; w: the world ahead of maps.Keys -/
theorem c_Sorted (b nn : Nat) (D0 : DataW Value) (w : World) (hown : w.ownsMap Try.prog 3 R b nn D0) (hmax : Maps.size D0 ≤ maxLen) (hbytes : Maps.size D0 * 8 ≤ 140737488355328) :
    CallsIn Fence.wide 5 Try.prog 170 #[.func (.func 223) #[] #[.pointer (some ⟨w.heap.size, 0, none⟩)]] (w.alloc (.cells #[.map (some b)] 176)) fun e w' => ∃ (v : Value) (ss : List Int), e = .returned v ∧ ss.Perm (intKeys D0) ∧
      w'.ownsRow (w.alloc (.cells #[.map (some b)] 176)).heap.size 3 1 v ss.length ((ss.mergeSort (fun x y => decide (x ≤ y))).map encZ) ∧ (v = .slice none 0 0 ↔ ss = []) ∧ Below (w.alloc (.cells #[.map (some b)] 176)).heap.size (w.alloc (.cells #[.map (some b)] 176)) w' := by
  have hbl := hown.lt
  have hseq : SeqGives Fence.wide 2 Try.prog 223 #[.pointer (some ⟨w.heap.size, 0, none⟩)] encZ (fun ss => ss.Perm (intKeys D0)) (Maps.size D0) (w.alloc (.cells #[.map (some b)] 176)) :=
    AnyZI.keys_gives (ρ := Shf.keysA_ren) { Shf.keysA with } Fence.wide _ trivial rfl (by omega) w.heap.size b nn D0 _ (by simp) (by simp) (by
      obtain ⟨es, clock, hb, Ft, hs, hD⟩ := hown
      exact ⟨es, clock, (Below.heap_alloc _ _ b hbl).trans hb, Ft, hs, hD⟩)
  exact AnyZI.sorted_in Shf.sortedA Fence.wide 5 trivial trivial trivial trivial rfl (by omega) (sortsA _) (enters_of Try.func134 (by kernel_rfl) rfl) 223 #[.pointer (some ⟨w.heap.size, 0, none⟩)] trivial (enters_of Try.func223 (by kernel_rfl) rfl) _ _ hmax hbytes _ hseq
section
variable {w : World} {p g mb c : Nat} {d : Dsk}
theorem c_Cached (h : Dk w p g mb c d) : Calls Try.prog 100 #[.pointer (some ⟨p, 0, none⟩)] w fun e w' => ∃ A c2, e = .returned (.slice A d.cached.length c2) ∧ Tw.Own w' w.heap.size 3 1 A d.cached.length c2 (d.cachedZ.map encZ) ∧ Below w.heap.size w w' := by
  obtain ⟨k0, k1, k2, k3, k4⟩ := h.cells
  obtain ⟨D, m, hm, hle, hi⟩ := h.map
  have hn := h.ok.n
  have hcl := cached_len d
  have hsz := cached_size hm hi
  have cK : ∀ mb W, CallsIn Fence.wide 5 Try.prog 171 #[.map mb] W fun e w' => e = .returned (.func (.func 223) #[] #[.pointer (some ⟨W.heap.size, 0, none⟩)]) ∧ w' = W.alloc (.cells #[.map mb] 176) := fun mb W => AnyZI.keys_in Shf.keysA Fence.wide 5 trivial rfl mb W
  have cS := c_Sorted mb m D w hm (by rw [hsz]; simp [maxLen]; omega) (by rw [hsz]; omega)
  have HP := Lib.hid (keys_perm hm hi)
  have H := Lib.hid h
  have CK := Lib.hid cK
  have CS := Lib.hid cS
  clear h hm hi hsz hle hcl hn cK cS
  have hfM : Fence.wide.fn 90 := trivial
  have hfK : Fence.wide.fn 171 := trivial
  have hfS : Fence.wide.fn 170 := trivial
  refine (callsIn_wide (n := 6)).1 ?_
  refine callsIn_of_wp Try.func100 rfl trivial ?_ rfl
  simp only [Try.ntmps100, List.size_toArray, List.length_cons, List.length_nil, Nat.reduceAdd, Nat.reduceSub, Array.replicate_succ, Array.replicate_zero, List.push_toArray, List.append_toArray, List.nil_append, List.cons_append]
  gi_wp2_with (first
    | (gi_at_call 90; refine (callsIn_wide.2 (c_Made H.out)).mono ?_; rintro e w' ⟨rfl, rfl⟩)
    | (gi_at_call 171; refine (CK.out _ _).mono ?_; rintro e w' ⟨rfl, rfl⟩)
    | (gi_at_call 170; refine CS.out.mono ?_; rintro e w' ⟨v, ss, rfl, hS, hrow, hnil, hb⟩))
  go_ret
  have hs := sorted_of HP.out hS
  have hl : ss.length = d.cached.length := by rw [← cachedZ_len, HP.out.length_eq, hS.length_eq]
  rw [hs, hl] at hrow
  have hb2 : Below w.heap.size w w' := ((Below.refl _ w).alloc (Nat.le_refl _) _).trans (hb.mono (by simp))
  rcases hrow.2 with ⟨rfl, h0⟩ | ⟨gb, cap, cur, rfl, _⟩
  · rw [h0] at hrow ⊢
    exact ⟨none, 0, rfl, Tw.Own.mono hrow (by simp), hb2⟩
  · exact ⟨_, _, rfl, Tw.Own.mono hrow (by simp), hb2⟩
end
end Go.Proofs.Ytpbcmghfhflkbaa.Disk
