/- Contracts of the reads of pieces, and of requests compared. Conditions: at most some dozens of pieces. -/
import Derived.Test.YtdpggcpbgfancaaVolCut
import Derived.Test.YtdpggcpbgfancaaCopy
import Derived.Test.YtdpggcpbgfancaaRegion
set_option linter.unusedVariables false
set_option linter.unusedSimpArgs false
namespace Go.Proofs.Ytdpggcpbgfancaa.Vol
open Go.RowKit Tw
set_option maxHeartbeats 2000000
set_option maxRecDepth 100000

theorem info_rq : (Try.prog.info? 86).map (fun i => (i.zero, i.size, i.bytes)) = some (some (.agg #[.int .i64 0, .int .i64 0, .int .i64 0, .slice none 0 0]), 4, 48) := by kernel_rfl
/-- a read of a piece -/
def rqV (p : Pc) : List Value := [.int .i64 0, .int .i64 (p.1 : Int), .int .i64 (p.2.1 : Int), .slice none 0 0]
def rqsV (l : List Pc) : List Value := l.flatMap rqV
theorem rqsV_snoc (l : List Pc) (p : Pc) : rqsV l ++ rqV p = rqsV (l ++ [p]) := by simp [rqsV]
theorem pcsV_get {l : List Pc} {k j : Nat} {p : Pc} {v : Value} (hp : l[k]? = some p) (hv : (pcV p)[j]? = some v) : (pcsV l)[k * 4 + j]? = some v := by
  induction l generalizing k with
  | nil => simp at hp
  | cons q l ih =>
    have hj : j < 4 := by have := (List.getElem?_eq_some_iff.1 hv).1; simpa [pcV] using this
    cases k with
    | zero =>
      simp at hp
      subst hp
      rw [pcsV, List.flatMap_cons, List.getElem?_append_left (by simp [pcV]; omega)]
      simpa using hv
    | succ k =>
      simp at hp
      rw [pcsV, List.flatMap_cons, List.getElem?_append_right (by simp [pcV]; omega)]
      have := ih hp
      rw [pcsV] at this
      rw [show (k + 1) * 4 + j - (pcV q).length = k * 4 + j from by simp [pcV]; omega]
      exact this
theorem take_next {α : Type} {l : List α} {k : Nat} {z : α} (h : l[k]? = some z) : l.take (k + 1) = l.take k ++ [z] := by
  obtain ⟨hl, rfl⟩ := List.getElem?_eq_some_iff.1 h
  rw [List.take_succ_eq_append_getElem hl]
theorem wpL_load_rd {P : Program} {ops : Array Oper} {rest : List Oper} {w : World} {o : Oper} {a : Act} {Q : Exit → Act → World → Prop} (hgd : o.guard = none) (ty : TypeId) (x : Operand) (ho : o.op = .load ty x)
    (ad : Addr) (hx : a.eval x = .pointer (some ad)) (cs : List Value) (d : TypeDesc) (hc : ∀ j v, cs[j]? = some v → w.cell? (ad.add j) = some v)
    (hu : P.underlying ty = some d) (hd : d.isRow = true) (hi : (P.info? ty).map (·.size) = some cs.length) (h : wpList P ops Q rest (a.put o.dst (.agg cs.toArray)) w) : wpList P ops Q (o :: rest) a w :=
  wpList_plain hgd fun _ hK => wp_load_rd ty x ho ad hx cs d hc hu hd hi (hK _ _ h)

theorem rd_lit2 (w : World) (o1 : Obj) (e : TypeId) (size : Nat) (cs : Array Value) (n : Nat) (hm : n ≤ maxLen) (hs : cs.size = n * size) : Rd ((w.alloc o1).alloc (.cells cs e)) size (some ⟨w.heap.size + 1, 0, none⟩) n n cs.toList := by
  have h := (own_lit (w.alloc o1) (w.alloc o1).heap.size e size cs n (Nat.le_refl _) hm hs).rd
  rwa [World.size_alloc] at h
theorem c_Reads (A : Option Addr) (n c : Nat) (l : List Pc) (w : World) (h : Rd w 4 A n c (pcsV l)) (hn : n ≤ 64) :
    Calls Try.prog 120 #[.slice A n c] w fun e w' => ∃ A2 c2, e = .returned (.slice A2 n c2) ∧ Tw.Own w' w.heap.size 86 4 A2 n c2 (rqsV l) ∧ Below w.heap.size w w' := by
  have hl : l.length = n := by have := h.len; rw [pcsV_length] at this; omega
  have Hh := Lib.hid h
  clear h
  go_enter Try.func120, Try.ntmps120
  go_wp2_with fail
  go_loopw [3, 8] (fun v i wr => ∃ (k : Nat) (A2 : Option Addr) (c2 : Nat), k ≤ n ∧ i = .int .i64 (k : Int) ∧ v = .slice A2 k c2 ∧ Hid (Tw.Own wr w.heap.size 86 4 A2 k c2 (rqsV (l.take k))) ∧ Below w.heap.size w wr) (fun _ i _ => n - (intOf i).toNat)
  case atStart => exact ⟨0, none, 0, Nat.zero_le _, rfl, rfl, Lib.hid (World.ownsRow_nil _ _ _ _), Below.refl _ _⟩
  case round =>
    obtain ⟨k, A2, c2, hk, rfl, rfl, hown, hB⟩ := hrel
    by_cases hkn : k < n
    · obtain ⟨⟨x1, x2, x3, x4⟩, hp⟩ : ∃ p, l[k]? = some p := ⟨_, List.getElem?_eq_getElem (by omega)⟩
      have hle := Hh.out.le
      obtain ⟨ad, rfl⟩ : ∃ ad, A = some ad := by
        cases A with
        | none => have := Hh.out.nil rfl; omega
        | some ad => exact ⟨ad, rfl⟩
      have hcs : ∀ j v, (pcV (x1, x2, x3, x4))[j]? = some v → wr.cell? ((ad.add (k * 4)).add j) = some v := fun j v hv => by
        rw [add_add]
        exact (Hh.out.below hB (Nat.le_refl _)).cell ad rfl _ _ (pcsV_get hp hv)
      have Hcs := Lib.hid hcs
      have Htk := Lib.hid (take_next hp)
      clear hcs hp
      go_wp2_with (first
        | (refine wpL_load_rd rfl 158 (.tmp 10) rfl (ad.add (k * 4)) rfl (pcV (x1, x2, x3, x4)) _ Hcs.out Try.underlying158 rfl (by kernel_rfl) ?_
           simp only [pcV])
        | (at_builtin
           go_loud (refine wpL_append _ rfl (.tmp 12) (.tmp 16) _ rfl w w.heap.size (bel_alloc (bel_alloc hB hB.size _) (size_alloc_le hB.size _) _) (size_alloc_le (size_alloc_le hB.size _) _) 86 _ 4 48 Try.underlying82 info_rq rfl (by omega) _ _ _ _ rfl (Tw.Own.bel (Tw.Own.bel hown.out ((Below.refl _ _).alloc (Nat.le_refl _) _)) ((Below.refl _ _).alloc (Nat.le_refl _) _)) _ _ _ _ rfl (rd_lit2 _ _ 86 4 #[.int .i64 0, .int .i64 (x1 : Int), .int .i64 (x2 : Int), .slice none 0 0] 1 (by simp [maxLen]) (by simp)) (by simp [Value.oneCell']) (k + 1) (rqsV (l.take (k + 1))) rfl (by rw [Htk.out, ← rqsV_snoc]; rfl) (by unfold maxLen; omega) (by omega) ?_)
           intro A3 c3 w5 hown5 hb5 hg5 ho5
           clear hg5 ho5))
      go_roundw
      case rel => exact ⟨k + 1, A3, c3, by omega, by go_num, rfl, Lib.hid hown5, hb5⟩
      case measure => simp [intOf] <;> omega
    · obtain rfl : k = n := by omega
      have htk : l.take k = l := List.take_of_length_le (by omega)
      rw [htk] at hown
      go_wp2_with fail
      go_ret
      exact ⟨A2, c2, rfl, hown.out, hB⟩
end Go.Proofs.Ytdpggcpbgfancaa.Vol
