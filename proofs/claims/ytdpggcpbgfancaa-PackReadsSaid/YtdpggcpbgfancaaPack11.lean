/- Contracts of the package pack and its reference: Same; the laws' example; PackForms, PackSame. Conditions: none. -/
import Derived.Test.YtdpggcpbgfancaaPackLaw
set_option linter.unusedVariables false
set_option linter.unusedSimpArgs false
namespace Go.Proofs.Ytdpggcpbgfancaa.Pack
open Go.RowKit Tw
set_option maxHeartbeats 8000000
set_option maxRecDepth 100000
def SameP (p q : Ms) : Prop := p.k = q.k ∧ p.i = q.i ∧ p.o = q.o ∧ p.m = q.m ∧ p.w = q.w ∧ p.d = q.d
instance (p q : Ms) : Decidable (SameP p q) := by unfold SameP; infer_instance
theorem sameP_iff {p q : Ms} : SameP p q ↔ p = q := by
  obtain ⟨a, b, c, d, e, f⟩ := p
  obtain ⟨a', b', c', d', e', f'⟩ := q
  simp [SameP]
theorem c_Same (p q : Ms) (A A' : Option Addr) (n c n' c' : Nat) (w : World) (h1 : Byt w A n c p.d) (h2 : Byt w A' n' c' q.d) :
    Calls Try.prog 39 #[msV p A n c, msV q A' n' c'] w fun e w' => e = .returned (.bool (decide (SameP p q))) ∧ Below w.heap.size w w' := by
  obtain ⟨pk, pi, po, pm, pw, pd⟩ := p
  obtain ⟨qk, qi, qo, qm, qw, qd⟩ := q
  unfold SameP
  simp only [msV] at *
  obtain ⟨P, hP⟩ : ∃ P : Int, (pm : Int) = P := ⟨_, rfl⟩
  obtain ⟨Q, hQ⟩ : ∃ Q : Int, (qm : Int) = Q := ⟨_, rfl⟩
  have hpq : Hid (pm = qm ↔ P = Q) := Lib.hid (by rw [← hP, ← hQ]; omega)
  rw [hP, hQ]
  clear hP hQ
  obtain ⟨W2, hW2, x1, x2, hB⟩ := Bx.two_boxes w (.cells #[.int .i64 pk, .int .i64 pi, .int .i64 po, .int .u64 P, .bool pw, .slice A n c] 42) (.cells #[.int .i64 qk, .int .i64 qi, .int .i64 qo, .int .u64 Q, .bool qw, .slice A' n' c'] 42)
  have HB := Lib.hid hB
  have he := Bx.c_bEqual A A' n c n' c' pd qd W2 (h1.bel hB) (h2.bel hB)
  have s1 := run_str (P := Try.prog) W2 23 9 5 A n c pd Try.underlying23 Try.underlying5 Try.underlying9 (h1.bel hB)
  have s2 := run_str (P := Try.prog) W2 23 9 5 A' n' c' qd Try.underlying23 Try.underlying5 Try.underlying9 (h2.bel hB)
  obtain ⟨k0, k1, k2, k3, k4, k5⟩ := Bx.cells6 x1
  obtain ⟨l0, l1, l2, l3, l4, l5⟩ := Bx.cells6 x2
  clear x1 x2 hB h1 h2
  go_enter Try.func39, Try.ntmps39
  go_upto_region 1 with (fail)
  rw [← hW2]
  clear hW2
  go_wp2_with (first
    | (go_at_call 99
       (with_reducible refine he.mono ?_)
       rintro e w1 ⟨rfl, rfl⟩
       clear he)
    | fail)
  all_goals
    go_ret
    refine ⟨Span.ret_bool rfl ?_, HB.out⟩
    clear k0 k1 k2 k3 k4 k5 l0 l1 l2 l3 l4 l5 s1 s2 HB
    have hq := hpq.out
    rw [Bool.eq_iff_iff]
    (try simp only [beq_iff_eq, bne_iff_ne, beq_eq_false_iff_ne, bne_eq_false_iff_eq, Bool.not_eq_true, Bool.not_eq_false, decide_eq_true_eq, decide_eq_false_iff_not] at *)
    simp_all
theorem c_rSame (p q : Ms) (A A' : Option Addr) (n c n' c' : Nat) (w : World) (h1 : Byt w A n c p.d) (h2 : Byt w A' n' c' q.d) :
    Calls Try.prog 37 #[msV p A n c, msV q A' n' c'] w fun e w' => e = .returned (.bool (decide (SameP p q))) ∧ Below w.heap.size w w' := by
  obtain ⟨pk, pi, po, pm, pw, pd⟩ := p
  obtain ⟨qk, qi, qo, qm, qw, qd⟩ := q
  unfold SameP
  simp only [msV] at *
  obtain ⟨P, hP⟩ : ∃ P : Int, (pm : Int) = P := ⟨_, rfl⟩
  obtain ⟨Q, hQ⟩ : ∃ Q : Int, (qm : Int) = Q := ⟨_, rfl⟩
  have hpq : Hid (pm = qm ↔ P = Q) := Lib.hid (by rw [← hP, ← hQ]; omega)
  rw [hP, hQ]
  clear hP hQ
  obtain ⟨W2, hW2, x1, x2, hB⟩ := Bx.two_boxes w (.cells #[.int .i64 pk, .int .i64 pi, .int .i64 po, .int .u64 P, .bool pw, .slice A n c] 42) (.cells #[.int .i64 qk, .int .i64 qi, .int .i64 qo, .int .u64 Q, .bool qw, .slice A' n' c'] 42)
  have HB := Lib.hid hB
  have he := Bx.c_bEqual A A' n c n' c' pd qd W2 (h1.bel hB) (h2.bel hB)
  have s1 := run_str (P := Try.prog) W2 23 9 5 A n c pd Try.underlying23 Try.underlying5 Try.underlying9 (h1.bel hB)
  have s2 := run_str (P := Try.prog) W2 23 9 5 A' n' c' qd Try.underlying23 Try.underlying5 Try.underlying9 (h2.bel hB)
  obtain ⟨k0, k1, k2, k3, k4, k5⟩ := Bx.cells6 x1
  obtain ⟨l0, l1, l2, l3, l4, l5⟩ := Bx.cells6 x2
  clear x1 x2 hB h1 h2
  go_enter Try.func37, Try.ntmps37
  go_upto_region 1 with (fail)
  rw [← hW2]
  clear hW2
  go_wp2_with (first
    | (go_at_call 99
       (with_reducible refine he.mono ?_)
       rintro e w1 ⟨rfl, rfl⟩
       clear he)
    | fail)
  all_goals
    go_ret
    refine ⟨Span.ret_bool rfl ?_, HB.out⟩
    clear k0 k1 k2 k3 k4 k5 l0 l1 l2 l3 l4 l5 s1 s2 HB
    have hq := hpq.out
    rw [Bool.eq_iff_iff]
    (try simp only [beq_iff_eq, bne_iff_ne, beq_eq_false_iff_ne, bne_eq_false_iff_eq, Bool.not_eq_true, Bool.not_eq_false, decide_eq_true_eq, decide_eq_false_iff_not] at *)
    simp_all
end Go.Proofs.Ytdpggcpbgfancaa.Pack
