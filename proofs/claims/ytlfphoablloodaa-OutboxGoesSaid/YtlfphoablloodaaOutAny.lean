/- The contracts of Acked and Body, whatever the number. Conditions: at most 2^20 bodies. -/
import Derived.Test.YtlfphoablloodaaOutNone
namespace Go.Proofs.Ytlfphoablloodaa.Outbox
open Go.RowKit Tw
set_option maxHeartbeats 400000

/-- how many an ack takes -/
def ackG (win first : Int) (len : Nat) (n : Int) : Nat := if first ≤ n ∧ n ≤ first + min (len : Int) win - 1 then (n - first + 1).toNat else 0
/-- the numbers that it frees -/
def ackOut (win first : Int) (len : Nat) (n : Int) : List Int :=
  if first ≤ n ∧ n ≤ first + min (len : Int) win - 1 then from_ (first + min (len : Int) win) (max (min ((len : Int) - (n - first + 1)) win - (min (len : Int) win - (n - first + 1))) 0).toNat else []
/-- what a number stands for -/
def lookB (first : Int) (bs : List (List UInt8)) (n : Int) : Option (List UInt8) := if first ≤ n then bs[(n - first).toNat]? else none

section
variable {w : World} {B : Nat} {F : Nat → Prop} {p : Nat} {win first : Int} {bs : List (List UInt8)}
theorem c_Acked_any (ho : OutR w B F p win first bs) (hb : bs.length ≤ 1048576) (hw : 0 < win) (hw2 : win ≤ 64) (hf0 : 1 ≤ first) (hf1 : first ≤ 1099511627776) (n : Int) :
    Calls Try.prog 47 #[.pointer (some ⟨p, 0, none⟩), .int .i64 n] w fun e w' => ∃ A2 c2, e = .returned (.slice A2 (ackOut win first bs.length n).length c2) ∧ Rd w' 1 A2 (ackOut win first bs.length n).length c2 (intsV (ackOut win first bs.length n)) ∧
      OutR w' B F p win (first + (ackG win first bs.length n : Nat)) (bs.drop (ackG win first bs.length n)) ∧ Fr F w w' ∧ ∀ ad, A2 = some ad → w.heap.size ≤ ad.block := by
  by_cases h : first ≤ n ∧ n ≤ first + min (bs.length : Int) win - 1
  · unfold ackOut ackG
    rw [if_pos h, if_pos h]
    have e1 : ((n - first + 1).toNat : Int) = n - first + 1 := by omega
    rw [from_length, ← e1]
    refine (c_Acked ho hb hw hw2 hf0 hf1 (n - first + 1).toNat n (by omega) (by omega) (by omega) _ ?_)
    omega
  · unfold ackOut ackG
    rw [if_neg h, if_neg h]
    refine (c_Acked_no ho hb hw hw2 hf0 hf1 n (by omega)).mono ?_
    rintro e w' ⟨rfl, hB⟩
    exact ⟨none, 0, rfl, Rd.nil_, by simpa using ho.bel hB, Fr.of_bel hB, fun ad e => by cases e⟩

theorem c_rAcked_any (ho : RefR w B F p win first bs) (hBw : B ≤ w.heap.size) (hb : bs.length ≤ 1048576) (hw : 0 < win) (hw2 : win ≤ 64) (hf0 : 1 ≤ first) (hf1 : first ≤ 1099511627776) (n : Int) :
    Calls Try.prog 52 #[.pointer (some ⟨p, 0, none⟩), .int .i64 n] w fun e w' => ∃ A2 c2, e = .returned (.slice A2 (ackOut win first bs.length n).length c2) ∧ Rd w' 1 A2 (ackOut win first bs.length n).length c2 (intsV (ackOut win first bs.length n)) ∧
      (∀ ad, A2 = some ad → w.heap.size ≤ ad.block) ∧ ∃ F', RefR w' B F' p win (first + (ackG win first bs.length n : Nat)) (bs.drop (ackG win first bs.length n)) ∧ Fr F w w' ∧ ∀ k, F' k → F k ∨ w.heap.size ≤ k := by
  by_cases h : first ≤ n ∧ n ≤ first + min (bs.length : Int) win - 1
  · unfold ackOut ackG
    rw [if_pos h, if_pos h]
    have e1 : ((n - first + 1).toNat : Int) = n - first + 1 := by omega
    rw [from_length, ← e1]
    refine (c_rAcked ho hBw hb hw hw2 hf0 hf1 (n - first + 1).toNat n (by omega) (by omega) (by omega) _ ?_)
    omega
  · unfold ackOut ackG
    rw [if_neg h, if_neg h]
    refine (c_rAcked_no ho hb hw hw2 hf0 hf1 n (by omega)).mono ?_
    rintro e w' ⟨rfl, hB⟩
    exact ⟨none, 0, rfl, Rd.nil_, (fun ad e => by cases e), F, by simpa using ho.bel hB, Fr.of_bel hB, fun k h => .inl h⟩

theorem c_Body_any (ho : OutR w B F p win first bs) (hw : 0 < win) (hb : bs.length ≤ 1048576) (hf0 : 1 ≤ first) (hf1 : first ≤ 2199023255552) (hbl : ∀ b ∈ bs, b.length ≤ 140737488351232) (n : Int) :
    Calls Try.prog 54 #[.pointer (some ⟨p, 0, none⟩), .int .i64 n] w fun e w' => ∃ A2 n2 c2, e = .returned (.tuple #[.slice A2 n2 c2, .bool (lookB first bs n).isSome]) ∧ Byt w' A2 n2 c2 ((lookB first bs n).getD []) ∧ Below w.heap.size w w' := by
  by_cases h : first ≤ n ∧ n ≤ first + bs.length - 1
  · have hi : (n - first).toNat < bs.length := by omega
    have hl : lookB first bs n = some (bs[(n - first).toNat]) := by
      unfold lookB
      rw [if_pos h.1, List.getElem?_eq_getElem hi]
    rw [hl]
    refine (c_Body ho hw hb hf0 hf1 n (n - first).toNat (bs[(n - first).toNat]) (by omega) (List.getElem?_eq_getElem hi) (hbl _ (List.getElem_mem _))).mono ?_
    rintro e w' ⟨A2, c2, rfl, hown, hB⟩
    exact ⟨A2, _, c2, rfl, hown.rd, hB⟩
  · have hl : lookB first bs n = none := by
      unfold lookB
      split
      · exact List.getElem?_eq_none (by omega)
      · rfl
    rw [hl]
    refine (c_Body_no ho hw hb hf0 hf1 n (by omega)).mono ?_
    rintro e w' ⟨rfl, m, rfl⟩
    exact ⟨none, 0, 0, rfl, Rd.nil_, ⟨rfl, rfl, rfl, Nat.le_refl _, fun _ _ => rfl⟩⟩

theorem c_rBody_any (ho : RefR w B F p win first bs) (hb : bs.length ≤ 1048576) (hf0 : 1 ≤ first) (hf1 : first ≤ 2199023255552) (hbl : ∀ b ∈ bs, b.length ≤ 140737488351232) (n : Int) :
    Calls Try.prog 55 #[.pointer (some ⟨p, 0, none⟩), .int .i64 n] w fun e w' => ∃ A2 n2 c2, e = .returned (.tuple #[.slice A2 n2 c2, .bool (lookB first bs n).isSome]) ∧ Byt w' A2 n2 c2 ((lookB first bs n).getD []) ∧ Below w.heap.size w w' := by
  by_cases h : first ≤ n ∧ n ≤ first + bs.length - 1
  · have hi : (n - first).toNat < bs.length := by omega
    have hl : lookB first bs n = some (bs[(n - first).toNat]) := by
      unfold lookB
      rw [if_pos h.1, List.getElem?_eq_getElem hi]
    rw [hl]
    refine (c_rBody ho hb hf0 hf1 n (n - first).toNat (bs[(n - first).toNat]) (by omega) (List.getElem?_eq_getElem hi) (hbl _ (List.getElem_mem _))).mono ?_
    rintro e w' ⟨A2, c2, rfl, hown, hB⟩
    exact ⟨A2, _, c2, rfl, hown.rd, hB⟩
  · have hl : lookB first bs n = none := by
      unfold lookB
      split
      · exact List.getElem?_eq_none (by omega)
      · rfl
    rw [hl]
    refine (c_rBody_no ho hb hf0 hf1 n (by omega)).mono ?_
    rintro e w' ⟨rfl, rfl⟩
    exact ⟨none, 0, 0, rfl, Rd.nil_, Below.refl _ _⟩
end
end Go.Proofs.Ytlfphoablloodaa.Outbox
