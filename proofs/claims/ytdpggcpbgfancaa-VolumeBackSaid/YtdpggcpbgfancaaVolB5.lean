/- The plan of what VolumeBack does, plainly: also of no bytes at all. Conditions: none. -/
import Derived.Test.YtdpggcpbgfancaaVolB4
set_option linter.unusedVariables false
set_option linter.unusedSimpArgs false
namespace Go.Proofs.Ytdpggcpbgfancaa.Vol
open Go.RowKit Tw Disk
open Go.Proofs.Ytdpggcpbgfancaa.Data (area Fine dRead dWrite)
structure Plan (l : List Pc) (o : Nat) (b : List UInt8) (m : Nat → Nat) : Prop where
  small : l.length ≤ 5
  le : o + b.length ≤ 512
  m0 : m 0 = 0
  mN : m l.length = b.length
  reads : ∀ d, Fine d → d.cells.length = 40 → ∀ q ∈ l, (dRead d (q.1 : Int) (q.2.1 : Int)).2 = 0 ∧ (dRead d (q.1 : Int) (q.2.1 : Int)).1.length ≤ 128
  fits : ∀ d, Fine d → d.cells.length = 40 → Fits (l.map toPi) (told d l)
  ats : ato (l.map toPi) l.length = b.length
  next : ∀ d0 d k, Fine d0 → d0.cells.length = 40 → Fine d → d.cells.length = 40 → d.ops + 1024 < 1000000000 → k < l.length → area d = pat (area d0) b o (m k) →
    ∃ x y data, wrq (l.map toPi) (told d0 l) b k = (1, x, y, data) ∧ 1 ≤ y ∧ y ≤ 8 ∧ x + y ≤ 32 ∧ data.length = 16 * y ∧ (dWrite d (x : Int) (y : Int) data).2 = 0 ∧ Fine (dWrite d (x : Int) (y : Int) data).1 ∧ (dWrite d (x : Int) (y : Int) data).1.cells.length = 40 ∧
      (dWrite d (x : Int) (y : Int) data).1.ops ≤ d.ops + 1024 ∧ area (dWrite d (x : Int) (y : Int) data).1 = pat (area d0) b o (m (k + 1))
  gath : ∀ d0 d, Fine d0 → d0.cells.length = 40 → Fine d → d.cells.length = 40 → area d = pat (area d0) b o b.length → gat (l.map toPi) (told d l) = b
theorem plan_nil (o : Nat) (h : o ≤ 512) : Plan [] o [] (fun _ => 0) :=
  ⟨by simp, by simpa using h, rfl, rfl, fun d _ _ q hq => by simp at hq, fun d _ _ => ⟨rfl, fun i p t hp => by simp at hp⟩, rfl, fun d0 d k _ _ _ _ _ hk => by simp at hk, fun d0 d _ _ _ _ _ => rfl⟩
theorem plan_pcs (o : Nat) (b : List UInt8) (hb : 0 < b.length) (h : o + b.length ≤ 512) : Plan (pcs o (o + b.length)) o b (fun k => min (place o k) (o + b.length) - o) := by
  have ho : o < o + b.length := by omega
  have hA : ∀ d, Fine d → d.cells.length = 40 → (area d).length = 512 := fun d h1 h2 => by rw [Data.area_len h1.ok, h2]
  have hall := place_all ho
  refine ⟨?_, h, ?_, ?_, ?_, ?_, ?_, ?_, ?_⟩
  · rw [pcs_length]
    unfold num
    omega
  · have := place_zero (o := o)
    omega
  · rw [pcs_length]
    omega
  · exact fun d h1 h2 => read_ok h1 h2 h
  · exact fun d h1 h2 => fits_pcs h1 h2 (hA d h1 h2) h (by omega)
  · rw [pcs_length, ato_pcs ho _ (Nat.le_refl _)]
    omega
  · intro d0 d k h1 h2 h3 h4 h5 h6 h7
    rw [pcs_length] at h6
    exact write_next h1 h2 h3 h4 h5 rfl h ho h6 h7
  · intro d0 d h1 h2 h3 h4 h5
    exact gat_end (A := area d0) h3 h4 (hA d0 h1 h2) rfl h ho (by rw [h5]; congr 1; omega)
theorem cut_plan (o : Nat) (b : List UInt8) (h : o + b.length ≤ 512) : ∃ l m, cut 32 (o : Int) (b.length : Int) = (l, 0) ∧ Plan l o b m := by
  unfold cut
  rw [if_neg (by omega), if_neg (by omega)]
  by_cases h0 : b.length = 0
  · rw [if_pos (by omega)]
    obtain rfl := List.eq_nil_of_length_eq_zero h0
    exact ⟨_, _, rfl, plan_nil o (by omega)⟩
  · rw [if_neg (by omega)]
    have e1 : ((o : Int) + (b.length : Int)).toNat = o + b.length := by omega
    rw [Int.toNat_natCast, e1]
    exact ⟨_, _, rfl, plan_pcs o b (by omega) h⟩
/-- the three parts of the patched bytes -/
theorem pat_parts {A b : List UInt8} {o : Nat} (h : o + b.length ≤ A.length) : (pat A b o b.length).take o = A.take o ∧ (pat A b o b.length).drop (o + b.length) = A.drop (o + b.length) ∧ ((pat A b o b.length).take (o + b.length)).drop o = b := by
  have ho : (A.take o).length = o := by simp; omega
  unfold pat
  rw [List.take_of_length_le (Nat.le_refl b.length)]
  refine ⟨?_, ?_, ?_⟩
  · rw [List.take_append_of_le_length (by omega), List.take_take, Nat.min_self]
  · rw [← List.append_assoc]
    exact List.drop_left' (by simp; omega)
  · rw [← List.append_assoc, List.take_left' (by simp; omega)]
    exact List.drop_left' ho
end Go.Proofs.Ytdpggcpbgfancaa.Vol
