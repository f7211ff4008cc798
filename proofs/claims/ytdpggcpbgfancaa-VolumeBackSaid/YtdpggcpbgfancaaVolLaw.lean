/- Pieces of bytes, in plain words. Conditions: none. -/
import Derived.Test.YtdpggcpbgfancaaTw
set_option linter.unusedVariables false
set_option linter.unusedSimpArgs false
namespace Go.Proofs.Ytdpggcpbgfancaa.Vol
open Go.RowKit Tw

/-- a piece: the row's place, its length, the bytes' first place and their end -/
abbrev Pc := Nat × Nat × Nat × Nat
def pcV (p : Pc) : List Value := [.int .i64 (p.1 : Int), .int .i64 (p.2.1 : Int), .int .i64 (p.2.2.1 : Int), .int .i64 (p.2.2.2 : Int)]
def pcsV (l : List Pc) : List Value := l.flatMap pcV
theorem pcsV_length (l : List Pc) : (pcsV l).length = l.length * 4 := by
  induction l with
  | nil => rfl
  | cons p l ih => simp only [pcsV, List.flatMap_cons, List.length_append] at *; rw [ih]; simp [pcV]; omega
theorem pcsV_snoc (l : List Pc) (p : Pc) : pcsV l ++ pcV p = pcsV (l ++ [p]) := by simp [pcsV]
theorem pcsV_nil : pcsV [] = [] := rfl
theorem pcV_one (p : Pc) : ∀ u ∈ pcV p, u.oneCell' = true := by
  intro u hu
  simp [pcV] at hu
  rcases hu with rfl | rfl | rfl | rfl <;> rfl
/-- where round i begins -/
def place (o i : Nat) : Nat := 16 * (o / 16) + 128 * i
def pc (o e a : Nat) : Pc := (a / 16, (min (a + 128) e - a + 15) / 16, o - a, min (a + 128) e - a)
def num (o e : Nat) : Nat := (e - 16 * (o / 16) + 127) / 128
def pcs (o e : Nat) : List Pc := (List.range (num o e)).map fun i => pc o e (place o i)
def upto (o e k : Nat) : List Pc := (List.range k).map fun i => pc o e (place o i)
theorem lt_num {o e i : Nat} : i < num o e ↔ place o i < e := by unfold num place; omega
theorem upto_succ (o e k : Nat) : upto o e (k + 1) = upto o e k ++ [pc o e (place o k)] := by simp [upto, List.range_succ]
theorem upto_length (o e k : Nat) : (upto o e k).length = k := by simp [upto]
theorem upto_num (o e : Nat) : upto o e (num o e) = pcs o e := rfl
theorem upto_pre {o e k : Nat} (h : k ≤ num o e) : upto o e k <+: pcs o e := by
  obtain ⟨m, hm⟩ : ∃ m, num o e = k + m := ⟨num o e - k, by omega⟩
  unfold pcs upto
  rw [hm, List.range_add, List.map_append]
  exact ⟨_, rfl⟩
theorem num_le {o e : Nat} (h : e ≤ 4096) : num o e ≤ 32 := by unfold num; omega
theorem pcs_length (o e : Nat) : (pcs o e).length = num o e := by simp [pcs]
theorem pc_eq {o e a : Nat} {T F : Int} (hT : T = ((min (a + 128) e - a : Nat) : Int)) (hF : F = ((o - a : Nat) : Int)) :
    (pcV (pc o e a)).toArray = #[.int .i64 ((a : Int) / 16), .int .i64 ((T + 16 - 1) / 16), .int .i64 F, .int .i64 T] := by
  subst hT hF
  have h : ((((min (a + 128) e - a + 15) / 16 : Nat)) : Int) = (((min (a + 128) e - a : Nat) : Int) + 16 - 1) / 16 := by omega
  have h2 : ((a / 16 : Nat) : Int) = (a : Int) / 16 := by omega
  simp only [pcV, pc, h, h2]
end Go.Proofs.Ytdpggcpbgfancaa.Vol
