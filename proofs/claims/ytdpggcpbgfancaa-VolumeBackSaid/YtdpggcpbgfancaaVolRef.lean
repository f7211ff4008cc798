/- The contract of the reference's Cut. Conditions: none. -/
import Derived.Test.YtdpggcpbgfancaaVolCut
import Derived.Test.YtdpggcpbgfancaaCopy
import Derived.Deep.CutBlock
set_option linter.unusedVariables false
set_option linter.unusedSimpArgs false
namespace Go.Proofs.Ytdpggcpbgfancaa.Vol
open Go.RowKit Tw
set_option maxHeartbeats 16000000
set_option maxRecDepth 100000

def lenAt (w : World) (b : Nat) : Nat := match w.cell? ⟨b, 1, none⟩ with | some v => (intOf v).toNat | none => 0
theorem own_new {w : World} {base : Nat} {e : TypeId} {size : Nat} {A : Option Addr} {n c : Nat} {xs : List Value} (h : Tw.Own w base e size A n c xs) : (Value.slice A n c).ownBlock = none ∨ (Value.slice A n c).ownBlock ≠ some w.heap.size := by
  cases A with
  | none => exact .inl rfl
  | some ad =>
    right
    have h1 := (h.at0 ad rfl).2
    simp [Value.ownBlock]
    omega
theorem cells4 {w : World} {b : Nat} {t : TypeId} {x0 x1 x2 x3 : Value} (h : w.heap[b]? = some (.cells #[x0, x1, x2, x3] t (0, 0))) : w.cell? ⟨b, 0, none⟩ = some x0 ∧ w.cell? ⟨b, 1, none⟩ = some x1 ∧ w.cell? ⟨b, 2, none⟩ = some x2 ∧ w.cell? ⟨b, 3, none⟩ = some x3 := by
  simp [World.cell?, h]
theorem pc_of {o e a j : Nat} {F T : Int} (ha : 16 * (a / 16) = a) (hT : T = ((min (a + 128) e - a : Nat) : Int)) (hF : F = ((o - a : Nat) : Int)) (hj : j = (min (a + 128) e - a + 15) / 16) :
    [Value.int .i64 ((a / 16 : Nat) : Int), .int .i64 (j : Int), .int .i64 F, .int .i64 T] = pcV (pc o e a) := by
  subst hT hF hj
  rfl

theorem next_pc {o z k q j : Nat} {F T : Int} (hp : place o k = 16 * q) (hT : T = ((min (16 * q + 128) (o + z) - 16 * q : Nat) : Int)) (hF : F = ((o - 16 * q : Nat) : Int)) (hj : j = (min (16 * q + 128) (o + z) - 16 * q + 15) / 16) :
    pcsV (upto o (o + z) k) ++ [Value.int .i64 (q : Int), .int .i64 (j : Int), .int .i64 F, .int .i64 T] = pcsV (upto o (o + z) (k + 1)) := by
  rw [upto_succ, ← pcsV_snoc, hp, ← pc_of (by omega) hT hF hj, show 16 * q / 16 = q from by omega]
end Go.Proofs.Ytdpggcpbgfancaa.Vol
