/- Results that lie in cells. Conditions: none. -/
import Derived.Test.YtaldlapnhhhclaaGreatB2
set_option linter.unusedVariables false
set_option linter.unusedSimpArgs false
namespace Go.Proofs.YtaldlapnhhhclaaGreat.Tw
open Go.RowKit
section
variable {P : Program}
theorem run_loadVar_one (w : World) (a : Addr) (ty : TypeId) (d : TypeDesc) (v : Value) (hu : P.underlying ty = some d) (hd : d.isRow = false) (hc : w.cell? a = some v) : (loadVar ty a).run P w = .ok v w := by
  have hagg : (isAgg ty).run P w = .ok false w := by
    unfold isAgg
    rw [Sem.run_bind, run_underlying hu w]
    cases d <;> simp_all
  simp [loadVar, Sem.run_bind, hagg, hc]
/-- one result, in a cell -/
theorem results_one {fn : Func} {p : Tmp} {ty : TypeId} (h : fn.results = #[.cell p ty]) (tmps : Array Value) (w : World) (a : Addr) (d : TypeDesc) (v : Value) (hp : tmps.getD p undef = .pointer (some a)) (hu : P.underlying ty = some d) (hd : d.isRow = false) (hc : w.cell? a = some v) :
    (results fn tmps).run P w = .ok v w := by
  have hp' : tmps[p]?.getD undef = .pointer (some a) := by simpa using hp
  simp [results, h, hp', asAddr, run_loadVar_one w a ty d v hu hd hc]
/-- two results, each in a cell -/
theorem results_two {fn : Func} {p q : Tmp} {ty ty2 : TypeId} (h : fn.results = #[.cell p ty, .cell q ty2]) (tmps : Array Value) (w : World) (a a2 : Addr) (d d2 : TypeDesc) (v v2 : Value) (hp : tmps.getD p undef = .pointer (some a)) (hq : tmps.getD q undef = .pointer (some a2))
    (hu : P.underlying ty = some d) (hd : d.isRow = false) (hc : w.cell? a = some v) (hu2 : P.underlying ty2 = some d2) (hd2 : d2.isRow = false) (hc2 : w.cell? a2 = some v2) :
    (results fn tmps).run P w = .ok (.tuple #[v, v2]) w := by
  have hp' : tmps[p]?.getD undef = .pointer (some a) := by simpa using hp
  have hq' : tmps[q]?.getD undef = .pointer (some a2) := by simpa using hq
  simp [results, h, hp', hq', asAddr, run_loadVar_one w a ty d v hu hd hc, run_loadVar_one w a2 ty2 d2 v2 hu2 hd2 hc2]
end
end Go.Proofs.YtaldlapnhhhclaaGreat.Tw
