/- Contracts of the package wire's reference: Same of alike packets. Conditions: none. -/
import Derived.Test.YtdpggcpbgfancaaWire6
import Derived.Test.YtdpggcpbgfancaaActlog
namespace Go.Proofs.Ytdpggcpbgfancaa.Wire
open Go.RowKit Tw
set_option maxHeartbeats 8000000
set_option maxRecDepth 100000
theorem c_rSame_yes (p : Pk) (A A' : Option Addr) (n c n' c' : Nat) (w : World) (h1 : Byt w A n c p.body) (h2 : Byt w A' n' c' p.body) :
    Calls Try.prog 27 #[pkV p A n c, pkV p A' n' c'] w fun e w' => e = .returned (.bool true) ∧ Below w.heap.size w w' := by
  obtain ⟨f, t, k, s, ac, body⟩ := p
  simp only [pkV]
  obtain ⟨W2, hW2, x1, x2, hB⟩ := Actlog.two_boxes w (.cells #[.int .u32 (f : Int), .int .u32 (t : Int), .int .i64 k, .int .i64 s, .int .i64 ac, .slice A n c] 25) (.cells #[.int .u32 (f : Int), .int .u32 (t : Int), .int .i64 k, .int .i64 s, .int .i64 ac, .slice A' n' c'] 25)
  have HB := Lib.hid hB
  have s1 := run_str (P := Try.prog) W2 23 9 5 A n c body Try.underlying23 Try.underlying5 Try.underlying9 (h1.bel hB)
  have s2 := run_str (P := Try.prog) W2 23 9 5 A' n' c' body Try.underlying23 Try.underlying5 Try.underlying9 (h2.bel hB)
  obtain ⟨k0, k1, k2, k3, k4, k5⟩ := cells6 x1
  obtain ⟨l0, l1, l2, l3, l4, l5⟩ := cells6 x2
  clear x1 x2 hB h1 h2
  go_enter Try.func27, Try.ntmps27
  go_upto_region 1 with (fail)
  rw [← hW2]
  clear hW2
  go_wp2_with fail
  go_ret
  exact ⟨rfl, HB.out⟩
end Go.Proofs.Ytdpggcpbgfancaa.Wire
