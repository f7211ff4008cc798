/- The laws of num, walked: for every input the law returns true and old memory is as it was. Conditions: each slice takes at most 2^47 bytes. -/
import Derived.Test.YtlfphoablloodaaNum2
import Derived.Test.YtlfphoablloodaaRows
import Derived.ProofKit
import Derived.SizedLaws
namespace Go.Proofs.Ytlfphoablloodaa.Num
open Go.RowKit Tw
set_option maxHeartbeats 400000

theorem w_NumTickets (b : Nat) (n : Int) (x : Nat) (w : World) (hb : b < 4294967296) (hx : x < 18446744073709551616) :
    Calls Try.prog 4 #[.int .u32 b, .int .i64 n, .int .u64 x] w fun e w' => e = .returned (.bool true) ∧ Below w.heap.size w w' := by
  go_enter Try.func4, Try.ntmps4
  go_wp2_with (first
    | (go_at_call 25; (with_reducible refine (c_Ticket _ b n _ rfl hb).mono ?_); rintro e w' ⟨rfl, rfl⟩)
    | (go_at_call 26; (with_reducible refine (c_rTicket _ b n _ rfl hb).mono ?_); rintro e w' ⟨rfl, rfl⟩)
    | (go_at_call 27; (with_reducible refine (c_Boot n _).mono ?_); rintro e w' ⟨rfl, rfl⟩)
    | (go_at_call 28; (with_reducible refine (c_rBoot n _).mono ?_); rintro e w' ⟨rfl, rfl⟩)
    | (go_at_call 29; (with_reducible refine (c_Small x _ hx).mono ?_); rintro e w' ⟨rfl, rfl⟩)
    | (go_at_call 30; (with_reducible refine (c_rSmall x _ hx).mono ?_); rintro e w' ⟨rfl, rfl⟩)
    | (go_at_call 18; (with_reducible refine (c_lives _).mono ?_); rintro e w' ⟨rfl, hb1⟩))
  go_ret
  exact ⟨rfl, hb1⟩
end Go.Proofs.Ytlfphoablloodaa.Num
