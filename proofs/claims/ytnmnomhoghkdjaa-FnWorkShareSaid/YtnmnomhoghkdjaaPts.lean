/-
  The walks of the functions on numbers and points that the statements share.
-/
import Derived.Test.YtnmnomhoghkdjaaRows
import Derived.Test.YtnmnomhoghkdjaaVbL
namespace Go.Proofs.Ytnmnomhoghkdjaa
open Go Go.RowKit Reg

theorem ei_int : EI Try.prog 29 3 (.int .i64 0) [.int .i64 0] 8 := ei_mk Try.underlying29 (by kernel_rfl) rfl (by decide) (by decide)
set_option maxHeartbeats 400000 in
theorem c_in (n lo hi : Int) (w : World) : Calls Try.prog 40 #[.int .i64 n, .int .i64 lo, .int .i64 hi] w fun e w' => e = .returned (.bool (inB n lo hi)) ∧ w = w' := by
  go_enter Try.func40, Try.ntmps40
  go_wp2
  all_goals (go_ret; exact ⟨ret_b (by simp; omega), rfl⟩)
set_option maxHeartbeats 400000 in
theorem c_inRange (n lo hi : Int) (w : World) : Calls Try.prog 33 #[.int .i64 n, .int .i64 lo, .int .i64 hi] w fun e w' => e = .returned (.bool (inB n lo hi)) ∧ w = w' := by
  go_enter Try.func33, Try.ntmps33
  go_wp2
  all_goals (go_ret; exact ⟨ret_b (by simp; omega), rfl⟩)
end Go.Proofs.Ytnmnomhoghkdjaa
