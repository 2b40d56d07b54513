/-
  Windings at points, and backdrops: the walks.
-/
import Derived.Test.YtagmnbphbakikaaGreatMg17
namespace Go.Proofs.YtagmnbphbakikaaGreat
open Go Go.RowKit Reg
attribute [local go_sem] calmAt calmUpon
def backR (rs : List Rg) (c r : Int) : Int := if rgsB rs && inB c 0 12 && inB r 0 47 then windL rs (16 * c - 1) (4 * r + 2) else 0
set_option maxHeartbeats 1000000 in
theorem c_sampleAt (n : Int) (w : World) (h : -1000 ≤ n ∧ n ≤ 1000) : Calls Tryz.prog 164 #[.int .i64 n] w fun e w' => e = .returned (.int .i64 (4 * n + 2)) ∧ w = w' := by
  obtain ⟨h1, h2⟩ := h
  go_enter Tryz.func164, Tryz.ntmps164
  go_wp2
  go_ret
  exact ⟨ret_i (by omega), rfl⟩
end Go.Proofs.YtagmnbphbakikaaGreat
