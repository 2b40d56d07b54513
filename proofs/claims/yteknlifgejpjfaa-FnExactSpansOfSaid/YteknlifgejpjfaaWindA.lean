/-
  Windings at points, and backdrops: the walks.
-/
import Derived.Test.YteknlifgejpjfaaWindS
import Derived.Test.YteknlifgejpjfaaWindI
namespace Go.Proofs.Yteknlifgejpjfaa
open Go Go.RowKit Reg
attribute [local go_sem] calmAt calmUpon
def backR (rs : List Rg) (c r : Int) : Int := if rgsB rs && inB c 0 12 && inB r 0 47 then windL rs (16 * c - 1) (4 * r + 2) else 0
set_option maxHeartbeats 1000000 in
theorem c_sampleAt (n : Int) (w : World) (h : -1000 ≤ n ∧ n ≤ 1000) : Calls Try.prog 42 #[.int .i64 n] w fun e w' => e = .returned (.int .i64 (4 * n + 2)) ∧ w = w' := by
  obtain ⟨h1, h2⟩ := h
  go_enter Try.func42, Try.ntmps42
  go_wp2
  go_ret
  exact ⟨ret_i (by omega), rfl⟩
set_option maxHeartbeats 1000000 in
theorem c_isRow (n : Int) (w : World) : Calls Try.prog 25 #[.int .i64 n] w fun e w' => e = .returned (.bool (inB n 0 47)) ∧ w = w' := by
  go_enter Try.func25, Try.ntmps25
  go_wp2_with fail
  refine (c_in n 0 47 _).mono ?_
  rintro e w' ⟨rfl, rfl⟩
  go_wp2
  go_ret
  exact ⟨rfl, rfl⟩
end Go.Proofs.Yteknlifgejpjfaa
