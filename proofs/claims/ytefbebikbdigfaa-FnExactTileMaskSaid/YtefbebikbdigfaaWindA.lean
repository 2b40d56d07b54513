/-
  Windings at points, and backdrops: the walks.
-/
import Derived.Test.YtefbebikbdigfaaWindS
import Derived.Test.YtefbebikbdigfaaWindI
namespace Go.Proofs.Ytefbebikbdigfaa
open Go Go.RowKit Reg
attribute [local go_sem] calmAt calmUpon
def backR (rs : List Rg) (c r : Int) : Int := if rgsB rs && inB c 0 12 && inB r 0 47 then windL rs (16 * c - 1) (4 * r + 2) else 0
set_option maxHeartbeats 1000000 in
theorem c_sampleAt (n : Int) (w : World) (h : -1000 ≤ n ∧ n ≤ 1000) : Calls Try.prog 74 #[.int .i64 n] w fun e w' => e = .returned (.int .i64 (4 * n + 2)) ∧ w = w' := by
  obtain ⟨h1, h2⟩ := h
  go_enter Try.func74, Try.ntmps74
  go_wp2
  go_ret
  exact ⟨ret_i (by omega), rfl⟩
set_option maxHeartbeats 1000000 in
theorem c_isRow (n : Int) (w : World) : Calls Try.prog 52 #[.int .i64 n] w fun e w' => e = .returned (.bool (inB n 0 47)) ∧ w = w' := by
  go_enter Try.func52, Try.ntmps52
  go_wp2_with fail
  refine (c_in n 0 47 _).mono ?_
  rintro e w' ⟨rfl, rfl⟩
  go_wp2
  go_ret
  exact ⟨rfl, rfl⟩
set_option maxHeartbeats 1000000 in
theorem c_backdrop (A : Option Addr) (cap : Nat) (rs : List Rg) (c y : Int) (w : World) (h : Rgs w A rs) (hv : rgsB rs = true) (hx : -100 ≤ c ∧ c ≤ 100) (hy : -2000 ≤ y ∧ y ≤ 2000) :
    Calls Try.prog 47 #[.slice A rs.length cap, .int .i64 c, .int .i64 y] w fun e w' => e = .returned (.int .i64 (windL rs (16 * c - 1) y)) ∧ Below w.heap.size w w' := by
  have K := Lib.hid (c_swinding A cap rs (16 * c - 1) y w h hv (by omega) hy)
  obtain ⟨h1, h2⟩ := hx
  clear h hv hy
  go_enter Try.func47, Try.ntmps47
  go_wp2_with fail
  refine K.out.mono ?_
  rintro e w' ⟨rfl, hb⟩
  have E := Lib.hid hb
  clear hb
  go_wp2
  go_ret
  exact ⟨rfl, E.out⟩
end Go.Proofs.Ytefbebikbdigfaa
