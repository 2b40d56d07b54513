/-
  Division rounded down and to the nearest: the walks.
-/
import Derived.Test.YtalicpgnjpgloaaPts
namespace Go.Proofs.Ytalicpgnjpgloaa
open Go Go.RowKit Reg

theorem tdiv_floor {a b : Int} (hb : 0 < b) : (Int.tmod a b < 0 → a / b = Int.tdiv a b - 1) ∧ (¬ Int.tmod a b < 0 → a / b = Int.tdiv a b) := by
  have h1 := Int.emod_nonneg a (show b ≠ 0 by omega)
  have h2 := Int.emod_lt_of_pos a hb
  have h3 : ((b.natAbs : Nat) : Int) = b := by omega
  have h4 : b.sign = 1 := Int.sign_eq_one_of_pos hb
  rw [Int.tdiv_eq_ediv, Int.tmod_eq_emod]
  by_cases h : 0 ≤ a ∨ b ∣ a
  · simp only [h, if_true]; constructor <;> intro hh <;> omega
  · simp only [h, if_false, h3, h4]; constructor <;> intro hh <;> omega
/-- Divided and rounded to the nearest. -/
def rndL (a b : Int) : Int := (2 * a + b) / (2 * b)
theorem tdiv_bd {a b : Int} (_hb : 0 < b) (h1 : -4611686018427387904 ≤ a) (h2 : a ≤ 4611686018427387904) : -4611686018427387904 ≤ Int.tdiv a b ∧ Int.tdiv a b ≤ 4611686018427387904 := by
  have h := Int.natAbs_tdiv_le_natAbs a b
  omega
set_option maxHeartbeats 1000000 in
theorem c_floor (a b : Int) (w : World) (hb : 0 < b) (hb2 : b ≤ 4611686018427387904) (h1 : -4611686018427387904 ≤ a) (h2 : a ≤ 4611686018427387904) :
    Calls Try.prog 57 #[.int .i64 a, .int .i64 b] w fun e w' => e = .returned (.int .i64 (a / b)) ∧ w = w' := by
  obtain ⟨k1, k2⟩ := tdiv_floor (a := a) hb
  obtain ⟨b1, b2⟩ := tdiv_bd hb h1 h2
  by_cases h0 : 0 ≤ a
  · have h3 : ¬ Int.tmod a b < 0 := by rw [Int.tmod_eq_emod_of_nonneg h0]; have := Int.emod_nonneg a (show b ≠ 0 by omega); omega
    have h4 : 0 ≤ a % b := Int.emod_nonneg a (by omega)
    clear k1 k2 b1 b2 h3
    go_enter Try.func57, Try.ntmps57
    go_wp2
    go_ret
    exact ⟨ret_i (by rfl), rfl⟩
  · by_cases hm : Int.tmod a b < 0
    · have K := Lib.hid (k1 hm)
      clear k1 k2
      go_enter Try.func57, Try.ntmps57
      go_wp2
      go_ret
      exact ⟨ret_i K.out.symm, rfl⟩
    · have K := Lib.hid (k2 hm)
      clear k1 k2
      go_enter Try.func57, Try.ntmps57
      go_wp2
      go_ret
      exact ⟨ret_i K.out.symm, rfl⟩
end Go.Proofs.Ytalicpgnjpgloaa
