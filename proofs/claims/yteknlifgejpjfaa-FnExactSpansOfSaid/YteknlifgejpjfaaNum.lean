/-
  Division rounded down and to the nearest: the walks.
-/
import Derived.Test.YteknlifgejpjfaaPts
namespace Go.Proofs.Yteknlifgejpjfaa
open Go Go.RowKit Reg

theorem tdiv_floor {a b : Int} (hb : 0 < b) : (Int.tmod a b < 0 → a / b = Int.tdiv a b - 1) ∧ (¬ Int.tmod a b < 0 → a / b = Int.tdiv a b) := by
  have h1 := Int.emod_nonneg a (show b ≠ 0 by omega)
  have h2 := Int.emod_lt_of_pos a hb
  have h3 : ((b.natAbs : Nat) : Int) = b := by omega
  have h4 : b.sign = 1 := Int.sign_eq_one_of_pos hb
  rw [Int.tdiv_eq_ediv, Int.tmod_eq_emod]
  by_cases h : 0 ≤ a ∨ b ∣ a
  · simp only [h, if_true]; constructor <;> intro hh <;> omega
  · simp only [h, if_false, h3, h4]; constructor <;> intro hh <;> omega
/-- Divided and rounded to the nearest. -/
def rndL (a b : Int) : Int := (2 * a + b) / (2 * b)
theorem tdiv_bd {a b : Int} (_hb : 0 < b) (h1 : -4611686018427387904 ≤ a) (h2 : a ≤ 4611686018427387904) : -4611686018427387904 ≤ Int.tdiv a b ∧ Int.tdiv a b ≤ 4611686018427387904 := by
  have h := Int.natAbs_tdiv_le_natAbs a b
  omega
end Go.Proofs.Yteknlifgejpjfaa
