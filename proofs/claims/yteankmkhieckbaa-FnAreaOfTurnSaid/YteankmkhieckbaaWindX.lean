/-
  Windings as sums, plainly.
-/
import Derived.Test.YteankmkhieckbaaWindA
import Derived.Test.YteankmkhieckbaaRev
import Derived.Test.YteankmkhieckbaaNear
namespace Go.Proofs.Yteankmkhieckbaa
open Go Go.RowKit Reg
/-- What an edge adds, for coordinates in the range. -/
def stepX (x y : Int) (a b : Pt) : Int := if inB x (-1000) 1000 && inB y (-1000) 1000 then stepL x y a b else 0
theorem stepX_anti (x y : Int) (a b : Pt) : stepX x y b a = - stepX x y a b := by unfold stepX; split; exact stepL_anti x y a b; rfl
theorem stepX_bd (x y : Int) (a b : Pt) : -1 ≤ stepX x y a b ∧ stepX x y a b ≤ 1 := by unfold stepX; split; exact stepL_bd x y a b; omega
theorem sumS_zero (rs : List Rg) : sumS (fun _ _ => 0) rs = 0 := by
  induction rs with
  | nil => rfl
  | cons r rs ih => rw [sumS_cons, ih, sumE_zero]; rfl
theorem windR_eq {rs : List Rg} (h : rgsB rs = true) (x y : Int) : windR rs x y = sumS (stepX x y) rs := by
  unfold windR
  rw [h, Bool.true_and]
  unfold stepX windL
  cases (inB x (-1000) 1000 && inB y (-1000) 1000)
  · simp only [Bool.false_eq_true, if_false]; exact (sumS_zero rs).symm
  · simp only [if_true]
theorem windR_rev (rs : List Rg) (x y : Int) : windR (rs.map List.reverse) x y = - windR rs x y := by
  cases h : rgsB rs with
  | false => unfold windR; rw [rgsB_rev, h]; rfl
  | true => rw [windR_eq h, windR_eq (by rw [rgsB_rev]; exact h)]; exact sumS_revneg _ (stepX_anti x y) rs
theorem windL_rev (rs : List Rg) (x y : Int) : windL (rs.map List.reverse) x y = - windL rs x y := sumS_revneg _ (stepL_anti x y) rs
theorem backR_rev (rs : List Rg) (c r : Int) : backR (rs.map List.reverse) c r = - backR rs c r := by
  unfold backR
  rw [rgsB_rev, windL_rev]
  split <;> rfl
theorem windR_bd (rs : List Rg) (x y : Int) : -320 ≤ windR rs x y ∧ windR rs x y ≤ 320 := by
  cases h : rgsB rs with
  | false => unfold windR; rw [h]; simp
  | true =>
    rw [windR_eq h]
    have hr := rgsB_iff.1 h
    have := sumS_bd (f := stepX x y) (rs := rs) (B := 40) (fun r hq => by have := sumE_bd40 (f := stepX x y) (B := 1) (fun a _ b _ => stepX_bd x y a b) (by omega) (hr.1 r hq).2; omega) (by omega) (k := rs.length) hr.2.1
    rw [List.take_length] at this; omega
theorem backR_bd (rs : List Rg) (c r : Int) : -320 ≤ backR rs c r ∧ backR rs c r ≤ 320 := by
  unfold backR
  split
  · rename_i h
    simp only [Bool.and_eq_true, inB_iff] at h
    have := windR_bd rs (16 * c - 1) (4 * r + 2)
    unfold windR at this
    rw [h.1.1, (inB_iff (lo := -1000) (hi := 1000)).2 (by omega), (inB_iff (lo := -1000) (hi := 1000)).2 (by omega)] at this
    exact this
  · omega
end Go.Proofs.Yteankmkhieckbaa
