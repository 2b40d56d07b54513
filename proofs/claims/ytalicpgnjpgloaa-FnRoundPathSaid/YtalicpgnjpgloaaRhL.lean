/-
  The box and the area of a rhomb, plainly.
-/
import Derived.Test.YtalicpgnjpgloaaRhR
import Derived.Test.YtalicpgnjpgloaaRhomb
import Derived.Test.YtalicpgnjpgloaaRingsA
import Derived.Test.YtalicpgnjpgloaaBoxOf
namespace Go.Proofs.Ytalicpgnjpgloaa
open Go Go.RowKit Reg
theorem area4 {a b c d : Pt} (h : psB [a, b, c, d] = true) : areaR [[a, b, c, d]] = areaE a b + areaE b c + areaE c d + areaE d a := by
  unfold areaR
  rw [if_pos (rgsB4 h)]
  simp [areaL, sumS, sumE, sumI, edgesL]
  omega
theorem rh_area (p : Pt) (r : Int) (h : psB (rhPts p r) = true) : areaR [rhPts p r] = 4 * r * r := by
  unfold rhPts at *
  rw [area4 h]
  obtain ⟨x, y⟩ := p
  simp only [areaE, Int.mul_add, Int.add_mul, Int.sub_mul, Int.mul_sub, Int.mul_assoc]
  have e1 := Int.mul_comm x r
  have e2 := Int.mul_comm y r
  have e3 := Int.mul_comm x y
  omega
theorem rh_box (p : Pt) (r : Int) (h : rhOk p r = true) : boxOk1 (rhPts p r) = true ∧ boxR (rhPts p r) = (p.1 - r, p.2 - r, p.1 + r, p.2 + r) := by
  unfold rhOk at h
  simp only [Bool.and_eq_true, inB_iff] at h
  obtain ⟨⟨h1, h2⟩, h3⟩ := h
  have hok : boxOk1 (rhPts p r) = true := by
    unfold boxOk1
    rw [h3]
    simp [rhPts]
  refine ⟨hok, ?_⟩
  unfold boxR
  rw [if_pos hok]
  simp only [rhPts, boxOfL, bxAdd, bxPt, List.foldl_cons, List.foldl_nil, Prod.mk.injEq]
  omega
end Go.Proofs.Ytalicpgnjpgloaa
