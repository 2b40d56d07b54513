/-
  Rhombs are convex, and wind around their middles, plainly.
-/
import Derived.Test.YtnclnmciaehgeaaConvL
import Derived.Test.YtnclnmciaehgeaaRhR
import Derived.Test.YtnclnmciaehgeaaInside
namespace Go.Proofs.Ytnclnmciaehgeaa
open Go Go.RowKit Reg
theorem rr_pos {r : Int} (h : 1 ≤ r) : 0 < r * r := Int.mul_pos (by omega) (by omega)
theorem sign_pos {n : Int} (h : 0 < n) : signL n = 1 := by unfold signL; omega
theorem sign_neg {n : Int} (h : n < 0) : signL n = -1 := by unfold signL; omega
theorem rh_conv {p : Pt} {r : Int} (h : rhOk p r = true) : implConvex (rhPts p r) = true := by
  unfold rhOk at h
  simp only [Bool.and_eq_true, inB_iff] at h
  obtain ⟨⟨h1, h2⟩, h3⟩ := h
  have hp := rr_pos h2.1
  obtain ⟨x, y⟩ := p
  have c0 : cyc (rhPts (x, y) r) 0 = (x, y - r) := by simp [cyc, rhPts]
  have c1 : cyc (rhPts (x, y) r) 1 = (x + r, y) := by simp [cyc, rhPts]
  have c2 : cyc (rhPts (x, y) r) 2 = (x, y + r) := by simp [cyc, rhPts]
  have c3 : cyc (rhPts (x, y) r) 3 = (x - r, y) := by simp [cyc, rhPts]
  have c4 : cyc (rhPts (x, y) r) 4 = (x, y - r) := by simp [cyc, rhPts]
  have c5 : cyc (rhPts (x, y) r) 5 = (x + r, y) := by simp [cyc, rhPts]
  have hc : ∀ i, i < 4 → signL (crs (rhPts (x, y) r) i) = 1 := by
    intro i hi
    apply sign_pos
    match i, hi with
    | 0, _ => unfold crs; rw [c0, c1, c2]; unfold crossL; simp only [Int.sub_mul, Int.mul_sub, Int.add_mul, Int.mul_add]; omega
    | 1, _ => unfold crs; rw [c1, c2, c3]; unfold crossL; simp only [Int.sub_mul, Int.mul_sub, Int.add_mul, Int.mul_add]; omega
    | 2, _ => unfold crs; rw [c2, c3, c4]; unfold crossL; simp only [Int.sub_mul, Int.mul_sub, Int.add_mul, Int.mul_add]; omega
    | 3, _ => unfold crs; rw [c3, c4, c5]; unfold crossL; simp only [Int.sub_mul, Int.mul_sub, Int.add_mul, Int.mul_add]; omega
  have hl : (rhPts (x, y) r).length = 4 := rfl
  have hf : firstI (rhPts (x, y) r) = 1 := by unfold firstI; rw [hl]; exact hc 3 (by omega)
  have hg : goodI (rhPts (x, y) r) 4 = true := by
    simp only [goodI, List.all_eq_true, List.mem_range, decide_eq_true_eq]
    intro j hj
    rw [hc j hj, hf]
  have w0 : wayAt (rhPts (x, y) r) 0 = [1] := by
    unfold wayAt
    rw [c0, c1]
    dsimp only
    rw [if_neg (by omega), sign_pos (by omega)]
  have w1 : wayAt (rhPts (x, y) r) 1 = [1] := by
    unfold wayAt
    rw [c1, c2]
    dsimp only
    rw [if_neg (by omega), sign_pos (by omega)]
  have w2 : wayAt (rhPts (x, y) r) 2 = [-1] := by
    unfold wayAt
    rw [c2, c3]
    dsimp only
    rw [if_neg (by omega), sign_neg (by omega)]
  have w3 : wayAt (rhPts (x, y) r) 3 = [-1] := by
    unfold wayAt
    rw [c3, c4]
    dsimp only
    rw [if_neg (by omega), sign_neg (by omega)]
  have hw : waysI (rhPts (x, y) r) 4 = [1, 1, -1, -1] := by
    show [0, 1, 2, 3].flatMap (wayAt (rhPts (x, y) r)) = _
    simp only [List.flatMap_cons, List.flatMap_nil, w0, w1, w2, w3]; rfl
  unfold implConvex
  rw [h3, hl, hf, hg, hw]
  decide
theorem rh_wind {p : Pt} {r : Int} (h : rhOk p r = true) : insB [rhPts p r] 1 p.1 p.2 = true := by
  unfold rhOk at h
  simp only [Bool.and_eq_true, inB_iff, vpB_iff] at h
  obtain ⟨⟨h1, h2⟩, h3⟩ := h
  have hp := rr_pos h2.1
  obtain ⟨x, y⟩ := p
  dsimp only at h1
  have s1 : stepL x y (x, y - r) (x + r, y) = 0 := by
    unfold stepL sideL
    dsimp only
    rw [if_neg (by omega), if_neg (by omega)]
  have s2 : stepL x y (x + r, y) (x, y + r) = 0 := by
    unfold stepL sideL
    dsimp only
    have e : (x - (x + r)) * (y + r - y) - (y - y) * (x - (x + r)) = -(r * r) := by
      rw [Int.sub_self, Int.zero_mul, show x - (x + r) = -r by omega, show y + r - y = r by omega, Int.neg_mul]; omega
    rw [e, if_neg (by omega), if_neg (by omega)]
  have s3 : stepL x y (x, y + r) (x - r, y) = -1 := by
    unfold stepL sideL
    dsimp only
    have e : (x - (x - r)) * (y + r - y) - (y - y) * (x - (x - r)) = r * r := by
      rw [Int.sub_self, Int.zero_mul, show x - (x - r) = r by omega, show y + r - y = r by omega]; omega
    rw [if_neg (by omega), e, if_pos (by omega)]
  have s4 : stepL x y (x - r, y) (x, y - r) = 0 := by
    unfold stepL sideL
    dsimp only
    rw [if_neg (by omega), if_neg (by omega)]
  have hw : windL [rhPts (x, y) r] x y = -1 := by
    show (stepL x y (x, y - r) (x + r, y) + (stepL x y (x + r, y) (x, y + r) + (stepL x y (x, y + r) (x - r, y) + (stepL x y (x - r, y) (x, y - r) + 0)))) + 0 = -1
    rw [s1, s2, s3, s4]; rfl
  have hg : rgsB [rhPts (x, y) r] = true := rgsB4 h3
  unfold insB
  rw [hg, hw, inB_iff.2 h1.1, inB_iff.2 h1.2]
  decide
end Go.Proofs.Ytnclnmciaehgeaa
