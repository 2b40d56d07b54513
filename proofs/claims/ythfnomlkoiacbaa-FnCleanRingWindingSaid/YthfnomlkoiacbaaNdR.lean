/-
  What is the same of a polygon and of its cleaned one. Nothing of a program.
-/
import Derived.Test.YthfnomlkoiacbaaNdL
import Derived.Test.YthfnomlkoiacbaaRings
namespace Go.Proofs.Ythfnomlkoiacbaa
open Go Go.RowKit Reg
theorem cleanN_le' : ∀ (k : Nat) (xs : List Pt), (cleanN k xs).length ≤ xs.length := by
  intro k
  induction k with
  | zero => intro xs; exact Nat.le_refl _
  | succ k ih =>
    intro xs
    simp only [cleanN]
    split
    · exact Nat.le_refl _
    · exact Nat.le_trans (ih _) (List.length_eraseIdx_le ..)
theorem cleanR_le' (ps : List Pt) : (cleanR ps).length ≤ ps.length := by
  unfold cleanR
  split
  · exact cleanN_le' _ _
  · simp
theorem cleanN_ps : ∀ (k : Nat) (xs : List Pt), psB xs = true → psB (cleanN k xs) = true
  | 0, _, h => h
  | k + 1, xs, h => by
    unfold cleanN
    split
    · exact h
    · exact cleanN_ps k _ (psB_erase h _)
theorem clean_facts {ps : List Pt} (h : 0 < (cleanR ps).length) : psB ps = true ∧ 0 < ps.length ∧ psB (cleanR ps) = true ∧ cleanR ps = cleanL ps := by
  have hl := cleanR_le' ps
  have hp : psB ps = true := by
    cases hb : psB ps with
    | true => rfl
    | false => unfold cleanR at h; rw [hb] at h; simp at h
  have e : cleanR ps = cleanL ps := by unfold cleanR; rw [if_pos hp]
  refine ⟨hp, by omega, ?_, e⟩
  rw [e]
  exact cleanN_ps _ _ hp
theorem rgsB_single {r : Rg} (h0 : 0 < r.length) (h : psB r = true) : rgsB [r] = true := by
  rw [rgsB_iff]
  refine ⟨fun q hq => by simp at hq; subst hq; exact ⟨h0, h⟩, by simp, ?_⟩
  have := psB_len h
  simp [corners]; omega
theorem windR_clean {ps : List Pt} (h : 0 < (cleanR ps).length) (x y : Int) : windR [cleanR ps] x y = windR [ps] x y := by
  obtain ⟨h1, h2, h3, h4⟩ := clean_facts h
  unfold windR
  rw [rgsB_single h h3, rgsB_single h2 h1, h4, wind_clean]
theorem areaR_clean {ps : List Pt} (h : 0 < (cleanR ps).length) : areaR [cleanR ps] = areaR [ps] := by
  obtain ⟨h1, h2, h3, h4⟩ := clean_facts h
  unfold areaR
  rw [rgsB_single h h3, rgsB_single h2 h1, h4, area_clean]
end Go.Proofs.Ythfnomlkoiacbaa
