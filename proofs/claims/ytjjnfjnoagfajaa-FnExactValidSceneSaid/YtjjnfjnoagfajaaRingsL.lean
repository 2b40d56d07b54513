/-
  The polygons of a path, plainly. Nothing of a program.
-/
import Derived.Test.YtjjnfjnoagfajaaCurveL
import Derived.Test.YtjjnfjnoagfajaaPathL
import Derived.Test.YtjjnfjnoagfajaaWindL
namespace Go.Proofs.Ytjjnfjnoagfajaa
open Go Go.RowKit Reg
/-- The polygons that are closed, and the one that is not yet. -/
def ringsSt (vs : List Vb) : Nat → List Rg × Rg
  | 0 => ([], [])
  | k + 1 =>
    let s := ringsSt vs k
    let v := vs.getD k (0, [])
    if v.1 = 0 then (if 0 < s.2.length then s.1 ++ [s.2] else s.1, [v.2.headD (0, 0)])
    else if v.1 = 4 then s else (s.1, s.2 ++ flatL 8 3 (s.2.getLastD (0, 0) :: v.2))
def ringsL (vs : List Vb) : List Rg := let s := ringsSt vs vs.length; if 0 < s.2.length then s.1 ++ [s.2] else s.1
/-- What holds of the polygons so far. -/
def StOk (s : List Rg × Rg) (k : Nat) : Prop := VpAll s.2 ∧ (∀ r ∈ s.1, VpAll r ∧ 0 < r.length) ∧ corners s.1 + s.2.length ≤ 8 * k ∧ (0 < k → 0 < s.2.length) ∧ s.1.length ≤ k
theorem vbOk_facts {vs : List Vb} {k : Nat} (h : vbOk vs k = true) (hk : k < vs.length) : (0 ≤ vs[k].1 ∧ vs[k].1 ≤ 4) ∧ vs[k].2.length = manyOf vs[k].1 ∧ psB vs[k].2 = true ∧ (k = 0 → vs[k].1 = 0) := by
  rw [vbOk_at hk] at h
  simp only [Bool.and_eq_true, beq_iff_eq, inB_iff] at h
  refine ⟨h.1.1.1, h.1.1.2, h.1.2, fun h0 => ?_⟩
  subst h0
  simpa [begB_zero] using h.2
theorem psB_all {r : Rg} (h : psB r = true) : VpAll r := by
  intro p hp
  simp only [psB, Bool.and_eq_true, List.all_eq_true] at h
  exact h.1 p hp
theorem ringsSt_move {vs : List Vb} {k : Nat} (hk : k < vs.length) (h : vs[k].1 = 0) (hl : 0 < vs[k].2.length) : ringsSt vs (k + 1) = (if 0 < (ringsSt vs k).2.length then (ringsSt vs k).1 ++ [(ringsSt vs k).2] else (ringsSt vs k).1, [vs[k].2[0]]) := by
  have e : vs.getD k (0, []) = vs[k] := by rw [List.getD_eq_getElem?_getD, List.getElem?_eq_getElem hk]; rfl
  simp only [ringsSt, e, h, if_true]
  rw [headD_at hl]
theorem ringsSt_close {vs : List Vb} {k : Nat} (hk : k < vs.length) (h : vs[k].1 = 4) : ringsSt vs (k + 1) = ringsSt vs k := by
  have e : vs.getD k (0, []) = vs[k] := by rw [List.getD_eq_getElem?_getD, List.getElem?_eq_getElem hk]; rfl
  simp [ringsSt, h, hk]
theorem ringsSt_line {vs : List Vb} {k : Nat} (hk : k < vs.length) (h : vs[k].1 ≠ 0) (h4 : vs[k].1 ≠ 4) : ringsSt vs (k + 1) = ((ringsSt vs k).1, (ringsSt vs k).2 ++ flatL 8 3 ((ringsSt vs k).2.getLastD (0, 0) :: vs[k].2)) := by
  simp [ringsSt, h, h4, hk]
theorem ringsSt_ok {vs : List Vb} : ∀ {k : Nat}, vbsTo vs k → k ≤ vs.length → StOk (ringsSt vs k) k
  | 0, _, _ => ⟨fun p hp => by simp [ringsSt] at hp, fun r hr => by simp [ringsSt] at hr, by simp [ringsSt, corners], fun h => by omega, by simp [ringsSt]⟩
  | k + 1, h, hk => by
    have ih := ringsSt_ok (k := k) (fun i hi => h i (by omega)) (by omega)
    obtain ⟨f1, f2, f3, f4⟩ := vbOk_facts (h k (by omega)) (by omega)
    obtain ⟨i1, i2, i3, i4, i5⟩ := ih
    by_cases h0 : vs[k].1 = 0
    · have hl : vs[k].2.length = 1 := by rw [f2, h0]; rfl
      rw [ringsSt_move (by omega) h0 (by omega)]
      have hp : vpB (vs[k].2[0]'(by omega)) = true := psB_all f3 _ (List.getElem_mem _)
      refine ⟨fun p hp' => by simp at hp'; subst hp'; exact hp, ?_, ?_, fun _ => by simp, ?_⟩
      · split
        · intro r hr
          rcases List.mem_append.1 hr with hr | hr
          · exact i2 r hr
          · simp at hr; subst hr; exact ⟨i1, by assumption⟩
        · exact i2
      · split
        · rw [corners_snoc]; simp; omega
        · simp; omega
      · dsimp only; split
        · simp; omega
        · omega
    · by_cases h4 : vs[k].1 = 4
      · rw [ringsSt_close (by omega) h4]
        exact ⟨i1, i2, by omega, fun _ => i4 (by
          rcases Nat.eq_zero_or_pos k with hk0 | hk0
          · exact absurd (f4 hk0) h0
          · exact hk0), by omega⟩
      · rw [ringsSt_line (by omega) h0 h4]
        have hk0 : 0 < k := by
          rcases Nat.eq_zero_or_pos k with hk0 | hk0
          · exact absurd (f4 hk0) h0
          · exact hk0
        have hn := i4 hk0
        have hv : VpAll ((ringsSt vs k).2.getLastD (0, 0) :: vs[k].2) := by
          intro p hp
          rcases List.mem_cons.1 hp with rfl | hp
          · exact i1 _ (lastD_mem hn)
          · exact psB_all f3 p hp
        have hf := flatL_len 8 3 ((ringsSt vs k).2.getLastD (0, 0) :: vs[k].2)
        refine ⟨fun p hp => ?_, i2, ?_, fun _ => ?_, by dsimp only; omega⟩
        · rcases List.mem_append.1 hp with hp | hp
          · exact i1 p hp
          · exact flatL_vp 8 3 _ hv (by simp) p hp
        · dsimp only; rw [List.length_append]; have : (2 : Nat) ^ 3 = 8 := rfl; omega
        · dsimp only; rw [List.length_append]; omega
theorem pathOk_to {vs : List Vb} (h : pathOk vs = true) : vbsTo vs vs.length ∧ vs.length ≤ 30 := by
  unfold pathOk at h
  simp only [Bool.and_eq_true, List.all_eq_true, List.mem_range, decide_eq_true_eq] at h
  exact ⟨fun i hi => h.1.1 i hi, h.1.2⟩
theorem ringsL_ok {vs : List Vb} (h : pathOk vs = true) : (∀ r ∈ ringsL vs, VpAll r ∧ 0 < r.length) ∧ corners (ringsL vs) ≤ 240 ∧ (ringsL vs).length ≤ 31 := by
  obtain ⟨h1, h2⟩ := pathOk_to h
  obtain ⟨i1, i2, i3, i4, i5⟩ := ringsSt_ok h1 (Nat.le_refl _)
  unfold ringsL
  dsimp only
  split
  · refine ⟨fun r hr => ?_, by rw [corners_snoc]; omega, by simp; omega⟩
    rcases List.mem_append.1 hr with hr | hr
    · exact i2 r hr
    · simp at hr; subst hr; exact ⟨i1, by assumption⟩
  · exact ⟨i2, by omega, by omega⟩
end Go.Proofs.Ytjjnfjnoagfajaa
