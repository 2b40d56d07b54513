/-
  Laws of the polygons of paths, plainly: where they begin, without closes, moved. Nothing of a program.
-/
import Derived.Test.YtnclnmciaehgeaaRingsM
namespace Go.Proofs.Ytnclnmciaehgeaa
open Go Go.RowKit Reg
/-! ### where polygons begin -/
def headP (r : Rg) : Pt := r.headD (0, 0)
/-- The points of the first k verbs that are moves. -/
def movesL (vs : List Vb) (k : Nat) : List Pt := ((vs.take k).filter (fun v => v.1 == 0)).map (fun v => v.2.headD (0, 0))
theorem movesL_zero (vs : List Vb) : movesL vs 0 = [] := rfl
theorem movesL_succ {vs : List Vb} {k : Nat} (hk : k < vs.length) : movesL vs (k + 1) = if vs[k].1 = 0 then movesL vs k ++ [vs[k].2.headD (0, 0)] else movesL vs k := by
  unfold movesL
  rw [List.take_succ_eq_append_getElem hk, List.filter_append, List.map_append]
  split
  · rename_i h; simp [h]
  · rename_i h
    have : (vs[k].1 == 0) = false := by simpa using h
    simp [this]
theorem pos_of {vs : List Vb} {k : Nat} (hto : vbsTo vs (k + 1)) (hk : k < vs.length) (h : vs[k].1 ≠ 0) : 0 < k := by
  rcases Nat.eq_zero_or_pos k with h0 | h0
  · exact absurd ((vbOk_facts (hto k (by omega)) hk).2.2.2 h0) h
  · exact h0
theorem ringsIt_heads {vs : List Vb} : ∀ {k : Nat}, vbsTo vs k → k ≤ vs.length → (ringsIt vs k).map headP = movesL vs k
  | 0, _, _ => rfl
  | k + 1, hto, hk => by
    have hto' : vbsTo vs k := fun i hi => hto i (by omega)
    have ih := ringsIt_heads (k := k) hto' (by omega)
    obtain ⟨f1, f2, f3, f4⟩ := vbOk_facts (hto k (by omega)) (by omega)
    rw [movesL_succ (by omega)]
    by_cases h0 : vs[k].1 = 0
    · have hl : vs[k].2.length = 1 := by rw [f2, h0]; rfl
      rw [if_pos h0, ringsIt_move (by omega) h0 (by omega), List.map_append, ih, headD_at (by omega)]; rfl
    · rw [if_neg h0]
      by_cases h4 : vs[k].1 = 4
      · rw [ringsIt_close (by omega) h4, ih]
      · obtain ⟨done, now, e1, e2, e3, e4, e5⟩ := ringsIt_line (by omega) h0 h4 hto' (pos_of hto (by omega) h0)
        rw [e5, ← ih, e1, List.map_append, List.map_append]
        congr 1
        cases now with
        | nil => simp at e2
        | cons a now => rfl
theorem ringsL_heads {vs : List Vb} (h : pathOk vs = true) : (ringsL vs).map headP = movesL vs vs.length := by
  rw [← ringsIt_all]
  exact ringsIt_heads (pathOk_to h).1 (Nat.le_refl _)
theorem movesL_pre (vs : List Vb) {k m : Nat} (h : k ≤ m) : ∃ r, movesL vs m = movesL vs k ++ r := by
  refine ⟨((((vs.take m).drop k)).filter (fun v => v.1 == 0)).map (fun v => v.2.headD (0, 0)), ?_⟩
  unfold movesL
  rw [← List.map_append, ← List.filter_append]
  have e : vs.take k = (vs.take m).take k := by rw [List.take_take]; congr 1; omega
  rw [e, List.take_append_drop]
theorem movesL_le (vs : List Vb) (k : Nat) : (movesL vs k).length ≤ k := by
  unfold movesL
  rw [List.length_map]
  refine Nat.le_trans (List.length_filter_le _ _) ?_
  rw [List.length_take]; omega
/-- The polygon that the k-th verb begins. -/
theorem ringsL_begin {vs : List Vb} (h : pathOk vs = true) {k : Nat} (hk : k < vs.length) (h0 : vs[k].1 = 0) : ∃ hn : (movesL vs k).length < (ringsL vs).length, headP ((ringsL vs)[(movesL vs k).length]) = vs[k].2.headD (0, 0) := by
  have hh := ringsL_heads h
  obtain ⟨r, hr⟩ := movesL_pre vs (show k + 1 ≤ vs.length by omega)
  rw [movesL_succ hk, if_pos h0] at hr
  rw [hr, List.append_assoc] at hh
  have hl := congrArg List.length hh
  simp only [List.length_map, List.length_append, List.length_cons] at hl
  refine ⟨by omega, ?_⟩
  have hg : ((ringsL vs).map headP)[(movesL vs k).length]? = some (vs[k].2.headD (0, 0)) := by
    rw [hh, List.getElem?_append_right (Nat.le_refl _)]; simp
  rw [List.getElem?_map, List.getElem?_eq_getElem (by omega)] at hg
  simpa using hg
theorem ringsL_many {vs : List Vb} (h : pathOk vs = true) : (movesL vs vs.length).length = (ringsL vs).length := by
  rw [← ringsL_heads h, List.length_map]
/-! ### without closes -/
def stepV (s : List Rg × Rg) (v : Vb) : List Rg × Rg :=
  if v.1 = 0 then (if 0 < s.2.length then s.1 ++ [s.2] else s.1, [v.2.headD (0, 0)])
  else if v.1 = 4 then s else (s.1, s.2 ++ flatL 8 3 (s.2.getLastD (0, 0) :: v.2))
theorem ringsSt_fold (vs : List Vb) : ∀ (k : Nat), k ≤ vs.length → ringsSt vs k = (vs.take k).foldl stepV ([], [])
  | 0, _ => rfl
  | k + 1, h => by
    rw [List.take_succ_eq_append_getElem (by omega), List.foldl_append, ← ringsSt_fold vs k (by omega)]
    show ringsSt vs (k + 1) = stepV (ringsSt vs k) vs[k]
    have e : vs.getD k (0, []) = vs[k] := by rw [List.getD_eq_getElem?_getD, List.getElem?_eq_getElem (by omega)]; rfl
    simp only [ringsSt, stepV, e]
theorem fold_open : ∀ (vs : List Vb) (s : List Rg × Rg), (vs.filter (fun v => v.1 != 4)).foldl stepV s = vs.foldl stepV s
  | [], _ => rfl
  | v :: vs, s => by
    by_cases h : v.1 = 4
    · rw [List.filter_cons_of_neg (by simp [h]), fold_open vs s, List.foldl_cons]
      congr 1
      simp [stepV, h]
    · rw [List.filter_cons_of_pos (by simp [h]), List.foldl_cons, List.foldl_cons, fold_open vs]
/-- The verbs that are not closes. -/
def openL (vs : List Vb) : List Vb := vs.filter (fun v => v.1 != 4)
theorem ringsL_open (vs : List Vb) : ringsL (openL vs) = ringsL vs := by
  unfold ringsL openL
  rw [ringsSt_fold _ _ (Nat.le_refl _), ringsSt_fold _ _ (Nat.le_refl _), List.take_length, List.take_length, fold_open]
theorem openL_sum : ∀ (vs : List Vb), ((openL vs).map (fun v => v.2.length)).sum ≤ (vs.map (fun v => v.2.length)).sum
  | [] => Nat.le_refl _
  | v :: vs => by
    have ih := openL_sum vs
    unfold openL at ih ⊢
    by_cases h : v.1 = 4
    · rw [List.filter_cons_of_neg (by simp [h]), List.map_cons, List.sum_cons]; omega
    · rw [List.filter_cons_of_pos (by simp [h]), List.map_cons, List.sum_cons, List.map_cons, List.sum_cons]; omega
theorem openL_ok {vs : List Vb} (h : pathOk vs = true) : pathOk (openL vs) = true := by
  obtain ⟨h1, h2⟩ := pathOk_to h
  have h3 : ptsTo vs vs.length ≤ 40 := by
    rw [pathOk_all h1] at h
    simp only [Bool.and_eq_true, decide_eq_true_eq] at h
    exact h.2
  have hl : (openL vs).length ≤ vs.length := List.length_filter_le _ _
  have hto : vbsTo (openL vs) (openL vs).length := by
    intro i hi
    rw [vbOk_at hi]
    have hm : (openL vs)[i] ∈ openL vs := List.getElem_mem hi
    obtain ⟨hm1, hm2⟩ := List.mem_filter.1 hm
    obtain ⟨j, hj, ej⟩ := List.getElem_of_mem hm1
    obtain ⟨f1, f2, f3, f4⟩ := vbOk_facts (h1 j hj) hj
    rw [ej] at f1 f2 f3
    have g1 : inB (openL vs)[i].1 0 4 = true := inB_iff.2 f1
    rw [g1, f2, f3]
    simp only [BEq.rfl, Bool.true_and]
    rcases Nat.eq_zero_or_pos i with h0 | h0
    · subst h0
      have hv : 0 < vs.length := by omega
      have f := (vbOk_facts (h1 0 hv) hv).2.2.2 rfl
      have e0 : (openL vs)[0] = vs[0] := by
        cases vs with
        | nil => simp at hv
        | cons v vs =>
          have : v.1 = 0 := f
          simp only [openL, List.getElem_cons_zero]
          have e : List.filter (fun v => v.1 != 4) (v :: vs) = v :: List.filter (fun v => v.1 != 4) vs := List.filter_cons_of_pos (by simp [this])
          simp only [e, List.getElem_cons_zero]
      rw [e0, f]; simp
    · rw [begB_pos h0 hi]
      have hm3 : (openL vs)[i - 1] ∈ openL vs := List.getElem_mem (by omega)
      have := (List.mem_filter.1 hm3).2
      have hn : ((openL vs)[i - 1].1 == 4) = false := by simpa using this
      rw [hn]; rfl
  rw [pathOk_all hto]
  simp only [Bool.and_eq_true, decide_eq_true_eq]
  refine ⟨by omega, ?_⟩
  unfold ptsTo at h3 ⊢
  rw [List.take_length] at h3 ⊢
  have := openL_sum vs
  omega
end Go.Proofs.Ytnclnmciaehgeaa
