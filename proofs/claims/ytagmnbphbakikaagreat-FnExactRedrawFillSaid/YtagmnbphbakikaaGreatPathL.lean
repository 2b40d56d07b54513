/-
  Which paths are valid, in plain lists.
-/
import Derived.Test.YtagmnbphbakikaaGreatMg1
namespace Go.Proofs.YtagmnbphbakikaaGreat

def manyOf (k : Int) : Nat := if k = 0 ∨ k = 1 then 1 else if k = 2 then 2 else if k = 3 then 3 else 0
/-- Verb k begins a polygon: it is the first one, or stands behind a close. -/
def begB (vs : List Vb) (k : Nat) : Bool := k == 0 || (vs.getD (k - 1) (0, [])).1 == 4
def vbOk (vs : List Vb) (k : Nat) : Bool :=
  let v := vs.getD k (0, [])
  inB v.1 0 4 && v.2.length == manyOf v.1 && psB v.2 && (!begB vs k || v.1 == 0)
def vbsTo (vs : List Vb) (k : Nat) : Prop := ∀ i, i < k → vbOk vs i = true
def ptsTo (vs : List Vb) (k : Nat) : Nat := ((vs.take k).map (fun v => v.2.length)).sum
def pathOk (vs : List Vb) : Bool := (List.range vs.length).all (vbOk vs) && vs.length ≤ 30 && ptsTo vs vs.length ≤ 40

theorem vbsTo_succ {vs : List Vb} {k : Nat} (h : vbsTo vs k) (hk : vbOk vs k = true) : vbsTo vs (k + 1) := by
  intro i hi
  by_cases h' : i = k
  · subst h'; exact hk
  · exact h i (by omega)
theorem ptsTo_succ {vs : List Vb} {k : Nat} (hk : k < vs.length) : ptsTo vs (k + 1) = ptsTo vs k + vs[k].2.length := by
  unfold ptsTo
  rw [List.take_succ_eq_append_getElem hk, List.map_append, List.sum_append]
  simp
theorem ptsTo_zero (vs : List Vb) : ptsTo vs 0 = 0 := rfl
theorem manyOf_le (k : Int) : manyOf k ≤ 3 := by unfold manyOf; split <;> (try split) <;> (try split) <;> omega
theorem vbOk_at {vs : List Vb} {k : Nat} (hk : k < vs.length) : vbOk vs k = (inB vs[k].1 0 4 && vs[k].2.length == manyOf vs[k].1 && psB vs[k].2 && (!begB vs k || vs[k].1 == 0)) := by
  unfold vbOk
  rw [List.getD_eq_getElem?_getD, List.getElem?_eq_getElem hk]
  rfl
theorem ptsTo_le {vs : List Vb} {k : Nat} (h : vbsTo vs k) (hk : k ≤ vs.length) : ptsTo vs k ≤ 3 * k := by
  induction k with
  | zero => simp [ptsTo]
  | succ k ih =>
    rw [ptsTo_succ (by omega)]
    have h1 := ih (fun i hi => h i (by omega)) (by omega)
    have h2 := h k (by omega)
    rw [vbOk_at (by omega)] at h2
    simp only [Bool.and_eq_true, beq_iff_eq] at h2
    have := manyOf_le vs[k].1
    omega
theorem pathOk_no {vs : List Vb} {k : Nat} (hk : k < vs.length) (h : vbOk vs k = false) : pathOk vs = false := by
  unfold pathOk
  have : (List.range vs.length).all (vbOk vs) = false := by
    rw [List.all_eq_false]
    exact ⟨k, by simpa using hk, by simp [h]⟩
  simp [this]
theorem pathOk_all {vs : List Vb} (h : vbsTo vs vs.length) : pathOk vs = (decide (vs.length ≤ 30) && decide (ptsTo vs vs.length ≤ 40)) := by
  unfold pathOk
  have : (List.range vs.length).all (vbOk vs) = true := by
    rw [List.all_eq_true]
    intro i hi
    exact h i (by simpa using hi)
  simp [this]
theorem begB_zero (vs : List Vb) : begB vs 0 = true := rfl
theorem begB_pos {vs : List Vb} {k : Nat} (h0 : 0 < k) (hk : k < vs.length) : begB vs k = (vs[k - 1].1 == 4) := by
  unfold begB
  rw [List.getD_eq_getElem?_getD, List.getElem?_eq_getElem (by omega)]
  have : (k == 0) = false := by simp; omega
  simp [this]
theorem pathOk_take {vs : List Vb} (h : pathOk vs = true) (k : Nat) (hk : k ≤ vs.length) : pathOk (vs.take k) = true := by
  unfold pathOk at h ⊢
  simp only [Bool.and_eq_true, List.all_eq_true, List.mem_range, decide_eq_true_eq] at h ⊢
  obtain ⟨⟨h1, h2⟩, h3⟩ := h
  rw [List.length_take]
  refine ⟨⟨fun i hi => ?_, by omega⟩, ?_⟩
  · have hi' : i < k := by omega
    have := h1 i (by omega)
    unfold vbOk begB at this ⊢
    have e1 : (vs.take k).getD i (0, []) = vs.getD i (0, []) := by
      simp [List.getD_eq_getElem?_getD, List.getElem?_take_of_lt hi']
    have e2 : (vs.take k).getD (i - 1) (0, []) = vs.getD (i - 1) (0, []) := by
      simp [List.getD_eq_getElem?_getD, List.getElem?_take_of_lt (show i - 1 < k by omega)]
    rw [e1, e2]; exact this
  · have e : ptsTo (vs.take k) (min k vs.length) = ptsTo vs k := by
      unfold ptsTo
      rw [List.take_take]
      congr 3
      omega
    rw [e]
    have mono : ∀ (a b : List Vb), ((a.map (fun v => v.2.length)).sum) ≤ (((a ++ b).map (fun v => v.2.length)).sum) := by
      intro a b; rw [List.map_append, List.sum_append]; omega
    have := mono (vs.take k) (vs.drop k)
    rw [List.take_append_drop] at this
    unfold ptsTo at h3 ⊢
    rw [List.take_length] at h3
    omega
end Go.Proofs.YtagmnbphbakikaaGreat
