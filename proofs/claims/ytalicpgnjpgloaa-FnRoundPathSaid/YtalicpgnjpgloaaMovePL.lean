/-
  Paths moved, plainly. Nothing of a program.
-/
import Derived.Test.YtalicpgnjpgloaaMoved
import Derived.Test.YtalicpgnjpgloaaPathL
namespace Go.Proofs.Ytalicpgnjpgloaa
open Go Go.RowKit Reg
def mvV (s t : Int) (v : Vb) : Vb := (v.1, moveL s t v.2)
def movesOk (s t : Int) (vs : List Vb) : Bool := vs.all fun v => psB (moveL s t v.2)
def movedVB (s t : Int) (vs : List Vb) : Bool := pathOk vs && inB s (-1000) 1000 && inB t (-1000) 1000 && movesOk s t vs
def movedV (s t : Int) (vs : List Vb) : List Vb × Bool := if movedVB s t vs then (vs.map (mvV s t), true) else ([], false)
theorem mvV_get {s t : Int} {vs : List Vb} {k : Nat} (h : k < (vs.map (mvV s t)).length) : (vs.map (mvV s t))[k] = mvV s t (vs[k]'(by simpa using h)) := by simp
theorem ptsTo_moved (s t : Int) (vs : List Vb) (k : Nat) : ptsTo (vs.map (mvV s t)) k = ptsTo vs k := by
  unfold ptsTo
  rw [← List.map_take, List.map_map]
  congr 1
  apply List.map_congr_left
  intro v _
  simp [mvV, moveL]
theorem begB_moved (s t : Int) (vs : List Vb) {k : Nat} (hk : k < vs.length) : begB (vs.map (mvV s t)) k = begB vs k := by
  rcases Nat.eq_zero_or_pos k with h | h
  · subst h; rfl
  · rw [begB_pos h hk, begB_pos h (by simpa using hk)]
    simp [mvV]
theorem pathOk_moved {s t : Int} {vs : List Vb} (h : pathOk vs = true) : pathOk (vs.map (mvV s t)) = movesOk s t vs := by
  have hto : vbsTo vs vs.length := by
    unfold pathOk at h
    simp only [Bool.and_eq_true, List.all_eq_true, List.mem_range, decide_eq_true_eq] at h
    exact fun i hi => h.1.1 i hi
  have h2 := h
  rw [pathOk_all hto] at h2
  simp only [Bool.and_eq_true, decide_eq_true_eq] at h2
  have hat : ∀ (i : Nat) (hi : i < vs.length), vbOk (vs.map (mvV s t)) i = psB (moveL s t vs[i].2) := by
    intro i hi
    have h3 := hto i hi
    rw [vbOk_at hi] at h3
    simp only [Bool.and_eq_true] at h3
    rw [vbOk_at (by simpa using hi), begB_moved s t vs hi]
    simp only [List.getElem_map]
    have e1 : (mvV s t vs[i]).1 = vs[i].1 := rfl
    have e2 : (mvV s t vs[i]).2.length = vs[i].2.length := moveL_len s t _
    rw [e1, e2, h3.1.1.1, h3.1.1.2, h3.2]
    simp [mvV]
  by_cases hm : movesOk s t vs = true
  · rw [hm, pathOk_all (fun i hi => by
      simp only [List.length_map] at hi
      rw [hat i hi]
      exact List.all_eq_true.1 hm _ (List.getElem_mem hi))]
    rw [List.length_map, ptsTo_moved]
    simp [h2.1, h2.2]
  · have hf : movesOk s t vs = false := by simpa using hm
    rw [hf]
    obtain ⟨v, hv, hp⟩ := List.all_eq_false.1 hf
    obtain ⟨i, hi, rfl⟩ := List.getElem_of_mem hv
    exact pathOk_no (k := i) (by simpa using hi) (by rw [hat i hi]; simpa using hp)
theorem movedV_no {s t : Int} {vs : List Vb} (h : movedVB s t vs = false) : movedV s t vs = ([], false) := by simp [movedV, h]
theorem movedV_yes {s t : Int} {vs : List Vb} (h : movedVB s t vs = true) : movedV s t vs = (vs.map (mvV s t), true) := by simp [movedV, h]
theorem movesOk_at {s t : Int} {vs : List Vb} {k : Nat} (hk : k < vs.length) (h : psB (moveL s t vs[k].2) = false) : movesOk s t vs = false :=
  List.all_eq_false.2 ⟨vs[k], List.getElem_mem hk, by simpa using h⟩
theorem movesOk_all {s t : Int} {vs : List Vb} (h : ∀ (k : Nat) (hk : k < vs.length), psB (moveL s t vs[k].2) = true) : movesOk s t vs = true :=
  List.all_eq_true.2 fun v hv => by
    obtain ⟨i, hi, rfl⟩ := List.getElem_of_mem hv
    exact h i hi
/-- Moved and moved back. -/
theorem moveL_back (s t : Int) (r : Rg) : moveL (-s) (-t) (moveL s t r) = r := by
  unfold moveL
  rw [List.map_map]
  conv => rhs; rw [← List.map_id r]
  apply List.map_congr_left
  intro p _
  simp only [Function.comp, mvP, id]
  obtain ⟨x, y⟩ := p
  simp only [Prod.mk.injEq]
  omega
theorem mvV_back (s t : Int) (vs : List Vb) : (vs.map (mvV s t)).map (mvV (-s) (-t)) = vs := by
  rw [List.map_map]
  conv => rhs; rw [← List.map_id vs]
  apply List.map_congr_left
  intro v _
  simp only [Function.comp, mvV, moveL_back, id]
theorem movedV_back {s t : Int} {vs : List Vb} (h : movedVB s t vs = true) : movedV (-s) (-t) (vs.map (mvV s t)) = (vs, true) := by
  unfold movedVB at h
  simp only [Bool.and_eq_true, inB_iff] at h
  obtain ⟨⟨⟨h1, h2⟩, h3⟩, h4⟩ := h
  have hto : vbsTo vs vs.length := by
    have h := h1
    unfold pathOk at h
    simp only [Bool.and_eq_true, List.all_eq_true, List.mem_range, decide_eq_true_eq] at h
    exact fun i hi => h.1.1 i hi
  rw [movedV_yes, mvV_back]
  unfold movedVB
  simp only [Bool.and_eq_true, inB_iff]
  refine ⟨⟨⟨by rw [pathOk_moved h1]; exact h4, by omega⟩, by omega⟩, movesOk_all fun k hk => ?_⟩
  simp only [List.length_map] at hk
  have h5 := hto k hk
  rw [vbOk_at hk] at h5
  simp only [Bool.and_eq_true] at h5
  simp only [List.getElem_map, mvV, moveL_back]
  exact h5.1.2
end Go.Proofs.Ytalicpgnjpgloaa
