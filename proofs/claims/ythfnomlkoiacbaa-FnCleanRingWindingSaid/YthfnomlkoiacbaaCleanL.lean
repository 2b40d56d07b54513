/-
  Clean polygons, in plain lists.
-/
import Derived.Test.YthfnomlkoiacbaaLib
namespace Go.Proofs.Ythfnomlkoiacbaa

def dotL (a b c : Pt) : Int := (b.1 - a.1) * (c.1 - b.1) + (b.2 - a.2) * (c.2 - b.2)
/-- b lies between a and c, on the line. -/
def ndB (a b c : Pt) : Bool := decide (crossL a b c = 0) && decide (0 ≤ dotL a b c)
def ndAt (ps : List Pt) (i : Nat) : Bool := ndB (ps.getD ((i + ps.length - 1) % ps.length) (0, 0)) (ps.getD i (0, 0)) (ps.getD ((i + 1) % ps.length) (0, 0))
/-- No point before k is needless. -/
def noNd (ps : List Pt) (k : Nat) : Prop := ∀ i, i < k → ndAt ps i = false
/-- The first needless point, if there are several points. -/
def fstNd (ps : List Pt) : Option Nat := if 1 < ps.length then (List.range ps.length).find? (fun i => ndAt ps i) else none
def cleanN : Nat → List Pt → List Pt
  | 0, ps => ps
  | k + 1, ps => match fstNd ps with
    | none => ps
    | some i => cleanN k (ps.eraseIdx i)
def cleanL (ps : List Pt) : List Pt := cleanN ps.length ps
def cleanR (ps : List Pt) : List Pt := if psB ps then cleanL ps else []

theorem fstNd_none {ps : List Pt} (h : ps.length ≤ 1 ∨ noNd ps ps.length) : fstNd ps = none := by
  unfold fstNd
  split
  · rcases h with h | h
    · omega
    · rw [List.find?_eq_none]
      intro i hi
      have := h i (by simpa using hi)
      simp [this]
  · rfl
theorem fstNd_some {ps : List Pt} {k : Nat} (h1 : 1 < ps.length) (hk : k < ps.length) (h : noNd ps k) (h2 : ndAt ps k = true) : fstNd ps = some k := by
  unfold fstNd
  rw [if_pos h1, List.find?_range_eq_some]
  refine ⟨h2, by simpa using hk, fun j hj => by simp [h j hj]⟩
theorem fstNd_lt {ps : List Pt} {k : Nat} (h : fstNd ps = some k) : k < ps.length ∧ 1 < ps.length ∧ ndAt ps k = true := by
  unfold fstNd at h
  split at h
  · rw [List.find?_range_eq_some] at h
    exact ⟨by simpa using h.2.1, by assumption, h.1⟩
  · cases h
theorem noNd_of_none {ps : List Pt} (h : fstNd ps = none) (h1 : 1 < ps.length) : noNd ps ps.length := by
  unfold fstNd at h
  rw [if_pos h1, List.find?_eq_none] at h
  intro i hi
  have := h i (by simpa using hi)
  simpa using this
theorem cleanL_none {ps : List Pt} (h : fstNd ps = none) : cleanL ps = ps := by
  unfold cleanL
  cases ps.length <;> simp [cleanN, h]
theorem cleanL_some {ps : List Pt} {k : Nat} (h : fstNd ps = some k) : cleanL ps = cleanL (ps.eraseIdx k) := by
  obtain ⟨hk, _, _⟩ := fstNd_lt h
  unfold cleanL
  have e : ps.length = (ps.eraseIdx k).length + 1 := by rw [List.length_eraseIdx_of_lt hk]; omega
  conv => lhs; rw [e]
  simp [cleanN, h]
theorem noNd_succ {ps : List Pt} {k : Nat} (h : noNd ps k) (hk : ndAt ps k = false) : noNd ps (k + 1) := by
  intro i hi
  by_cases h' : i = k
  · subst h'; exact hk
  · exact h i (by omega)
theorem ndAt_eq {ps : List Pt} {k : Nat} (hk : k < ps.length) : ndAt ps k = ndB (ps[(k + ps.length - 1) % ps.length]'(Nat.mod_lt _ (by omega))) ps[k] (ps[(k + 1) % ps.length]'(Nat.mod_lt _ (by omega))) := by
  unfold ndAt
  rw [List.getD_eq_getElem?_getD, List.getD_eq_getElem?_getD, List.getD_eq_getElem?_getD, List.getElem?_eq_getElem (Nat.mod_lt _ (by omega)), List.getElem?_eq_getElem hk, List.getElem?_eq_getElem (Nat.mod_lt _ (by omega))]
  rfl
theorem psB_erase {ps : List Pt} (h : psB ps = true) (k : Nat) : psB (ps.eraseIdx k) = true := by
  simp only [psB, Bool.and_eq_true, List.all_eq_true, decide_eq_true_eq] at h ⊢
  exact ⟨fun x hx => h.1 x (List.mem_of_mem_eraseIdx hx), Nat.le_trans (List.length_eraseIdx_le ..) h.2⟩
theorem ndB_iff {a b c : Pt} : ndB a b c = true ↔ crossL a b c = 0 ∧ 0 ≤ dotL a b c := by simp [ndB]

end Go.Proofs.Ythfnomlkoiacbaa
