/-
  Convex polygons: the program's way and the reference's way say the same.
-/
import Derived.Test.YtalicpgnjpgloaaConvL
namespace Go.Proofs.Ytalicpgnjpgloaa
open Go

theorem signL_cases (n : Int) : (n = 0 ∧ signL n = 0) ∨ (0 < n ∧ signL n = 1) ∨ (n < 0 ∧ signL n = -1) := by unfold signL; omega
theorem signL_ne {a b : Int} (ha : a ≠ 0) (hb : b ≠ 0) : signL a ≠ signL b ↔ ¬ (0 < a ↔ 0 < b) := by
  rcases signL_cases a with h | h | h <;> rcases signL_cases b with h' | h' | h' <;> omega

theorem good_iff (ps : List Pt) (h : 0 < ps.length) : goodS ps ps.length = (decide (firstI ps ≠ 0) && goodI ps ps.length) := by
  rw [Bool.eq_iff_iff, Bool.and_eq_true, decide_eq_true_eq]
  constructor
  · intro hg
    have hl := goodS_at hg (j := ps.length - 1) (by omega)
    have h0 := goodS_at hg (j := 0) h
    refine ⟨?_, ?_⟩
    · unfold firstI
      have := signL_cases (crs ps (ps.length - 1))
      omega
    · simp only [goodI, List.all_eq_true, List.mem_range, decide_eq_true_eq]
      intro j hj
      have hj' := goodS_at hg hj
      unfold firstI
      by_cases hne : signL (crs ps j) = signL (crs ps (ps.length - 1))
      · exact hne
      · have := (signL_ne hj'.1 hl.1).1 hne
        exact absurd (hj'.2.trans hl.2.symm) this
  · rintro ⟨hf, hg⟩
    simp only [goodS, List.all_eq_true, List.mem_range, Bool.and_eq_true, decide_eq_true_eq]
    intro j hj
    have hj' := goodI_at hg hj
    have h0 := goodI_at hg h
    have e : signL (crs ps j) = signL (crs ps 0) := hj'.trans h0.symm
    have c1 := signL_cases (crs ps j)
    have c2 := signL_cases (crs ps 0)
    rw [← hj'] at hf
    omega

/-- How often the next one differs from the one before, the first one's being p. -/
def cnt (p : Int) : List Int → Int
  | [] => 0
  | s :: l => (if p ≠ s then 1 else 0) + cnt s l
theorem cnt_snoc (s : Int) : ∀ (l : List Int) (p : Int), cnt p (l ++ [s]) = cnt p l + if (l.getLast?.getD p) ≠ s then 1 else 0
  | [], p => by by_cases h : p = s <;> simp [cnt, h]
  | a :: l, p => by
    have e : ((a :: l).getLast?.getD p) = l.getLast?.getD a := by
      cases l with
      | nil => rfl
      | cons b l => simp [List.getLast?_cons]
    rw [List.cons_append, cnt, cnt_snoc s l a, cnt, e]; omega

theorem way_step (ps : List Pt) (s : Int × Int) (i : Nat) (p : Int) (ws : List Int) (hs : signL s.2 = ws.getLast?.getD p) :
    signL (stepT ps s i).2 = (ws ++ wayAt ps i).getLast?.getD p := by
  unfold stepT wayAt
  dsimp only
  by_cases hd : (cyc ps i).2 = (cyc ps (i + 1)).2
  · rw [if_pos (by omega), if_pos hd, List.append_nil]; exact hs
  · rw [if_neg (by omega), if_neg hd]
    simp

theorem lap1 (ps : List Pt) (k : Nat) (hk : k ≤ ps.length) : (foldT ps k).1 = 0 ∧ signL (foldT ps k).2 = (waysI ps k).getLast?.getD 0 := by
  induction k with
  | zero => exact ⟨rfl, rfl⟩
  | succ k ih =>
    obtain ⟨h1, h2⟩ := ih (by omega)
    rw [foldT_succ, waysI_succ]
    refine ⟨?_, way_step ps _ k 0 _ h2⟩
    unfold stepT
    dsimp only
    split
    · exact h1
    · have : ¬ ps.length ≤ k := by omega
      simp [this, h1]

theorem wayAt_add (ps : List Pt) (i : Nat) : wayAt ps (ps.length + i) = wayAt ps i := by
  have e1 : cyc ps (ps.length + i) = cyc ps i := by rw [Nat.add_comm, cyc_add]
  have e2 : cyc ps (ps.length + i + 1) = cyc ps (i + 1) := by
    have : ps.length + i + 1 = (i + 1) + ps.length := by omega
    rw [this, cyc_add]
  simp [wayAt, e1, e2]

theorem waysI_nil {ps : List Pt} {k : Nat} (h : waysI ps k = []) {j : Nat} (hj : j < k) : wayAt ps j = [] := by
  unfold waysI at h
  rw [List.flatMap_eq_nil_iff] at h
  exact h j (List.mem_range.2 hj)

theorem lap2 (ps : List Pt) (j : Nat) (hj : j ≤ ps.length) :
    (foldT ps (ps.length + j)).1 = (if waysI ps ps.length = [] then 0 else cnt ((waysI ps ps.length).getLast?.getD 0) (waysI ps j)) ∧
    signL (foldT ps (ps.length + j)).2 = (waysI ps j).getLast?.getD ((waysI ps ps.length).getLast?.getD 0) := by
  induction j with
  | zero =>
    obtain ⟨h1, h2⟩ := lap1 ps ps.length (Nat.le_refl _)
    rw [Nat.add_zero]
    refine ⟨?_, by rw [h2]; simp [waysI]⟩
    rw [h1]; split <;> simp [waysI, cnt]
  | succ j ih =>
    obtain ⟨h1, h2⟩ := ih (by omega)
    rw [← Nat.add_assoc, foldT_succ, waysI_succ]
    have hw := wayAt_add ps j
    by_cases hd : (cyc ps (ps.length + j)).2 = (cyc ps (ps.length + j + 1)).2
    · have e : wayAt ps j = [] := by rw [← hw, wayAt, if_pos hd]
      have es : stepT ps (foldT ps (ps.length + j)) (ps.length + j) = foldT ps (ps.length + j) := by
        unfold stepT; dsimp only; rw [if_pos (by omega)]
      rw [es, e, List.append_nil]
      exact ⟨h1, h2⟩
    · have hne : waysI ps ps.length ≠ [] := fun h => by
        have := waysI_nil h (show j < ps.length by omega)
        rw [← hw, wayAt, if_neg hd] at this
        cases this
      have e : wayAt ps j = [signL ((cyc ps (ps.length + j + 1)).2 - (cyc ps (ps.length + j)).2)] := by rw [← hw, wayAt, if_neg hd]
      have hl0 : (waysI ps ps.length).getLast?.getD 0 ≠ 0 := by
        intro h0
        have hex : ∃ x, (waysI ps ps.length).getLast? = some x := by
          rw [← Option.isSome_iff_exists]; simpa using hne
        obtain ⟨x, hx⟩ := hex
        rw [hx] at h0
        have hm : x ∈ waysI ps ps.length := List.mem_of_getLast? hx
        unfold waysI at hm
        obtain ⟨i, _, hi⟩ := List.mem_flatMap.1 hm
        unfold wayAt at hi
        split at hi
        · cases hi
        · rename_i hni
          have : x = signL ((cyc ps (i + 1)).2 - (cyc ps i).2) := by simpa using hi
          have c := signL_cases ((cyc ps (i + 1)).2 - (cyc ps i).2)
          simp at h0
          omega
      have hall : ∀ x ∈ waysI ps j, x ≠ 0 := by
        intro x hx
        unfold waysI at hx
        obtain ⟨i, _, hi⟩ := List.mem_flatMap.1 hx
        unfold wayAt at hi
        split at hi
        · cases hi
        · have : x = signL ((cyc ps (i + 1)).2 - (cyc ps i).2) := by simpa using hi
          have c := signL_cases ((cyc ps (i + 1)).2 - (cyc ps i).2)
          omega
      have hlast : (waysI ps j).getLast?.getD ((waysI ps ps.length).getLast?.getD 0) ≠ 0 := by
        cases hg : (waysI ps j).getLast? with
        | none => simpa using hl0
        | some x => simpa using hall x (List.mem_of_getLast? hg)
      rw [e]
      have es : stepT ps (foldT ps (ps.length + j)) (ps.length + j) = (if (foldT ps (ps.length + j)).2 ≠ 0 ∧ ¬ (0 < (cyc ps (ps.length + j + 1)).2 - (cyc ps (ps.length + j)).2 ↔ 0 < (foldT ps (ps.length + j)).2) ∧ ps.length ≤ ps.length + j then (foldT ps (ps.length + j)).1 + 1 else (foldT ps (ps.length + j)).1, (cyc ps (ps.length + j + 1)).2 - (cyc ps (ps.length + j)).2) := by
        unfold stepT; dsimp only; rw [if_neg (by omega)]
      rw [es]
      generalize hD : (cyc ps (ps.length + j + 1)).2 - (cyc ps (ps.length + j)).2 = d at *
      generalize hS : foldT ps (ps.length + j) = s at *
      have hd0 : d ≠ 0 := by omega
      have hs0 : s.2 ≠ 0 := by
        intro h0
        rw [h0] at h2
        have c : signL 0 = 0 := rfl
        rw [c] at h2
        exact hlast h2.symm
      refine ⟨?_, by simp⟩
      rw [if_neg hne] at h1
      rw [if_neg hne, cnt_snoc, ← h2]
      have hiff := signL_ne hs0 hd0
      by_cases hc : signL s.2 = signL d
      · have hn : (0 < s.2 ↔ 0 < d) := by
          by_cases hq : (0 < s.2 ↔ 0 < d)
          · exact hq
          · exact absurd hc (hiff.2 hq)
        rw [if_neg (by rintro ⟨_, hq, _⟩; exact hq hn.symm), h1]
        simp [hc]
      · have hn := hiff.1 hc
        rw [if_pos ⟨hs0, fun hq => hn hq.symm, by omega⟩, h1]
        simp [hc]

theorem chg_eq (ws : List Int) : chg ws ws.length = if ws = [] then 0 else cnt (ws.getLast?.getD 0) ws := by
  cases ws with
  | nil => simp [chg]
  | cons a l =>
    have key : ∀ k, k ≤ l.length → chg (a :: l) k = cnt a (l.take k) ∧ (l.take k).getLast?.getD a = wcyc (a :: l) k := by
      intro k
      induction k with
      | zero => intro _; exact ⟨by simp [chg, cnt], by simp [wcyc]⟩
      | succ k ih =>
        intro hk
        obtain ⟨h1, h2⟩ := ih (by omega)
        have e : wcyc (a :: l) (k + 1) = l[k] := by
          rw [wcyc_at (m := k + 1) (by rw [Nat.mod_eq_of_lt (by simp; omega)]) (by simp; omega)]
          rfl
        rw [List.take_succ_eq_append_getElem (show k < l.length by omega)]
        refine ⟨?_, by rw [e, List.getLast?_append]; simp⟩
        rw [chg_succ, h1, cnt_snoc, h2, e]
    obtain ⟨h1, h2⟩ := key l.length (Nat.le_refl _)
    rw [List.take_length] at h1 h2
    rw [if_neg (by simp), List.length_cons, chg_succ, h1]
    have e0 : wcyc (a :: l) (l.length + 1) = a := by
      rw [wcyc_at (m := 0) (by simp) (by simp)]
      rfl
    have e1 : (a :: l).getLast?.getD 0 = l.getLast?.getD a := by
      cases l with
      | nil => rfl
      | cons b l => simp [List.getLast?_cons]
    rw [e0, cnt, e1, h2]; omega

theorem convex_eq (ps : List Pt) : specConvex ps = implConvex ps := by
  unfold specConvex implConvex
  by_cases h3 : 3 ≤ ps.length
  · have e : ps.length + ps.length = 2 * ps.length := by omega
    have h1 := (lap2 ps ps.length (Nat.le_refl _)).1
    rw [e] at h1
    rw [good_iff ps (by omega), h1, ← chg_eq, Bool.and_assoc]
  · simp [h3]

end Go.Proofs.Ytalicpgnjpgloaa
