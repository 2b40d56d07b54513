/-
  Curves flattened from both ends. Nothing of a program.
-/
import Derived.Test.YtmoobdohhnficaaCurveM
namespace Go.Proofs.Ytmoobdohhnficaa
open Go Go.RowKit Reg
theorem midP_comm (a b : Pt) : midP a b = midP b a := by
  unfold midP
  simp only [Prod.mk.injEq]
  omega
theorem midsL_rev (c : List Pt) : midsL c.reverse = (midsL c).reverse := by
  refine List.ext_getElem (by simp [midsL_len]) fun k h1 h2 => ?_
  rw [midsL_len, List.length_reverse] at h1
  rw [midsL_get _ _ (by rw [List.length_reverse]; omega), List.getElem_reverse, List.getElem_reverse, List.getElem_reverse, midP_comm]
  have e := midsL_get c ((midsL c).length - 1 - k) (by rw [midsL_len]; omega)
  rw [e]
  simp only [midsL_len]
  congr 2 <;> omega
theorem headD_rev {c : List Pt} (h : 0 < c.length) : c.reverse.headD (0, 0) = c.getLastD (0, 0) := by
  rw [headD_at (by simpa using h), lastD_at rfl (by omega), List.getElem_reverse]
  congr 1
theorem lastD_rev {c : List Pt} (h : 0 < c.length) : c.reverse.getLastD (0, 0) = c.headD (0, 0) := by
  rw [headD_at h, lastD_at (c := c.reverse) rfl (by simp; omega), List.getElem_reverse]
  simp only [List.length_reverse]
  congr 1; omega
theorem splitN_rev : ∀ (n : Nat) (now l r : List Pt), splitN n now.reverse r.reverse l.reverse = ((splitN n now l r).2.reverse, (splitN n now l r).1.reverse)
  | 0, _, _, _ => rfl
  | n + 1, now, l, r => by
    by_cases h : 1 < now.length
    · have hm : 0 < (midsL now).length := by rw [midsL_len]; omega
      simp only [splitN, List.length_reverse, h, if_true]
      rw [midsL_rev, headD_rev hm, lastD_rev hm, ← splitN_rev n]
      congr 1
      · simp
      · simp
    · rw [splitN_stop h, splitN_stop (by simpa using h)]
theorem splitL_rev {c : List Pt} (h : 0 < c.length) : splitL c.reverse = ((splitL c).2.reverse, (splitL c).1.reverse) := by
  unfold splitL
  rw [List.length_reverse, headD_rev h, lastD_rev h]
  exact splitN_rev c.length c [c.headD (0, 0)] [c.getLastD (0, 0)]
theorem bendK_iff (c : List Pt) (L : Int) : ∀ (k : Nat), bendK c k ≤ L ↔ 0 ≤ L ∧ ∀ i, 1 ≤ i → i < k → bendAt c i ≤ L
  | 0 => ⟨fun h => ⟨h, fun i h1 h2 => by omega⟩, fun h => h.1⟩
  | 1 => ⟨fun h => ⟨h, fun i h1 h2 => by omega⟩, fun h => h.1⟩
  | k + 2 => by
    have e := bendK_succ c (k := k + 1) (by omega)
    have ih := bendK_iff c L (k + 1)
    rw [e]
    constructor
    · intro h
      have h1 := ih.1 (by omega)
      refine ⟨h1.1, fun i hi hk => ?_⟩
      by_cases h2 : i < k + 1
      · exact h1.2 i hi h2
      · obtain rfl : i = k + 1 := by omega
        omega
    · intro h
      have h1 := ih.2 ⟨h.1, fun i hi hk => h.2 i hi (by omega)⟩
      have h2 := h.2 (k + 1) (by omega) (by omega)
      omega
theorem bendAt_rev {c : List Pt} {k : Nat} (h1 : 1 ≤ k) (h2 : k + 1 < c.length) : bendAt c.reverse k = bendAt c (c.length - 1 - k) := by
  rw [bendAt_at h1 (by simpa using h2), bendAt_at (by omega) (by omega)]
  simp only [List.getElem_reverse]
  have e1 : c.length - 1 - (k - 1) = c.length - 1 - k + 1 := by omega
  have e2 : c.length - 1 - (k + 1) = c.length - 1 - k - 1 := by omega
  simp only [e1, e2]
  congr 2 <;> omega
theorem bendL_rev (c : List Pt) (L : Int) : bendL c.reverse ≤ L ↔ bendL c ≤ L := by
  unfold bendL
  rw [List.length_reverse, bendK_iff, bendK_iff]
  constructor
  · rintro ⟨h0, h⟩
    refine ⟨h0, fun i h1 h2 => ?_⟩
    have := h (c.length - 1 - i) (by omega) (by omega)
    rw [bendAt_rev (by omega) (by omega)] at this
    have e : c.length - 1 - (c.length - 1 - i) = i := by omega
    rwa [e] at this
  · rintro ⟨h0, h⟩
    refine ⟨h0, fun i h1 h2 => ?_⟩
    rw [bendAt_rev h1 (by omega)]
    exact h _ (by omega) (by omega)
theorem lastD_snoc (l : List Pt) (a : Pt) : (l ++ [a]).getLastD (0, 0) = a := by simp
theorem lastD_cons {l : List Pt} (a : Pt) (h : 0 < l.length) : (a :: l).getLastD (0, 0) = l.getLastD (0, 0) := by
  cases l with
  | nil => simp at h
  | cons b l => simp
theorem splitN_ends : ∀ (n : Nat) (now l r : List Pt), 1 ≤ now.length → now.length ≤ n + 1 → l.getLastD (0, 0) = now.headD (0, 0) → r.headD (0, 0) = now.getLastD (0, 0) → 0 < r.length →
    (splitN n now l r).1.getLastD (0, 0) = (splitN n now l r).2.headD (0, 0) ∧ (splitN n now l r).2.getLastD (0, 0) = r.getLastD (0, 0)
  | 0, now, l, r, h1, h2, h3, h4, h5 => by
    obtain ⟨a, rfl⟩ : ∃ a, now = [a] := by
      match now, h1, h2 with
      | [a], _, _ => exact ⟨a, rfl⟩
    refine ⟨?_, rfl⟩
    show l.getLastD (0, 0) = r.headD (0, 0)
    rw [h3, h4]; rfl
  | n + 1, now, l, r, h1, h2, h3, h4, h5 => by
    by_cases h : 1 < now.length
    · simp only [splitN, h, if_true]
      obtain ⟨a, b⟩ := splitN_ends n (midsL now) (l ++ [(midsL now).headD (0, 0)]) ((midsL now).getLastD (0, 0) :: r) (by rw [midsL_len]; omega) (by rw [midsL_len]; omega) (lastD_snoc _ _) rfl (by simp)
      exact ⟨a, by rw [b, lastD_cons _ h5]⟩
    · obtain ⟨a, rfl⟩ : ∃ a, now = [a] := by
        match now, h1, h with
        | [a], _, _ => exact ⟨a, rfl⟩
        | _ :: _ :: _, _, h => exact absurd (by simp) h
      rw [splitN_stop h]
      exact ⟨by rw [h3, h4]; rfl, rfl⟩
theorem splitL_ends {c : List Pt} (h : 0 < c.length) : (splitL c).1.getLastD (0, 0) = (splitL c).2.headD (0, 0) ∧ (splitL c).2.getLastD (0, 0) = c.getLastD (0, 0) := by
  have := splitN_ends c.length c [c.headD (0, 0)] [c.getLastD (0, 0)] h (by omega) (by simp) (by simp) (by simp)
  unfold splitL
  exact ⟨this.1, by rw [this.2]; simp⟩
theorem lastD_app {a b : List Pt} (h : 0 < b.length) : (a ++ b).getLastD (0, 0) = b.getLastD (0, 0) := by
  have hb : b ≠ [] := by intro hh; subst hh; simp at h
  simp [List.getLastD_eq_getLast?, List.getLast?_append, List.getLast?_eq_some_getLast hb]
theorem flatL_last (lim : Int) : ∀ (d : Nat) (c : List Pt), 0 < c.length → (flatL lim d c).getLastD (0, 0) = c.getLastD (0, 0)
  | 0, c, _ => by simp [flatL]
  | d + 1, c, h => by
    obtain ⟨l1, l2⟩ := splitL_len (c := c) h
    simp only [flatL]
    split
    · simp
    · rw [lastD_app (by have := (flatL_len lim d (splitL c).2).1; omega), flatL_last lim d _ (by omega), (splitL_ends h).2]
theorem flatI_rev (lim : Int) : ∀ (d : Nat) (c : List Pt), 0 < c.length → flatI lim d c.reverse = (flatI lim d c).reverse
  | 0, c, h => by
    rw [flatI_zero, flatI_zero, headD_rev h, lastD_rev h]; rfl
  | d + 1, c, h => by
    obtain ⟨l1, l2⟩ := splitL_len (c := c) h
    by_cases hb : bendL c ≤ lim
    · rw [flatI_flat hb, flatI_flat ((bendL_rev c lim).2 hb), headD_rev h, lastD_rev h]; rfl
    · rw [flatI_bent hb, flatI_bent (fun hh => hb ((bendL_rev c lim).1 hh)), splitL_rev h]
      dsimp only
      rw [flatI_rev lim d _ (by omega), flatI_rev lim d _ (by omega), List.reverse_append]
      have hm := (splitL_ends h).1
      have e1 : flatI lim d (splitL c).2 = (splitL c).2.headD (0, 0) :: flatL lim d (splitL c).2 := rfl
      have hlast : (flatI lim d (splitL c).1).getLastD (0, 0) = (splitL c).1.getLastD (0, 0) := by
        have := (flatL_len lim d (splitL c).1).1
        unfold flatI
        rw [lastD_cons _ (by omega), flatL_last lim d _ (by omega)]
      have hne : flatI lim d (splitL c).1 ≠ [] := by unfold flatI; simp
      have e2 : (flatI lim d (splitL c).1).reverse = (splitL c).1.getLastD (0, 0) :: (flatI lim d (splitL c).1).reverse.drop 1 := by
        have hr := headD_rev (c := flatI lim d (splitL c).1) (by unfold flatI; simp)
        rw [hlast] at hr
        cases hx : (flatI lim d (splitL c).1).reverse with
        | nil => simp at hx; exact absurd hx hne
        | cons a t => rw [hx] at hr; simp at hr; subst hr; simp
      rw [e1, List.reverse_cons, List.append_assoc, ← hm]
      conv => rhs; rw [e2]
      rfl
end Go.Proofs.Ytmoobdohhnficaa
