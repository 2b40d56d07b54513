/-
  Polygons of moved paths are moved polygons. Nothing of a program.
-/
import Derived.Test.YtalicpgnjpgloaaMovePL
import Derived.Test.YtalicpgnjpgloaaMg5
namespace Go.Proofs.Ytalicpgnjpgloaa
open Go Go.RowKit Reg
theorem midP_mv (s t : Int) (a b : Pt) : midP (mvP s t a) (mvP s t b) = mvP s t (midP a b) := by
  unfold midP mvP
  simp only [Prod.mk.injEq]
  omega
theorem midsL_mv (s t : Int) : ∀ (c : List Pt), midsL (moveL s t c) = moveL s t (midsL c)
  | [] => rfl
  | [_] => rfl
  | a :: b :: r => by
    have ih := midsL_mv s t (b :: r)
    show midP (mvP s t a) (mvP s t b) :: midsL (moveL s t (b :: r)) = mvP s t (midP a b) :: moveL s t (midsL (b :: r))
    rw [ih, midP_mv]
theorem headD_mv (s t : Int) {c : List Pt} (h : 0 < c.length) : (moveL s t c).headD (0, 0) = mvP s t (c.headD (0, 0)) := by
  cases c with
  | nil => simp at h
  | cons a c => rfl
theorem lastD_mv (s t : Int) {c : List Pt} (h : 0 < c.length) : (moveL s t c).getLastD (0, 0) = mvP s t (c.getLastD (0, 0)) := by
  have hl := moveL_len s t c
  rw [lastD_at (m := c.length - 1) (by omega) (by omega), lastD_at rfl (by omega)]
  simp [moveL]
theorem moveL_app (s t : Int) (a b : List Pt) : moveL s t (a ++ b) = moveL s t a ++ moveL s t b := by simp [moveL]
theorem splitN_mv (s t : Int) : ∀ (n : Nat) (now l r : List Pt), splitN n (moveL s t now) (moveL s t l) (moveL s t r) = (moveL s t (splitN n now l r).1, moveL s t (splitN n now l r).2)
  | 0, _, _, _ => rfl
  | n + 1, now, l, r => by
    by_cases h : 1 < now.length
    · have hm : 0 < (midsL now).length := by rw [midsL_len]; omega
      simp only [splitN, moveL_len, h, if_true]
      rw [midsL_mv, headD_mv s t hm, lastD_mv s t hm, ← splitN_mv s t n]
      congr 1
      rw [moveL_app]; rfl
    · rw [splitN_stop h, splitN_stop (by rw [moveL_len]; exact h)]
theorem splitL_mv (s t : Int) {c : List Pt} (h : 0 < c.length) : splitL (moveL s t c) = (moveL s t (splitL c).1, moveL s t (splitL c).2) := by
  unfold splitL
  rw [moveL_len, headD_mv s t h, lastD_mv s t h]
  exact splitN_mv s t c.length c [c.headD (0, 0)] [c.getLastD (0, 0)]
theorem bendAt_mv (s t : Int) {c : List Pt} {k : Nat} (h1 : 1 ≤ k) (h2 : k + 1 < c.length) : bendAt (moveL s t c) k = bendAt c k := by
  have hl := moveL_len s t c
  rw [bendAt_at h1 (by omega), bendAt_at h1 h2]
  simp only [moveL, List.getElem_map, mvP]
  congr 2 <;> omega
theorem bendK_mv (s t : Int) {c : List Pt} : ∀ (k : Nat), k + 1 ≤ c.length → bendK (moveL s t c) k = bendK c k
  | 0, _ => rfl
  | 1, _ => rfl
  | k + 2, h => by
    have e1 := bendK_succ (moveL s t c) (k := k + 1) (by omega)
    have e2 := bendK_succ c (k := k + 1) (by omega)
    rw [e1, e2, bendK_mv s t (k + 1) (by omega), bendAt_mv s t (by omega) (by omega)]
theorem bendL_mv (s t : Int) {c : List Pt} (h : 0 < c.length) : bendL (moveL s t c) = bendL c := by
  unfold bendL
  rw [moveL_len, bendK_mv s t _ (by omega)]
theorem flatL_mv (s t lim : Int) : ∀ (d : Nat) (c : List Pt), 0 < c.length → flatL lim d (moveL s t c) = moveL s t (flatL lim d c)
  | 0, c, h => by simp only [flatL]; rw [lastD_mv s t h]; rfl
  | d + 1, c, h => by
    obtain ⟨l1, l2⟩ := splitL_len (c := c) h
    simp only [flatL, bendL_mv s t h]
    split
    · rw [lastD_mv s t h]; rfl
    · rw [splitL_mv s t h, moveL_app]
      dsimp only
      rw [flatL_mv s t lim d _ (by omega), flatL_mv s t lim d _ (by omega)]
theorem ringsSt_mv {s t : Int} {vs : List Vb} : ∀ {k : Nat}, vbsTo vs k → k ≤ vs.length → ringsSt (vs.map (mvV s t)) k = ((ringsSt vs k).1.map (moveL s t), moveL s t (ringsSt vs k).2)
  | 0, _, _ => rfl
  | k + 1, hto, hk => by
    have hto' : vbsTo vs k := fun i hi => hto i (by omega)
    have ih := ringsSt_mv (s := s) (t := t) (k := k) hto' (by omega)
    obtain ⟨f1, f2, f3, f4⟩ := vbOk_facts (hto k (by omega)) (by omega)
    obtain ⟨_, _, _, i4, _⟩ := ringsSt_ok hto' (by omega)
    have hk2 : k < (vs.map (mvV s t)).length := by rw [List.length_map]; omega
    have e1 : ((vs.map (mvV s t))[k]'hk2).1 = vs[k].1 := by simp [mvV]
    have e2 : ((vs.map (mvV s t))[k]'hk2).2 = moveL s t vs[k].2 := by simp [mvV]
    by_cases h0 : vs[k].1 = 0
    · have hl : vs[k].2.length = 1 := by rw [f2, h0]; rfl
      rw [ringsSt_move hk2 (by rw [e1]; exact h0) (by rw [e2, moveL_len]; omega), ringsSt_move (by omega) h0 (by omega), ih]
      dsimp only
      have e3 : ((vs.map (mvV s t))[k]'hk2).2[0]'(by rw [e2, moveL_len]; omega) = mvP s t (vs[k].2[0]'(by omega)) := by simp [mvV, moveL]
      rw [e3, moveL_len]
      split
      · simp [moveL]
      · simp [moveL]
    · by_cases h4 : vs[k].1 = 4
      · rw [ringsSt_close hk2 (by rw [e1]; exact h4), ringsSt_close (by omega) h4, ih]
      · have hk0 : 0 < k := by
          rcases Nat.eq_zero_or_pos k with h | h
          · exact absurd (f4 h) h0
          · exact h
        rw [ringsSt_line hk2 (by rw [e1]; exact h0) (by rw [e1]; exact h4), ringsSt_line (by omega) h0 h4, ih, e2]
        dsimp only
        rw [lastD_mv s t (i4 hk0), moveL_app]
        have e3 : mvP s t ((ringsSt vs k).2.getLastD (0, 0)) :: moveL s t vs[k].2 = moveL s t ((ringsSt vs k).2.getLastD (0, 0) :: vs[k].2) := rfl
        rw [e3, flatL_mv s t 8 3 _ (by simp)]
theorem ringsL_mv {s t : Int} {vs : List Vb} (h : pathOk vs = true) : ringsL (vs.map (mvV s t)) = (ringsL vs).map (moveL s t) := by
  have := ringsSt_mv (s := s) (t := t) (pathOk_to h).1 (Nat.le_refl _)
  unfold ringsL
  rw [List.length_map, this]
  dsimp only
  rw [moveL_len]
  split
  · simp
  · rfl
end Go.Proofs.Ytalicpgnjpgloaa
