/-
  Curves as the program divides them, and lists turned round, plainly. Nothing of a program.
-/
import Derived.Test.YtjjnfjnoagfajaaCurveL
namespace Go.Proofs.Ytjjnfjnoagfajaa
open Go Go.RowKit Reg
/-- The state of the division: the points still to be halved, the first points so far, the last points so far. -/
def SplR (c now l m : List Pt) : Prop := if 0 < now.length then splitN c.length now (l ++ [now.headD (0, 0)]) (now.getLastD (0, 0) :: m.reverse) = splitL c else splitL c = (l, m.reverse)
theorem splR_start {c : List Pt} (h : 1 ≤ c.length) : SplR c c [] [] := by
  unfold SplR
  rw [if_pos (by omega)]
  rfl
theorem splR_step {c now l m : List Pt} (h : SplR c now l m) (h1 : 1 ≤ now.length) (hn : now.length ≤ c.length) : SplR c (midsL now) (l ++ [now.headD (0, 0)]) (m ++ [now.getLastD (0, 0)]) := by
  unfold SplR at *
  rw [if_pos (by omega)] at h
  rw [List.reverse_append, List.reverse_singleton, List.singleton_append, midsL_len]
  by_cases h2 : 1 < now.length
  · rw [if_pos (by omega), ← splitN_step h2 hn, h]
  · rw [if_neg (by omega), ← h, splitN_stop h2]
theorem splR_stop {c now l m : List Pt} (h : SplR c now l m) (h1 : ¬ 0 < now.length) : splitL c = (l, m.reverse) := by
  unfold SplR at h
  rwa [if_neg h1] at h
/-- The points on a curve, the first one too. -/
def flatI (limit : Int) (d : Nat) (c : List Pt) : List Pt := c.headD (0, 0) :: flatL limit d c
theorem flatI_len (limit : Int) (d : Nat) (c : List Pt) : (flatI limit d c).length = (flatL limit d c).length + 1 := rfl
theorem flatI_zero (limit : Int) (c : List Pt) : flatI limit 0 c = [c.headD (0, 0), c.getLastD (0, 0)] := rfl
theorem flatI_flat {limit : Int} {d : Nat} {c : List Pt} (h : bendL c ≤ limit) : flatI limit (d + 1) c = [c.headD (0, 0), c.getLastD (0, 0)] := by rw [flatI, flatL, if_pos h]
theorem flatI_bent {limit : Int} {d : Nat} {c : List Pt} (h : ¬ bendL c ≤ limit) : flatI limit (d + 1) c = flatI limit d (splitL c).1 ++ (flatI limit d (splitL c).2).drop 1 := by
  rw [flatI, flatL, if_neg h, flatI, flatI, splitL_head]; rfl
/-- The first k and the last k points have changed places. -/
def revK (r : List Pt) (k : Nat) : List Pt := (List.range r.length).map fun t => if t < k ∨ r.length - 1 - t < k then r.getD (r.length - 1 - t) (0, 0) else r.getD t (0, 0)
theorem revK_len (r : List Pt) (k : Nat) : (revK r k).length = r.length := by simp [revK]
theorem revK_get {r : List Pt} {k t : Nat} (h : t < r.length) : (revK r k)[t]'(by rw [revK_len]; exact h) = if t < k ∨ r.length - 1 - t < k then r.getD (r.length - 1 - t) (0, 0) else r.getD t (0, 0) := by simp [revK]
theorem getD_at {r : List Pt} {t : Nat} (h : t < r.length) : r.getD t (0, 0) = r[t] := by rw [List.getD_eq_getElem?_getD, List.getElem?_eq_getElem h]; rfl
theorem revK_zero (r : List Pt) : revK r 0 = r := by
  refine List.ext_getElem (revK_len r 0) fun t h1 h2 => ?_
  rw [revK_get h2, if_neg (by omega), getD_at h2]
theorem revK_succ {r : List Pt} {k : Nat} (h : 2 * k + 1 < r.length) : ((revK r k).set k ((revK r k)[r.length - 1 - k]'(by rw [revK_len]; omega))).set (r.length - 1 - k) ((revK r k)[k]'(by rw [revK_len]; omega)) = revK r (k + 1) := by
  refine List.ext_getElem (by simp [revK_len]) fun t h1 h2 => ?_
  rw [revK_len] at h2
  rw [List.getElem_set, List.getElem_set, revK_get h2, revK_get (t := k) (by omega), revK_get (t := r.length - 1 - k) (by omega), revK_get h2]
  by_cases e1 : r.length - 1 - k = t
  · rw [if_pos e1, if_neg (by omega), if_pos (by omega)]
    congr 1; omega
  · rw [if_neg e1]
    by_cases e2 : k = t
    · rw [if_pos e2, if_neg (by omega), if_pos (by omega), e2]
    · rw [if_neg e2]
      by_cases e3 : t < k ∨ r.length - 1 - t < k
      · rw [if_pos e3, if_pos (by omega)]
      · rw [if_neg e3, if_neg (by omega)]
theorem revK_all {r : List Pt} {k : Nat} (h : r.length ≤ 2 * k + 1) : revK r k = r.reverse := by
  refine List.ext_getElem (by simp [revK_len]) fun t h1 h2 => ?_
  rw [revK_len] at h1
  rw [revK_get h1, List.getElem_reverse]
  by_cases e : t < k ∨ r.length - 1 - t < k
  · rw [if_pos e, getD_at (by omega)]
  · rw [if_neg e, getD_at h1]
    congr 1; omega
end Go.Proofs.Ytjjnfjnoagfajaa
