/-
  Convex polygons, in plain words: what the program and the reference compute, and that they agree.
-/
import Derived.Test.YtalicpgnjpgloaaLib
namespace Go.Proofs.Ytalicpgnjpgloaa
open Go

def cyc (ps : List Pt) (i : Nat) : Pt := ps.getD (i % ps.length) (0, 0)
theorem cyc_at {ps : List Pt} {i m : Nat} (hm : m = i % ps.length) (hl : m < ps.length) : cyc ps i = ps[m] := by
  subst hm
  simp [cyc, hl]
theorem cyc_add (ps : List Pt) (i : Nat) : cyc ps (i + ps.length) = cyc ps i := by simp [cyc]
def stepT (ps : List Pt) (s : Int × Int) (i : Nat) : Int × Int :=
  let d := (cyc ps (i + 1)).2 - (cyc ps i).2
  if d = 0 then s else (if s.2 ≠ 0 ∧ ¬ (0 < d ↔ 0 < s.2) ∧ ps.length ≤ i then s.1 + 1 else s.1, d)
def foldT (ps : List Pt) (k : Nat) : Int × Int := (List.range k).foldl (stepT ps) (0, 0)
theorem foldT_succ (ps : List Pt) (k : Nat) : foldT ps (k + 1) = stepT ps (foldT ps k) k := by simp [foldT, List.range_succ]
theorem foldT_bd (ps : List Pt) (k : Nat) : 0 ≤ (foldT ps k).1 ∧ (foldT ps k).1 ≤ k := by
  induction k with
  | zero => simp [foldT]
  | succ k ih =>
    rw [foldT_succ]
    unfold stepT
    dsimp only
    split
    · omega
    · dsimp only
      split <;> omega
def crs (ps : List Pt) (i : Nat) : Int := crossL (cyc ps i) (cyc ps (i + 1)) (cyc ps (i + 2))
def goodS (ps : List Pt) (k : Nat) : Bool := (List.range k).all fun j => decide (crs ps j ≠ 0) && decide (0 < crs ps j ↔ 0 < crs ps 0)
def sgnS (ps : List Pt) (k : Nat) : Int := if k = 0 then 0 else crs ps (k - 1)
/-- What the reference says. -/
def specConvex (ps : List Pt) : Bool := psB ps && (decide (3 ≤ ps.length) && (goodS ps ps.length && decide ((foldT ps (2 * ps.length)).1 = 2)))

theorem goodS_succ (ps : List Pt) (k : Nat) : goodS ps (k + 1) = (goodS ps k && (decide (crs ps k ≠ 0) && decide (0 < crs ps k ↔ 0 < crs ps 0))) := by
  simp [goodS, List.range_succ]
theorem goodS_at {ps : List Pt} {k j : Nat} (h : goodS ps k = true) (hj : j < k) : crs ps j ≠ 0 ∧ (0 < crs ps j ↔ 0 < crs ps 0) := by
  simp only [goodS, List.all_eq_true, List.mem_range, Bool.and_eq_true, decide_eq_true_eq] at h
  exact h j hj
theorem goodS_false {ps : List Pt} {k n : Nat} (hk : k < n) (h : ¬ (crs ps k ≠ 0 ∧ (0 < crs ps k ↔ 0 < crs ps 0))) : goodS ps n = false := by
  cases hg : goodS ps n with
  | false => rfl
  | true => exact absurd (goodS_at hg hk) h
/-- One round: c is not 0 and has the sign of the one before. -/
theorem goodS_step {ps : List Pt} {k : Nat} (h : goodS ps k = true) (h0 : crs ps k ≠ 0) (hs : sgnS ps k ≠ 0 → (0 < crs ps k ↔ 0 < sgnS ps k)) : goodS ps (k + 1) = true := by
  rw [goodS_succ, h]
  by_cases hk : k = 0
  · subst hk; simp [h0]
  · have h1 := goodS_at h (j := k - 1) (by omega)
    have e : sgnS ps k = crs ps (k - 1) := by simp [sgnS, hk]
    rw [e] at hs
    have := hs h1.1
    simp [h0, this, h1.2]
theorem goodS_stop {ps : List Pt} {k n : Nat} (h : goodS ps k = true) (hk : k < n) (hs : crs ps k = 0 ∨ (sgnS ps k ≠ 0 ∧ ¬ (0 < crs ps k ↔ 0 < sgnS ps k))) : goodS ps n = false := by
  refine goodS_false hk ?_
  rintro ⟨h1, h2⟩
  rcases hs with hs | ⟨hs, hn⟩
  · exact h1 hs
  · by_cases h0 : k = 0
    · subst h0; simp [sgnS] at hs
    · have h3 := goodS_at h (j := k - 1) (by omega)
      have e : sgnS ps k = crs ps (k - 1) := by simp [sgnS, h0]
      rw [e] at hn
      exact hn (by rw [h2, h3.2])
theorem sgnS_succ (ps : List Pt) (k : Nat) : sgnS ps (k + 1) = crs ps k := by simp [sgnS]

/-! ### the program's way -/
def firstI (ps : List Pt) : Int := signL (crs ps (ps.length - 1))
def goodI (ps : List Pt) (k : Nat) : Bool := (List.range k).all fun j => decide (signL (crs ps j) = firstI ps)
def wayAt (ps : List Pt) (i : Nat) : List Int := if (cyc ps i).2 = (cyc ps (i + 1)).2 then [] else [signL ((cyc ps (i + 1)).2 - (cyc ps i).2)]
def waysI (ps : List Pt) (k : Nat) : List Int := (List.range k).flatMap (wayAt ps)
def wcyc (ws : List Int) (i : Nat) : Int := ws.getD (i % ws.length) 0
def chg (ws : List Int) (k : Nat) : Int := ((List.range k).filter fun i => decide (wcyc ws i ≠ wcyc ws (i + 1))).length
/-- What the program says. -/
def implConvex (ps : List Pt) : Bool := psB ps && (decide (3 ≤ ps.length) && (decide (firstI ps ≠ 0) && (goodI ps ps.length && decide (chg (waysI ps ps.length) (waysI ps ps.length).length = 2))))

theorem goodI_succ (ps : List Pt) (k : Nat) : goodI ps (k + 1) = (goodI ps k && decide (signL (crs ps k) = firstI ps)) := by simp [goodI, List.range_succ]
theorem goodI_at {ps : List Pt} {k j : Nat} (h : goodI ps k = true) (hj : j < k) : signL (crs ps j) = firstI ps := by
  simp only [goodI, List.all_eq_true, List.mem_range, decide_eq_true_eq] at h
  exact h j hj
theorem goodI_false {ps : List Pt} {k n : Nat} (hk : k < n) (h : signL (crs ps k) ≠ firstI ps) : goodI ps n = false := by
  cases hg : goodI ps n with
  | false => rfl
  | true => exact absurd (goodI_at hg hk) h
theorem waysI_succ (ps : List Pt) (k : Nat) : waysI ps (k + 1) = waysI ps k ++ wayAt ps k := by simp [waysI, List.range_succ]
theorem waysI_len (ps : List Pt) (k : Nat) : (waysI ps k).length ≤ k := by
  induction k with
  | zero => simp [waysI]
  | succ k ih =>
    rw [waysI_succ, List.length_append]
    have : (wayAt ps k).length ≤ 1 := by unfold wayAt; split <;> simp
    omega
theorem chg_succ (ws : List Int) (k : Nat) : chg ws (k + 1) = chg ws k + if wcyc ws k ≠ wcyc ws (k + 1) then 1 else 0 := by
  unfold chg
  rw [List.range_succ, List.filter_append, List.length_append]
  by_cases h : wcyc ws k = wcyc ws (k + 1) <;> simp [h]
theorem chg_bd (ws : List Int) (k : Nat) : 0 ≤ chg ws k ∧ chg ws k ≤ k := by
  induction k with
  | zero => simp [chg]
  | succ k ih => rw [chg_succ]; split <;> omega
theorem wcyc_at {ws : List Int} {i m : Nat} (hm : m = i % ws.length) (hl : m < ws.length) : wcyc ws i = ws[m] := by
  subst hm
  simp [wcyc, hl]
theorem firstI_eq {ps : List Pt} (h3 : 3 ≤ ps.length) {m : Nat} (hm : m = ps.length - 1) (hml : m < ps.length) : firstI ps = signL (crossL ps[m] (ps[0]'(by omega)) (ps[1]'(by omega))) := by
  unfold firstI crs
  have e1 : ps.length - 1 + 1 = ps.length := by omega
  have e2 : ps.length - 1 + 2 = 1 + ps.length := by omega
  rw [e1, e2, cyc_at (m := m) (by rw [← hm, Nat.mod_eq_of_lt hml]) hml, cyc_at (m := 0) (by simp) (by omega), cyc_at (m := 1) (by rw [Nat.add_mod_right, Nat.mod_eq_of_lt (by omega)]) (by omega)]
theorem signL_bd (n : Int) : -1 ≤ signL n ∧ signL n ≤ 1 := by unfold signL; omega

end Go.Proofs.Ytalicpgnjpgloaa
