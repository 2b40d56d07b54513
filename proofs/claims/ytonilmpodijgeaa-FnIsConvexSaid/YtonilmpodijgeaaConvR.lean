/-
  Convex polygons: reversed they are convex, too; and nothing of them is needless.
-/
import Derived.Test.YtonilmpodijgeaaConvE
import Derived.Test.YtonilmpodijgeaaCleanL
namespace Go.Proofs.Ytonilmpodijgeaa
open Go

/-! ### how often a row changes -/
def ch : List Int → Int
  | [] => 0
  | x :: l => cnt x l
theorem getLast_cons (a p : Int) (l : List Int) : (a :: l).getLast?.getD p = l.getLast?.getD a := by
  cases l with
  | nil => rfl
  | cons b l => simp [List.getLast?_cons]
theorem ch_snoc (s : List Int) (a : Int) : ch (s ++ [a]) = ch s + if s.getLast?.getD a ≠ a then 1 else 0 := by
  cases s with
  | nil => simp [ch, cnt]
  | cons x l =>
    rw [List.cons_append]
    show cnt x (l ++ [a]) = cnt x l + _
    rw [cnt_snoc, getLast_cons]
theorem ch_rev : ∀ s : List Int, ch s.reverse = ch s
  | [] => rfl
  | x :: l => by
    rw [List.reverse_cons, ch_snoc, ch_rev l]
    cases l with
    | nil => simp [ch, cnt]
    | cons y l =>
      rw [List.getLast?_reverse]
      show cnt y l + _ = cnt x (y :: l)
      simp only [cnt, List.head?_cons, Option.getD_some]
      by_cases h : x = y
      · subst h; simp
      · have h' : ¬ y = x := fun e => h e.symm
        simp [h, h']; omega
theorem fm_congr {l : List Nat} {f g : Nat → List Int} (h : ∀ i ∈ l, f i = g i) : l.flatMap f = l.flatMap g := by
  induction l with
  | nil => rfl
  | cons a l ih => rw [List.flatMap_cons, List.flatMap_cons, h a (by simp), ih fun i hi => h i (List.mem_cons_of_mem _ hi)]
/-- Round about. -/
def cyclic (ws : List Int) : Int := if ws = [] then 0 else cnt (ws.getLast?.getD 0) ws
theorem cyclic_rev (ws : List Int) : cyclic ws.reverse = cyclic ws := by
  cases ws with
  | nil => rfl
  | cons h t =>
    unfold cyclic
    rw [if_neg (by simp), if_neg (by simp), getLast_cons, List.getLast?_reverse]
    show ch ((([h] ++ t).head?.getD 0) :: (h :: t).reverse) = _
    have e : (h :: (h :: t).reverse) = ((h :: t) ++ [h]).reverse := by simp
    simp only [List.cons_append, List.nil_append, List.head?_cons, Option.getD_some]
    rw [e, ch_rev, ch_snoc, getLast_cons]
    show cnt h t + _ = _
    rw [cnt]; omega
theorem cyclic_rot (l : List Int) (s : Int) : cyclic (l ++ [s]) = cyclic (s :: l) := by
  unfold cyclic
  rw [if_neg (by simp), if_neg (by simp), getLast_cons, List.getLast?_concat, Option.getD_some, cnt_snoc, cnt]; omega
theorem cnt_neg (p : Int) : ∀ l : List Int, cnt (-p) (l.map fun x => -x) = cnt p l
  | [] => rfl
  | s :: l => by
    rw [List.map_cons, cnt, cnt, cnt_neg s l]
    by_cases h : p = s
    · subst h; simp
    · rw [if_pos (by omega), if_pos h]
theorem cyclic_neg (ws : List Int) : cyclic (ws.map fun x => -x) = cyclic ws := by
  cases ws with
  | nil => rfl
  | cons h t =>
    unfold cyclic
    rw [if_neg (by simp), if_neg (by simp), List.getLast?_map, getLast_cons]
    have e : ∀ x : Option Int, (x.map fun x => -x).getD 0 = - x.getD 0 := fun x => by cases x <;> simp
    rw [e, getLast_cons]
    exact cnt_neg _ _
theorem cyclic_comm (l v : List Int) (hv : v.length ≤ 1) : cyclic (v ++ l) = cyclic (l ++ v) := by
  match v, hv with
  | [], _ => simp
  | [s], _ => exact (cyclic_rot l s).symm

/-! ### the polygon reversed -/
theorem cyc_rev {ps : List Pt} {i j : Nat} (h0 : 0 < ps.length) (h : (i + j + 1) % ps.length = 0) : cyc ps.reverse i = cyc ps j := by
  have hi : i % ps.length < ps.length := Nat.mod_lt _ h0
  have hj : j % ps.length < ps.length := Nat.mod_lt _ h0
  have e : j % ps.length = ps.length - 1 - i % ps.length := by
    have h1 : (i % ps.length + j % ps.length + 1) % ps.length = 0 := by
      rw [← h]; simp [Nat.add_mod]
    generalize i % ps.length = a at *
    generalize j % ps.length = b at *
    rcases Nat.lt_or_ge (a + b + 1) ps.length with hlt | hge
    · rw [Nat.mod_eq_of_lt hlt] at h1; omega
    · rw [Nat.mod_eq_sub_mod hge] at h1
      rcases Nat.lt_or_ge (a + b + 1 - ps.length) ps.length with hlt2 | hge2
      · rw [Nat.mod_eq_of_lt hlt2] at h1; omega
      · omega
  unfold cyc
  rw [List.length_reverse, e, List.getD_eq_getElem?_getD, List.getD_eq_getElem?_getD, List.getElem?_reverse hi]
theorem crossL_rev (a b c : Pt) : crossL c b a = - crossL a b c := by
  unfold crossL
  have e1 : (b.1 - c.1) = -(c.1 - b.1) := by omega
  have e2 : (a.2 - b.2) = -(b.2 - a.2) := by omega
  have e3 : (b.2 - c.2) = -(c.2 - b.2) := by omega
  have e4 : (a.1 - b.1) = -(b.1 - a.1) := by omega
  rw [e1, e2, e3, e4, Int.neg_mul_neg, Int.neg_mul_neg, Int.mul_comm (c.1 - b.1), Int.mul_comm (c.2 - b.2)]
  omega
theorem crs_rev {ps : List Pt} {i j : Nat} (h0 : 0 < ps.length) (h : (i + j + 3) % ps.length = 0) : crs ps.reverse i = - crs ps j := by
  unfold crs
  rw [cyc_rev (j := j + 2) h0 (by rw [show i + (j + 2) + 1 = i + j + 3 by omega]; exact h), cyc_rev (j := j + 1) h0 (by rw [show i + 1 + (j + 1) + 1 = i + j + 3 by omega]; exact h), cyc_rev (j := j) h0 (by rw [show i + 2 + j + 1 = i + j + 3 by omega]; exact h)]
  exact crossL_rev _ _ _
theorem crs_mod (ps : List Pt) (i : Nat) : crs ps (i % ps.length) = crs ps i := by
  unfold crs cyc
  simp [Nat.add_mod]
theorem signL_neg (n : Int) : signL (-n) = - signL n := by unfold signL; omega
/-- All turn the same way. -/
theorem good_all (ps : List Pt) (h0 : 0 < ps.length) : (decide (firstI ps ≠ 0) && goodI ps ps.length) = true ↔ ∀ i j, signL (crs ps i) = signL (crs ps j) ∧ crs ps i ≠ 0 := by
  have hz : ∀ n, signL n = 0 ↔ n = 0 := fun n => by have := signL_cases n; omega
  constructor
  · intro h
    simp only [Bool.and_eq_true, decide_eq_true_eq] at h
    obtain ⟨h1, h2⟩ := h
    have key : ∀ i, signL (crs ps i) = firstI ps := fun i => by
      rw [← crs_mod]; exact goodI_at h2 (Nat.mod_lt _ h0)
    exact fun i j => ⟨by rw [key, key], fun h => h1 (by rw [← key i, h]; rfl)⟩
  · intro h
    simp only [Bool.and_eq_true, decide_eq_true_eq]
    refine ⟨fun h1 => (h (ps.length - 1) 0).2 ((hz _).1 h1), ?_⟩
    unfold goodI
    rw [List.all_eq_true]
    intro j _
    simp only [decide_eq_true_eq]
    exact (h j (ps.length - 1)).1
theorem good_rev {ps : List Pt} (h0 : 0 < ps.length) (h : ∀ i j, signL (crs ps i) = signL (crs ps j) ∧ crs ps i ≠ 0) : ∀ i j, signL (crs ps.reverse i) = signL (crs ps.reverse j) ∧ crs ps.reverse i ≠ 0 := by
  have ex : ∀ i, ∃ j, (i + j + 3) % ps.length = 0 := fun i => by
    refine ⟨(i + 3) * (ps.length - 1), ?_⟩
    obtain ⟨m, hm⟩ : ∃ m, ps.length = m + 1 := ⟨ps.length - 1, by omega⟩
    have e1 : (m + 1) * (i + 3) = m * (i + 3) + (i + 3) := Nat.succ_mul _ _
    have e2 : (i + 3) * m = m * (i + 3) := Nat.mul_comm _ _
    have e3 : i + (i + 3) * m + 3 = (m + 1) * (i + 3) := by omega
    rw [hm, Nat.add_sub_cancel, e3]
    exact Nat.mul_mod_right _ _
  intro i j
  obtain ⟨a, ha⟩ := ex i
  obtain ⟨b, hb⟩ := ex j
  rw [crs_rev h0 ha, crs_rev h0 hb, signL_neg, signL_neg, (h a b).1]
  exact ⟨rfl, fun hh => (h a b).2 (by omega)⟩
theorem wayAt_rev {ps : List Pt} {i j : Nat} (h0 : 0 < ps.length) (h : (i + j + 2) % ps.length = 0) : wayAt ps.reverse i = (wayAt ps j).map fun x => -x := by
  unfold wayAt
  rw [cyc_rev (i := i) (j := j + 1) h0 (by rw [show i + (j + 1) + 1 = i + j + 2 by omega]; exact h), cyc_rev (i := i + 1) (j := j) h0 (by rw [show i + 1 + j + 1 = i + j + 2 by omega]; exact h)]
  by_cases hc : (cyc ps j).2 = (cyc ps (j + 1)).2
  · rw [if_pos hc.symm, if_pos hc]; rfl
  · rw [if_neg (fun e => hc e.symm), if_neg hc, List.map_cons, List.map_nil, ← signL_neg]
    congr 2; omega
theorem wayAt_len (ps : List Pt) (i : Nat) : (wayAt ps i).length ≤ 1 := by unfold wayAt; split <;> simp
theorem ways_rev {ps : List Pt} {m : Nat} (hm : ps.length = m + 1) : ∀ k, k ≤ m → waysI ps.reverse k = (((List.range k).flatMap fun i => wayAt ps (m - 1 - i))).map fun x => -x := by
  intro k hk
  unfold waysI
  rw [List.map_flatMap]
  refine fm_congr fun i hi => ?_
  have hi := List.mem_range.1 hi
  exact wayAt_rev (by omega) (by rw [show i + (m - 1 - i) + 2 = ps.length by omega]; exact Nat.mod_self _)
theorem flat_rev (ps : List Pt) : ∀ m, ((List.range m).flatMap fun i => wayAt ps (m - 1 - i)) = (waysI ps m).reverse := by
  intro m
  have hr : ∀ i, (wayAt ps i).reverse = wayAt ps i := fun i => by unfold wayAt; split <;> rfl
  induction m with
  | zero => rfl
  | succ m ih =>
    rw [waysI_succ, List.reverse_append, hr, ← ih, List.range_succ_eq_map, List.flatMap_cons, List.flatMap_map]
    congr 1
    refine fm_congr fun i hi => ?_
    have hi := List.mem_range.1 hi
    congr 1; omega
theorem cyclic_ways_rev (ps : List Pt) (h0 : 0 < ps.length) : cyclic (waysI ps.reverse ps.length) = cyclic (waysI ps ps.length) := by
  obtain ⟨m, hm⟩ : ∃ m, ps.length = m + 1 := ⟨ps.length - 1, by omega⟩
  rw [hm, waysI_succ, waysI_succ, ways_rev hm m (Nat.le_refl _), flat_rev, wayAt_rev (i := m) (j := m) h0 (by rw [hm, show m + m + 2 = (m + 1) * 2 by omega]; exact Nat.mul_mod_right _ _), ← List.map_append, cyclic_neg]
  have hr : (wayAt ps m).reverse = wayAt ps m := by unfold wayAt; split <;> rfl
  have e : (waysI ps m).reverse ++ wayAt ps m = (wayAt ps m ++ waysI ps m).reverse := by rw [List.reverse_append, hr]
  rw [e, cyclic_rev, cyclic_comm _ _ (wayAt_len ps m)]
theorem implConvex_rev (ps : List Pt) : implConvex ps.reverse = implConvex ps := by
  have hps : psB ps.reverse = psB ps := by unfold psB; rw [List.all_reverse, List.length_reverse]
  unfold implConvex
  rw [hps, List.length_reverse]
  by_cases h3 : 3 ≤ ps.length
  · have h0 : 0 < ps.length := by omega
    have e1 : (decide (firstI ps.reverse ≠ 0) && goodI ps.reverse ps.length) = (decide (firstI ps ≠ 0) && goodI ps ps.length) := by
      have q := good_all ps.reverse (by rw [List.length_reverse]; exact h0)
      rw [List.length_reverse] at q
      rw [Bool.eq_iff_iff, q, good_all ps h0]
      exact ⟨fun h => by have := good_rev (ps := ps.reverse) (by rw [List.length_reverse]; exact h0) h; rw [List.reverse_reverse] at this; exact this, good_rev h0⟩
    have e2 : chg (waysI ps.reverse ps.length) (waysI ps.reverse ps.length).length = chg (waysI ps ps.length) (waysI ps ps.length).length := by
      rw [chg_eq, chg_eq]; exact cyclic_ways_rev ps h0
    rw [e2, ← Bool.and_assoc (decide (firstI ps.reverse ≠ 0)), e1, Bool.and_assoc]
  · simp [h3]
/-- Nothing of a convex polygon is needless. -/
theorem cleanR_convex {ps : List Pt} (h : implConvex ps = true) : cleanR ps = ps := by
  unfold implConvex at h
  rw [← Bool.and_assoc (decide (firstI ps ≠ 0))] at h
  simp only [Bool.and_eq_true (psB ps), Bool.and_eq_true (decide (3 ≤ ps.length)), Bool.and_eq_true (decide (firstI ps ≠ 0) && goodI ps ps.length)] at h
  obtain ⟨h1, h2, h3, _⟩ := h
  have h2 : 3 ≤ ps.length := by simpa using h2
  have hg := (good_all ps (by omega)).1 h3
  have hno : noNd ps ps.length := fun i hi => by
    have hc := (hg (i + ps.length - 1) 0).2
    unfold crs cyc at hc
    rw [show i + ps.length - 1 + 1 = i + ps.length by omega, show i + ps.length - 1 + 2 = (i + 1) + ps.length by omega, Nat.add_mod_right, Nat.add_mod_right, Nat.mod_eq_of_lt hi] at hc
    unfold ndAt ndB
    rw [decide_eq_false hc]; rfl
  have hf := fstNd_none (Or.inr hno)
  unfold cleanR cleanL
  rw [if_pos h1]
  obtain ⟨m, hm⟩ : ∃ m, ps.length = m + 1 := ⟨ps.length - 1, by omega⟩
  rw [hm]
  simp [cleanN, hf]
end Go.Proofs.Ytonilmpodijgeaa
