/-
  Convex polygons: their windings and their areas, plainly. Nothing of a program.
-/
import Derived.Test.YtalicpgnjpgloaaCvxL
import Derived.Test.YtalicpgnjpgloaaConvE
namespace Go.Proofs.Ytalicpgnjpgloaa
open Go Go.RowKit Reg
/-- Down as far as m, then up again. -/
structure DnUp (P : Nat → Pt) (n m : Nat) : Prop where
  per : ∀ i, P (i + n) = P i
  m0 : 0 < m
  mn : m < n
  dn : ∀ i, i < m → (P i).2 ≤ (P (i + 1)).2
  up : ∀ i, m ≤ i → i < n → (P (i + 1)).2 ≤ (P i).2
theorem sideL_anti (a b : Pt) (x y : Int) : sideL b a x y = - sideL a b x y := by
  unfold sideL; grind
theorem DnUp.two {P : Nat → Pt} {n m : Nat} (h : DnUp P n m) (x y : Int) : sumP (fun i => stepL x y (P i) (P (i + 1))) n = 0 ∨
    ∃ j k, ((P j).2 ≤ y ∧ y < (P (j + 1)).2) ∧ ((P (k + 1)).2 ≤ y ∧ y < (P k).2) ∧
      sumP (fun i => stepL x y (P i) (P (i + 1))) n = (if 0 ≤ sideL (P j) (P (j + 1)) x y then 1 else 0) + (if 0 ≤ sideL (P (k + 1)) (P k) x y then -1 else 0) := by
  have hm := h.m0
  have hn := h.mn
  have hP : P n = P 0 := by have := h.per 0; rwa [Nat.zero_add] at this
  have lo : ∀ i, i ≤ m → (P 0).2 ≤ (P i).2 := by
    intro i
    induction i with
    | zero => intro _; exact Int.le_refl _
    | succ i ih => intro hi; exact Int.le_trans (ih (by omega)) (h.dn i (by omega))
  have lo2 : ∀ d i, i + d = m → (P i).2 ≤ (P m).2 := by
    intro d
    induction d with
    | zero => intro i hi; rw [show i = m by omega]; exact Int.le_refl _
    | succ d ih => intro i hi; exact Int.le_trans (h.dn i (by omega)) (ih (i + 1) (by omega))
  have hi1 : ∀ d, m + d ≤ n → (P (m + d)).2 ≤ (P m).2 := by
    intro d
    induction d with
    | zero => intro _; exact Int.le_refl _
    | succ d ih => intro hd; exact Int.le_trans (h.up (m + d) (by omega) (by omega)) (ih (by omega))
  have hi2 : ∀ d i, i + d = n → m ≤ i → (P n).2 ≤ (P i).2 := by
    intro d
    induction d with
    | zero => intro i hi _; rw [show i = n by omega]; exact Int.le_refl _
    | succ d ih => intro i hi hmi; exact Int.le_trans (ih (i + 1) (by omega) (by omega)) (h.up i hmi (by omega))
  have mn0 : ∀ i, i ≤ n → (P 0).2 ≤ (P i).2 := by
    intro i hi
    rcases Nat.le_total i m with h1 | h1
    · exact lo i h1
    · have := hi2 (n - i) i (by omega) h1
      rwa [hP] at this
  have mx : ∀ i, i ≤ n → (P i).2 ≤ (P m).2 := by
    intro i hi
    rcases Nat.le_total i m with h1 | h1
    · exact lo2 (m - i) i (by omega)
    · have := hi1 (i - m) (by omega)
      rwa [show m + (i - m) = i by omega] at this
  by_cases c1 : y < (P 0).2
  · left
    refine sumP_zero (fun i hi => ?_)
    have h1 := mn0 i (by omega)
    have h2 := mn0 (i + 1) (by omega)
    unfold stepL
    rw [if_neg (by omega), if_neg (by omega)]
  · by_cases c2 : (P m).2 ≤ y
    · left
      refine sumP_zero (fun i hi => ?_)
      have h1 := mx i (by omega)
      have h2 := mx (i + 1) (by omega)
      unfold stepL
      rw [if_neg (by omega), if_neg (by omega)]
    · right
      obtain ⟨j, hj, hj2, hj3⟩ := pass_one (Y := fun i => (P i).2) (y := y) (m := m) (fun j hj => h.dn j hj) (by omega) (by omega)
      obtain ⟨q, hq, hq2, hq3⟩ := pass_one (Y := fun i => (P (n - i)).2) (y := y) (m := n - m) (fun j hj => by
        have := h.up (n - (j + 1)) (by omega) (by omega)
        rwa [show n - (j + 1) + 1 = n - j by omega] at this) (by rw [Nat.sub_zero, hP]; omega) (by rw [show n - (n - m) = m by omega]; omega)
      have e1 : n - (q + 1) + 1 = n - q := by omega
      refine ⟨j, n - (q + 1), hj2, by rw [e1]; exact hq2, ?_⟩
      obtain ⟨d, rfl⟩ : ∃ d, n = m + d := ⟨n - m, by omega⟩
      rw [sumP_add, sumP_one hj (fun i hi hij => ?_), sumP_one (j := d - (q + 1)) (by omega) (fun i hi hij => ?_)]
      · rw [show m + (d - (q + 1)) = m + d - (q + 1) by omega, e1]
        unfold stepL
        congr 1
        · by_cases hs : 0 ≤ sideL (P j) (P (j + 1)) x y
          · rw [if_pos ⟨hj2.1, hj2.2, hs⟩, if_pos hs]
          · rw [if_neg (fun hh => hs hh.2.2), if_neg (by omega), if_neg hs]
        · rw [if_neg (by omega)]
          by_cases hs : 0 ≤ sideL (P (m + d - q)) (P (m + d - (q + 1))) x y
          · rw [if_pos ⟨hq2.1, hq2.2, hs⟩, if_pos hs]
          · rw [if_neg (fun hh => hs hh.2.2), if_neg hs]
      · have h1 := hq3 (m + d - (m + i) - 1) (by omega) (by omega)
        rw [show m + d - (m + d - (m + i) - 1) = m + i + 1 by omega, show m + d - (m + d - (m + i) - 1 + 1) = m + i by omega] at h1
        have h2 := h.up (m + i) (by omega) (by omega)
        unfold stepL
        rw [if_neg (by omega), if_neg (fun hh => h1 ⟨hh.1, hh.2.1⟩)]
      · have h1 := hj3 i hi hij
        have h2 := h.dn i hi
        unfold stepL
        rw [if_neg (fun hh => h1 ⟨hh.1, hh.2.1⟩), if_neg (by omega)]
theorem DnUp.pos {P : Nat → Pt} {n m : Nat} (h : DnUp P n m) (hs : ∀ i k, 0 ≤ crossL (P i) (P (i + 1)) (P k)) (x y : Int) : -1 ≤ sumP (fun i => stepL x y (P i) (P (i + 1))) n ∧ sumP (fun i => stepL x y (P i) (P (i + 1))) n ≤ 0 := by
  rcases h.two x y with h0 | ⟨j, k, hj, hk, h0⟩
  · omega
  · rw [h0]
    have h1 := hs j k
    have h2 := hs j (k + 1)
    rw [side_cross] at h1 h2
    have h3 := side_left_of (a := P j) (b := P (j + 1)) (c := P k) (d := P (k + 1)) (x := x) (y := y) hj.1 hj.2 hk.1 hk.2 (by omega) (by omega)
    by_cases c : 0 ≤ sideL (P j) (P (j + 1)) x y
    · rw [if_pos c, if_pos (h3 c)]; omega
    · rw [if_neg c]; split <;> omega
theorem DnUp.neg {P : Nat → Pt} {n m : Nat} (h : DnUp P n m) (hs : ∀ i k, crossL (P i) (P (i + 1)) (P k) ≤ 0) (x y : Int) : 0 ≤ sumP (fun i => stepL x y (P i) (P (i + 1))) n ∧ sumP (fun i => stepL x y (P i) (P (i + 1))) n ≤ 1 := by
  rcases h.two x y with h0 | ⟨j, k, hj, hk, h0⟩
  · omega
  · rw [h0]
    have h1 := hs k (j + 1)
    have h2 := hs k j
    rw [side_cross] at h1 h2
    have h3 := side_left_of (a := P (k + 1)) (b := P k) (c := P (j + 1)) (d := P j) (x := x) (y := y) hk.1 hk.2 hj.1 hj.2 (by rw [sideL_anti]; omega) (by rw [sideL_anti]; omega)
    by_cases c : 0 ≤ sideL (P (k + 1)) (P k) x y
    · rw [if_pos c, if_pos (h3 c)]; omega
    · rw [if_neg c]; split <;> omega
/-! ### rows that change twice -/
theorem one_of {f : Nat → Int} (h : ∀ i, f i = 0 ∨ f i = 1) : ∀ {k : Nat}, sumP f k = 1 → ∃ j, j < k ∧ f j = 1 ∧ ∀ i, i < k → i ≠ j → f i = 0
  | 0, hs => by simp [sumP] at hs
  | k + 1, hs => by
    have e : sumP f (k + 1) = sumP f k + f k := rfl
    rcases h k with h0 | h1
    · obtain ⟨j, hj, h2, h3⟩ := one_of h (k := k) (by omega)
      refine ⟨j, by omega, h2, fun i hi hij => ?_⟩
      rcases Nat.lt_or_ge i k with h4 | h4
      · exact h3 i h4 hij
      · obtain rfl : i = k := by omega
        exact h0
    · have hz : sumP f k = 0 := by omega
      have key : ∀ m, sumP f m = 0 → ∀ i, i < m → f i = 0 := by
        intro m
        induction m with
        | zero => intro _ i hi; omega
        | succ m ih =>
          intro hm i hi
          have e2 : sumP f (m + 1) = sumP f m + f m := rfl
          have hnn := sumP_nn (f := f) (k := m) (fun i _ => by rcases h i with q | q <;> omega)
          rcases h m with q | q
          · rcases Nat.lt_or_ge i m with h4 | h4
            · exact ih (by omega) i h4
            · obtain rfl : i = m := by omega
              exact q
          · omega
      refine ⟨k, by omega, h1, fun i hi hij => key k hz i (by omega)⟩
theorem blocks_of {b : Nat → Bool} {n : Nat} (hp : ∀ i, b (i + n) = b i) (h : sumP (fun i => if b (i + 1) = b i then 0 else 1) n = 2) :
    ∃ s m, 0 < m ∧ m < n ∧ (∀ i, i < m → b (s + i) = true) ∧ ∀ i, m ≤ i → i < n → b (s + i) = false := by
  obtain ⟨e, he⟩ : ∃ e : Nat → Int, e = fun i => if b (i + 1) = b i then 0 else 1 := ⟨_, rfl⟩
  have he1 : ∀ i, e i = if b (i + 1) = b i then 0 else 1 := fun i => by rw [he]
  have h01 : ∀ i, e i = 0 ∨ e i = 1 := fun i => by rw [he1]; split <;> simp
  have hep : ∀ i, e (i + n) = e i := fun i => by rw [he1, he1, hp, show i + n + 1 = (i + 1) + n by omega, hp]
  rw [← he] at h
  have hex : ∃ i, i < n ∧ e i = 1 := by
    apply Classical.byContradiction
    intro hno
    have := sumP_zero (f := e) (k := n) (fun i hi => by
      rcases h01 i with q | q
      · exact q
      · exact absurd ⟨i, hi, q⟩ hno)
    omega
  obtain ⟨i0, hi0, hc0⟩ := hex
  have hw := sumP_turn hep (i0 + 1)
  obtain ⟨d, rfl⟩ : ∃ d, n = d + 1 := ⟨n - 1, by omega⟩
  have hl : sumP (fun i => e (i0 + 1 + i)) (d + 1) = sumP (fun i => e (i0 + 1 + i)) d + e (i0 + 1 + d) := rfl
  have hlast : e (i0 + 1 + d) = 1 := by rw [show i0 + 1 + d = i0 + (d + 1) by omega, hep, hc0]
  obtain ⟨j, hj, hj1, hj0⟩ := one_of (f := fun i => e (i0 + 1 + i)) (fun i => h01 _) (k := d) (by omega)
  have st : ∀ i, e i = 0 → b (i + 1) = b i := fun i hi => by
    rw [he1] at hi
    split at hi
    · assumption
    · omega
  have stn : ∀ i, e i = 1 → b (i + 1) = !b i := fun i hi => by
    rw [he1] at hi
    split at hi
    · omega
    · rename_i hne
      cases h1 : b i <;> cases h2 : b (i + 1) <;> simp_all
  have a1 : ∀ i, i ≤ j → b (i0 + 1 + i) = b (i0 + 1) := by
    intro i
    induction i with
    | zero => intro _; rfl
    | succ i ih =>
      intro hi
      rw [← ih (by omega)]
      exact st (i0 + 1 + i) (hj0 i (by omega) (by omega))
  have a2 : ∀ i, j + 1 + i ≤ d → b (i0 + 1 + (j + 1 + i)) = !b (i0 + 1) := by
    intro i
    induction i with
    | zero =>
      intro _
      have := stn (i0 + 1 + j) hj1
      rw [a1 j (Nat.le_refl _)] at this
      exact this
    | succ i ih =>
      intro hi
      rw [← ih (by omega)]
      exact st (i0 + 1 + (j + 1 + i)) (hj0 (j + 1 + i) (by omega) (by omega))
  cases hb : b (i0 + 1) with
  | true =>
    refine ⟨i0 + 1, j + 1, by omega, by omega, fun i hi => by rw [a1 i (by omega), hb], fun i h1 h2 => ?_⟩
    have := a2 (i - (j + 1)) (by omega)
    rw [show j + 1 + (i - (j + 1)) = i by omega, hb] at this
    exact this
  | false =>
    refine ⟨i0 + 1 + (j + 1), d - j, by omega, by omega, fun i hi => ?_, fun i h1 h2 => ?_⟩
    · have := a2 i (by omega)
      rw [← Nat.add_assoc, hb] at this
      exact this
    · rw [show i0 + 1 + (j + 1) + i = i0 + 1 + (j + 1 + i - (d + 1)) + (d + 1) by omega, hp, a1 _ (by omega), hb]
/-! ### convex polygons -/
theorem sumI_sumP : ∀ l : List Int, sumI l = sumP (fun i => l.getD i 0) l.length
  | [] => rfl
  | x :: l => by
    rw [sumI_cons, sumI_sumP l, List.length_cons, Nat.add_comm, sumP_add]
    show _ = 0 + x + sumP (fun i => (x :: l).getD (1 + i) 0) l.length
    rw [sumP_congr (f := fun i => (x :: l).getD (1 + i) 0) (g := fun i => l.getD i 0) (fun i _ => by simp [Nat.add_comm 1 i])]
    omega
theorem sumE_sumP (f : Pt → Pt → Int) (ps : List Pt) : sumE f ps = sumP (fun i => f (cyc ps i) (cyc ps (i + 1))) ps.length := by
  unfold sumE
  rw [sumI_sumP, List.length_map, edgesL_len]
  refine sumP_congr (fun i hi => ?_)
  have h1 : i < ((edgesL ps).map fun e => f e.1 e.2).length := by rw [List.length_map, edgesL_len]; exact hi
  rw [List.getD_eq_getElem?_getD, List.getElem?_eq_getElem h1, Option.getD_some, List.getElem_map, edgesL_get hi]
  rw [cyc_at (ps := ps) (i := i) (m := i) (Nat.mod_eq_of_lt hi).symm hi, cyc_at (ps := ps) (i := i + 1) (m := (i + 1) % ps.length) rfl (Nat.mod_lt _ (by omega))]
/-- Mirrored, or not. -/
def mir (e : Int) (p : Pt) : Pt := (e * p.1, p.2)
theorem mir_cross {e : Int} (he : e = 1 ∨ e = -1) (a b c : Pt) : crossL (mir e a) (mir e b) (mir e c) = e * crossL a b c := by
  rcases he with rfl | rfl <;> unfold crossL mir <;> grind
theorem mir_area {e : Int} (he : e = 1 ∨ e = -1) (a b : Pt) : areaE (mir e a) (mir e b) = e * areaE a b := by
  rcases he with rfl | rfl <;> unfold areaE mir <;> grind
theorem vx_cross (P : Nat → Pt) (i : Nat) : vx (dir P i) (dir P (i + 1)) = crossL (P i) (P (i + 1)) (P (i + 2)) := rfl
theorem convex_blk {ps : List Pt} (h : implConvex ps = true) : ∃ (e : Int) (s m : Nat), (e = 1 ∨ e = -1) ∧ Blk (fun i => mir e (cyc ps (s + i))) ps.length m 1 := by
  rw [← convex_eq] at h
  unfold specConvex at h
  simp only [Bool.and_eq_true, decide_eq_true_eq] at h
  obtain ⟨_, h3, hg, ht⟩ := h
  obtain ⟨n, hn⟩ : ∃ n, ps.length = n := ⟨_, rfl⟩
  rw [hn] at h3 hg ht
  have hper : ∀ i, cyc ps (i + n) = cyc ps i := fun i => by rw [← hn]; exact cyc_add ps i
  obtain ⟨e, he, hpos⟩ : ∃ e : Int, (e = 1 ∨ e = -1) ∧ ∀ i, i < n → 0 < e * crs ps i := by
    have h0 := goodS_at hg (j := 0) (by omega)
    rcases Int.lt_or_le 0 (crs ps 0) with hc | hc
    · refine ⟨1, .inl rfl, fun i hi => ?_⟩
      have := goodS_at hg hi
      omega
    · refine ⟨-1, .inr rfl, fun i hi => ?_⟩
      have := goodS_at hg hi
      omega
  obtain ⟨Q, hQ⟩ : ∃ Q : Nat → Pt, Q = fun i => mir e (cyc ps i) := ⟨_, rfl⟩
  have hQp : ∀ i, Q (i + n) = Q i := fun i => by rw [hQ]; dsimp only; rw [hper]
  have hcr0 : ∀ i, i < n → 0 < vx (dir Q i) (dir Q (i + 1)) := fun i hi => by
    rw [vx_cross, hQ]
    dsimp only
    rw [mir_cross he]
    exact hpos i hi
  have hcrq : ∀ q i, i < n → 0 < vx (dir Q (i + q * n)) (dir Q (i + q * n + 1)) := by
    intro q
    induction q with
    | zero => intro i hi; simpa using hcr0 i hi
    | succ q ih =>
      intro i hi
      rw [Nat.add_mul, Nat.one_mul, ← Nat.add_assoc, show i + q * n + n + 1 = (i + q * n + 1) + n by omega, dir_per hQp, dir_per hQp]
      exact ih i hi
  have hcr : ∀ i, 0 < vx (dir Q i) (dir Q (i + 1)) := fun i => by
    have h1 := Nat.div_add_mod i n
    have := hcrq (i / n) (i % n) (Nat.mod_lt _ (by omega))
    rw [show i % n + i / n * n = i by rw [Nat.mul_comm]; omega] at this
    exact this
  have hdy : ∀ i, (dir Q i).2 = (cyc ps (i + 1)).2 - (cyc ps i).2 := fun i => by rw [hQ]; rfl
  -- a level edge is of the half of the one before
  have hlev : ∀ i, (dir Q (i + 1)).2 = 0 → (inH (dir Q (i + 1)) ↔ inH (dir Q i)) ∧ (dir Q i).2 ≠ 0 := by
    intro i hz
    have c := hcr i
    unfold vx at c
    rw [hz, Int.mul_zero, Int.zero_sub] at c
    have hne : (dir Q i).2 ≠ 0 := by intro h0; rw [h0] at c; simp at c
    refine ⟨?_, hne⟩
    unfold inH
    rcases Int.lt_or_gt_of_ne hne with h1 | h1
    · have : ¬ (dir Q (i + 1)).1 < 0 := fun h2 => by have := Int.mul_pos_of_neg_of_neg h1 h2; omega
      omega
    · have : (dir Q (i + 1)).1 < 0 := by
        apply Classical.byContradiction
        intro h2
        have := Int.mul_nonneg (Int.le_of_lt h1) (show 0 ≤ (dir Q (i + 1)).1 by omega)
        omega
      omega
  -- what the reference keeps in mind
  have hf : ∀ k, ((foldT ps (k + 1)).2 ≠ 0 → (0 < (foldT ps (k + 1)).2 ↔ inH (dir Q k))) ∧ ((dir Q k).2 ≠ 0 → (foldT ps (k + 1)).2 ≠ 0) ∧ (1 ≤ k → (foldT ps (k + 1)).2 ≠ 0) := by
    intro k
    induction k with
    | zero =>
      rw [foldT_succ]
      unfold stepT
      dsimp only
      have e0 := hdy 0
      split
      · rename_i h0
        have z : (foldT ps 0).2 = 0 := rfl
        rw [z]
        exact ⟨fun hh => absurd rfl hh, fun hh => by omega, fun hh => by omega⟩
      · dsimp only
        unfold inH
        omega
    | succ k ih =>
      rw [foldT_succ]
      unfold stepT
      dsimp only
      have e0 := hdy (k + 1)
      split
      · rename_i h0
        obtain ⟨l1, l2⟩ := hlev k (by omega)
        have := ih.2.1 l2
        exact ⟨fun hh => by rw [l1]; exact ih.1 hh, fun _ => this, fun _ => this⟩
      · dsimp only
        unfold inH
        omega
  have hcount : ∀ j, j ≤ n → (foldT ps (n + j)).1 = sumP (fun i => if decide (inH (dir Q (n - 1 + (i + 1)))) = decide (inH (dir Q (n - 1 + i))) then 0 else 1) j := by
    intro j
    induction j with
    | zero =>
      intro _
      exact (lap1 ps n (by omega)).1
    | succ j ih =>
      intro hj
      show (foldT ps (n + j + 1)).1 = sumP _ j + _
      rw [← ih (by omega), foldT_succ]
      have f1 := hf (n + j - 1)
      rw [show n + j - 1 + 1 = n + j by omega] at f1
      obtain ⟨f2, _, f3⟩ := f1
      have f4 := f3 (by omega)
      have f5 := f2 f4
      have e0 := hdy (n + j)
      have i1 : n - 1 + (j + 1) = n + j := by omega
      have i2 : n - 1 + j = n + j - 1 := by omega
      show _ = _ + (if decide (inH (dir Q (n - 1 + (j + 1)))) = decide (inH (dir Q (n - 1 + j))) then (0 : Int) else 1)
      rw [i1, i2]
      unfold stepT
      dsimp only
      split
      · rename_i h0
        have l := (hlev (n + j - 1) (by rw [show n + j - 1 + 1 = n + j by omega]; omega)).1
        rw [show n + j - 1 + 1 = n + j by omega] at l
        have : decide (inH (dir Q (n + j))) = decide (inH (dir Q (n + j - 1))) := by simp [l]
        rw [if_pos this]; omega
      · rename_i h0
        dsimp only
        have v : inH (dir Q (n + j)) ↔ 0 < (dir Q (n + j)).2 := by unfold inH; omega
        by_cases hh : (0 < (cyc ps (n + j + 1)).2 - (cyc ps (n + j)).2 ↔ 0 < (foldT ps (n + j)).2)
        · have : decide (inH (dir Q (n + j))) = decide (inH (dir Q (n + j - 1))) := by
            rw [decide_eq_decide, v, ← f5, e0]; exact hh
          rw [if_neg (fun hc => hc.2.1 hh), if_pos this]; omega
        · have : ¬ decide (inH (dir Q (n + j))) = decide (inH (dir Q (n + j - 1))) := by
            rw [decide_eq_decide, v, ← f5, e0]; exact hh
          rw [if_pos ⟨f4, hh, by omega⟩, if_neg this]
  have hc := hcount n (Nat.le_refl _)
  rw [show n + n = 2 * n by omega, ht] at hc
  obtain ⟨s, m, hm0, hmn, b1, b2⟩ := blocks_of (b := fun i => decide (inH (dir Q (n - 1 + i)))) (n := n) (fun i => by rw [← Nat.add_assoc, dir_per hQp]) hc.symm
  refine ⟨e, n - 1 + s, m, he, ?_⟩
  rw [hn]
  have hd : ∀ i, dir (fun i => mir e (cyc ps (n - 1 + s + i))) i = dir Q (n - 1 + s + i) := fun i => by rw [hQ]; rfl
  refine ⟨fun i => ?_, fun i => ?_, .inl rfl, hm0, hmn, fun i hi => ?_, fun i h1 h2 => ?_⟩
  · rw [← Nat.add_assoc, hper]
  · rw [hd, hd]
    exact hcr _
  · have := b1 i hi
    simp only [decide_eq_true_eq] at this
    rw [hd, show n - 1 + s + i = n - 1 + (s + i) by omega]
    unfold sc
    rw [Int.one_mul, Int.one_mul]
    exact this
  · have := b2 i h1 h2
    simp only [decide_eq_false_iff_not] at this
    rw [hd, show n - 1 + s + i = n - 1 + (s + i) by omega]
    have c := hcr (n - 1 + (s + i))
    unfold inH sc at *
    dsimp only
    generalize dir Q (n - 1 + (s + i)) = q at *
    have hq : q.1 ≠ 0 ∨ q.2 ≠ 0 := by
      apply Classical.byContradiction
      intro hh
      obtain ⟨q1, q2⟩ : q.1 = 0 ∧ q.2 = 0 := by omega
      unfold vx at c
      rw [q1, q2] at c
      simp at c
    omega
/-- The area of a convex polygon is not 0, and at every point it winds at most once, against the area's sign. -/
theorem convex_wind {ps : List Pt} (h : implConvex ps = true) : areaL [ps] ≠ 0 ∧ ∀ x y, (-1 ≤ windL [ps] x y ∧ windL [ps] x y ≤ 1) ∧ windL [ps] x y * areaL [ps] ≤ 0 := by
  obtain ⟨e, s, m, he, hB⟩ := convex_blk h
  have hper : ∀ i, cyc ps (i + ps.length) = cyc ps i := cyc_add ps
  have hsum : ∀ f : Pt → Pt → Int, sumE f ps = sumP (fun i => f (cyc ps (s + i)) (cyc ps (s + i + 1))) ps.length := fun f => by
    rw [sumE_sumP]
    exact (sumP_turn (f := fun i => f (cyc ps i) (cyc ps (i + 1))) (fun i => by rw [hper, show i + ps.length + 1 = (i + 1) + ps.length by omega, hper]) s).symm
  have hA := hB.area
  have hS : ∀ i k, 0 ≤ e * crossL (cyc ps (s + i)) (cyc ps (s + (i + 1))) (cyc ps (s + k)) := fun i k => by
    have := hB.side i k
    rwa [mir_cross he] at this
  have hU : DnUp (fun i => cyc ps (s + i)) ps.length m := by
    refine ⟨fun i => by rw [← Nat.add_assoc, hper], hB.m0, hB.mn, fun i hi => ?_, fun i h1 h2 => ?_⟩
    · have := hB.lo i hi
      unfold inH sc dir mir at this
      dsimp only at this ⊢
      omega
    · have := hB.hi i h1 h2
      unfold inH sc dir mir at this
      dsimp only at this ⊢
      omega
  unfold areaL windL
  rw [sumS_one, hsum]
  have e1 : sumP (fun i => areaE (mir e (cyc ps (s + i))) (mir e (cyc ps (s + (i + 1))))) ps.length = sumP (fun i => e * areaE (cyc ps (s + i)) (cyc ps (s + i + 1))) ps.length := sumP_congr (fun i _ => mir_area he _ _)
  rw [e1] at hA
  have hW : ∀ x y, sumS (stepL x y) [ps] = sumP (fun i => stepL x y (cyc ps (s + i)) (cyc ps (s + i + 1))) ps.length := fun x y => by rw [sumS_one, hsum]
  generalize hAr : sumP (fun i => areaE (cyc ps (s + i)) (cyc ps (s + i + 1))) ps.length = a
  rcases he with rfl | rfl
  · have hA2 : 0 < a := by
      rw [← hAr]
      rw [sumP_congr (g := fun i => areaE (cyc ps (s + i)) (cyc ps (s + i + 1))) (fun i _ => by rw [Int.one_mul])] at hA
      exact hA
    refine ⟨by omega, fun x y => ?_⟩
    have k := hU.pos (fun i k => by have := hS i k; rw [Int.one_mul] at this; exact this) x y
    rw [hW]
    have k' : -1 ≤ sumP (fun i => stepL x y (cyc ps (s + i)) (cyc ps (s + i + 1))) ps.length ∧ sumP (fun i => stepL x y (cyc ps (s + i)) (cyc ps (s + i + 1))) ps.length ≤ 0 := k
    exact ⟨by omega, Int.mul_nonpos_of_nonpos_of_nonneg k'.2 (by omega)⟩
  · have hA2 : a < 0 := by
      rw [sumP_congr (g := fun i => - areaE (cyc ps (s + i)) (cyc ps (s + i + 1))) (fun i _ => by omega), sumP_neg, hAr] at hA
      omega
    refine ⟨by omega, fun x y => ?_⟩
    have k := hU.neg (fun i k => by have := hS i k; omega) x y
    rw [hW]
    have k' : 0 ≤ sumP (fun i => stepL x y (cyc ps (s + i)) (cyc ps (s + i + 1))) ps.length ∧ sumP (fun i => stepL x y (cyc ps (s + i)) (cyc ps (s + i + 1))) ps.length ≤ 1 := k
    exact ⟨by omega, Int.mul_nonpos_of_nonneg_of_nonpos k'.1 (by omega)⟩
end Go.Proofs.Ytalicpgnjpgloaa
