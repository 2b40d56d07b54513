/-
  Sequences of points that come round, turn one way and go down and up once: everything lies on one side of every edge. Nothing of a program.
-/
import Derived.Test.YtalicpgnjpgloaaWindL
namespace Go.Proofs.Ytalicpgnjpgloaa
open Go Go.RowKit Reg
/-! ### sums -/
def sumP (f : Nat → Int) : Nat → Int
  | 0 => 0
  | k + 1 => sumP f k + f k
theorem sumP_add (f : Nat → Int) (a : Nat) : ∀ b, sumP f (a + b) = sumP f a + sumP (fun i => f (a + i)) b
  | 0 => by simp [sumP]
  | b + 1 => by
    show sumP f (a + b) + f (a + b) = _ + (sumP (fun i => f (a + i)) b + f (a + b))
    rw [sumP_add f a b]; omega
theorem sumP_congr {f g : Nat → Int} : ∀ {k : Nat}, (∀ i, i < k → f i = g i) → sumP f k = sumP g k
  | 0, _ => rfl
  | k + 1, h => by
    show sumP f k + f k = sumP g k + g k
    rw [sumP_congr (fun i hi => h i (by omega)), h k (by omega)]
theorem sumP_nn {f : Nat → Int} : ∀ {k : Nat}, (∀ i, i < k → 0 ≤ f i) → 0 ≤ sumP f k
  | 0, _ => by simp [sumP]
  | k + 1, h => by
    show 0 ≤ sumP f k + f k
    have h1 := sumP_nn (k := k) (fun i hi => h i (by omega))
    have h2 := h k (by omega)
    omega
theorem sumP_np {f : Nat → Int} : ∀ {k : Nat}, (∀ i, i < k → f i ≤ 0) → sumP f k ≤ 0
  | 0, _ => by simp [sumP]
  | k + 1, h => by
    show sumP f k + f k ≤ 0
    have h1 := sumP_np (k := k) (fun i hi => h i (by omega))
    have h2 := h k (by omega)
    omega
theorem sumP_zero {f : Nat → Int} : ∀ {k : Nat}, (∀ i, i < k → f i = 0) → sumP f k = 0
  | 0, _ => rfl
  | k + 1, h => by
    show sumP f k + f k = 0
    have h1 := sumP_zero (k := k) (fun i hi => h i (by omega))
    have h2 := h k (by omega)
    omega
theorem sumP_one {f : Nat → Int} {k j : Nat} (hj : j < k) (h : ∀ i, i < k → i ≠ j → f i = 0) : sumP f k = f j := by
  obtain ⟨d, rfl⟩ : ∃ d, k = (j + 1) + d := ⟨k - (j + 1), by omega⟩
  rw [sumP_add]
  show sumP f j + f j + _ = f j
  rw [sumP_zero (fun i hi => h i (by omega) (by omega)), sumP_zero (fun i hi => h (j + 1 + i) (by omega) (by omega))]
  omega
theorem sumP_neg (f : Nat → Int) : ∀ k, sumP (fun i => - f i) k = - sumP f k
  | 0 => rfl
  | k + 1 => by
    show sumP (fun i => - f i) k + - f k = - (sumP f k + f k)
    rw [sumP_neg f k]; omega
theorem sumP_turn {f : Nat → Int} {n : Nat} (hp : ∀ i, f (i + n) = f i) (s : Nat) : sumP (fun i => f (s + i)) n = sumP f n := by
  have h1 := sumP_add f s n
  have h2 := sumP_add f n s
  have h3 : sumP (fun i => f (n + i)) s = sumP f s := sumP_congr (fun i _ => by rw [Nat.add_comm, hp])
  rw [Nat.add_comm n s] at h2
  omega
theorem sumP_tele (g : Nat → Int) : ∀ k, sumP (fun i => g (i + 1) - g i) k = g k - g 0
  | 0 => by simp [sumP]
  | k + 1 => by
    show sumP (fun i => g (i + 1) - g i) k + (g (k + 1) - g k) = _
    rw [sumP_tele g k]; omega
theorem sumP_sum (f g : Nat → Int) : ∀ k, sumP (fun i => f i + g i) k = sumP f k + sumP g k
  | 0 => by simp [sumP]
  | k + 1 => by
    show sumP (fun i => f i + g i) k + (f k + g k) = (sumP f k + f k) + (sumP g k + g k)
    rw [sumP_sum f g k]; omega
/-- Sums that begin with 0, whose terms stay not positive once they are not positive, and that end with 0, are never negative. -/
theorem hump {c : Nat → Int} {N : Nat} (h0 : c 0 = 0) (h : ∀ j, 1 ≤ j → j + 1 < N → c j ≤ 0 → c (j + 1) ≤ 0) (ht : sumP c N = 0) {k : Nat} (hk : k ≤ N) : 0 ≤ sumP c k := by
  by_cases hn : ∀ i, i < k → 0 ≤ c i
  · exact sumP_nn hn
  · obtain ⟨i, hi⟩ := Classical.not_forall.1 hn
    obtain ⟨hi, hc⟩ := Classical.not_imp.1 hi
    have hi1 : 1 ≤ i := by
      rcases Nat.eq_zero_or_pos i with h | h
      · subst h; omega
      · exact h
    have key : ∀ d, i + d < N → c (i + d) ≤ 0 := by
      intro d
      induction d with
      | zero => intro _; rw [Nat.add_zero]; omega
      | succ d ih => intro hd; exact h (i + d) (by omega) hd (ih (by omega))
    obtain ⟨e, rfl⟩ : ∃ e, N = k + e := ⟨N - k, by omega⟩
    rw [sumP_add] at ht
    have := sumP_np (f := fun j => c (k + j)) (k := e) (fun j hj => by
      have := key (k + j - i) (by omega)
      rwa [show i + (k + j - i) = k + j by omega] at this)
    omega
/-! ### directions -/
def vx (a b : Pt) : Int := a.1 * b.2 - a.2 * b.1
def sc (s : Int) (a : Pt) : Pt := (s * a.1, s * a.2)
/-- Down, or level and to the left. -/
def inH (a : Pt) : Prop := 0 < a.2 ∨ (a.2 = 0 ∧ a.1 < 0)
instance (a : Pt) : Decidable (inH a) := inferInstanceAs (Decidable (_ ∨ _))
theorem vx_tr {a b c : Pt} (ha : inH a) (hb : inH b) (hc : inH c) (h1 : 0 ≤ vx a b) (h2 : 0 < vx b c) : 0 < vx a c := by
  obtain ⟨a1, a2⟩ := a
  obtain ⟨b1, b2⟩ := b
  obtain ⟨c1, c2⟩ := c
  unfold inH vx at *
  dsimp only at *
  have hb2 : 0 ≤ b2 := by omega
  have ha2 : 0 ≤ a2 := by omega
  have hc2 : 0 ≤ c2 := by omega
  have hbp : 0 < b2 := by
    rcases hb with hb | ⟨hb, hb'⟩
    · exact hb
    · exfalso
      subst hb
      have : b1 * c2 ≤ 0 := Int.mul_nonpos_of_nonpos_of_nonneg (by omega) hc2
      omega
  have id1 : (a1 * c2 - a2 * c1) * b2 = (a1 * b2 - a2 * b1) * c2 + (b1 * c2 - b2 * c1) * a2 := by grind
  have k1 : 0 ≤ (a1 * b2 - a2 * b1) * c2 := Int.mul_nonneg h1 hc2
  have k2 : 0 ≤ (b1 * c2 - b2 * c1) * a2 := Int.mul_nonneg (Int.le_of_lt h2) ha2
  have pos : 0 < (a1 * c2 - a2 * c1) * b2 := by
    rw [id1]
    rcases ha with ha | ⟨ha, ha'⟩
    · have := Int.mul_pos h2 ha; omega
    · subst ha
      exfalso
      have : a1 * b2 < 0 := Int.mul_neg_of_neg_of_pos ha' hbp
      omega
  exact Int.pos_of_mul_pos_left pos hbp
theorem vx_sc (s : Int) (hs : s = 1 ∨ s = -1) (a b : Pt) : vx (sc s a) (sc s b) = vx a b := by
  unfold vx sc
  rcases hs with rfl | rfl <;> grind
theorem vx_anti (a b : Pt) : vx b a = - vx a b := by unfold vx; rw [Int.mul_comm b.1, Int.mul_comm b.2]; omega
theorem vx_self (a : Pt) : vx a a = 0 := by unfold vx; rw [Int.mul_comm]; omega
theorem vx_scneg (s : Int) (hs : s = 1 ∨ s = -1) (a b : Pt) : vx (sc s a) (sc (-s) b) = - vx a b := by
  unfold vx sc
  rcases hs with rfl | rfl <;> grind
/-! ### points that come round -/
def dir (P : Nat → Pt) (i : Nat) : Pt := ((P (i + 1)).1 - (P i).1, (P (i + 1)).2 - (P i).2)
/-- All edges turn the same way; those up to m are of one half, the others of the other one. -/
structure Blk (P : Nat → Pt) (n m : Nat) (s : Int) : Prop where
  per : ∀ i, P (i + n) = P i
  cr : ∀ i, 0 < vx (dir P i) (dir P (i + 1))
  sg : s = 1 ∨ s = -1
  m0 : 0 < m
  mn : m < n
  lo : ∀ i, i < m → inH (sc s (dir P i))
  hi : ∀ i, m ≤ i → i < n → inH (sc (-s) (dir P i))
theorem dir_per {P : Nat → Pt} {n : Nat} (h : ∀ i, P (i + n) = P i) (i : Nat) : dir P (i + n) = dir P i := by
  unfold dir
  rw [show i + n + 1 = (i + 1) + n by omega, h, h]
theorem Blk.turn {P : Nat → Pt} {n m : Nat} {s : Int} (h : Blk P n m s) : Blk (fun i => P (m + i)) n (n - m) (-s) := by
  have hd : ∀ i, dir (fun i => P (m + i)) i = dir P (m + i) := fun i => rfl
  have h0 := h.m0
  have hn := h.mn
  refine ⟨fun i => ?_, fun i => h.cr (m + i), ?_, by omega, by omega, fun i hi => ?_, fun i h1 h2 => ?_⟩
  · show P (m + (i + n)) = P (m + i)
    rw [← Nat.add_assoc, h.per]
  · rcases h.sg with e | e <;> subst e <;> simp
  · rw [hd]
    exact h.hi (m + i) (by omega) (by omega)
  · rw [hd, show m + i = (i - (n - m)) + n by omega, dir_per h.per, Int.neg_neg]
    exact h.lo _ (by omega)
section
variable {P : Nat → Pt} {n m : Nat} {s : Int}
theorem Blk.up (h : Blk P n m s) {i : Nat} : ∀ {j : Nat}, i < j → j < m → 0 < vx (dir P i) (dir P j) := by
  intro j
  induction j with
  | zero => intro h1; omega
  | succ j ih =>
    intro h1 h2
    have c := h.cr j
    rw [← vx_sc s h.sg] at c ⊢
    rcases Nat.lt_or_ge i j with hij | hij
    · have k := ih hij (by omega)
      rw [← vx_sc s h.sg] at k
      exact vx_tr (h.lo i (by omega)) (h.lo j (by omega)) (h.lo (j + 1) h2) (Int.le_of_lt k) c
    · obtain rfl : i = j := by omega
      exact c
/-- What is left of an edge of the first half, summed. -/
theorem Blk.side_lo (h : Blk P n m s) {i : Nat} (hi : i < m) {k : Nat} (hk : k ≤ n) : 0 ≤ sumP (fun j => vx (dir P i) (dir P (i + j))) k := by
  have hm := h.mn
  refine hump (N := n) (vx_self _) (fun j h1 h2 hc => ?_) ?_ hk
  · have hj1 : i + (j + 1) = (i + j) + 1 := by omega
    rw [hj1]
    by_cases c1 : i + j < m
    · have := h.up (i := i) (j := i + j) (by omega) c1
      omega
    · by_cases c2 : i + j + 1 < n
      · have c := h.cr (i + j)
        have hs' : -s = 1 ∨ -s = -1 := by rcases h.sg with e | e <;> subst e <;> simp
        rw [← vx_sc (-s) hs'] at c
        have k1 : vx (dir P i) (dir P (i + j)) = - vx (sc s (dir P i)) (sc (-s) (dir P (i + j))) := by rw [vx_scneg s h.sg]; omega
        have k2 : vx (dir P i) (dir P (i + j + 1)) = - vx (sc s (dir P i)) (sc (-s) (dir P (i + j + 1))) := by rw [vx_scneg s h.sg]; omega
        have := vx_tr (h.lo i hi) (h.hi (i + j) (by omega) (by omega)) (h.hi (i + j + 1) (by omega) c2) (by omega) c
        omega
      · have e : i + j + 1 = (i + j + 1 - n) + n := by omega
        rw [e, dir_per h.per, vx_anti]
        have := h.up (i := i + j + 1 - n) (j := i) (by omega) hi
        omega
  · have key : ∀ k, sumP (fun j => vx (dir P i) (dir P (i + j))) k = vx (dir P i) ((P (i + k)).1 - (P i).1, (P (i + k)).2 - (P i).2) := by
      intro k
      induction k with
      | zero => simp [sumP, vx]
      | succ k ih =>
        show sumP (fun j => vx (dir P i) (dir P (i + j))) k + vx (dir P i) (dir P (i + k)) = _
        rw [ih]
        show vx (dir P i) _ + vx (dir P i) ((P (i + k + 1)).1 - (P (i + k)).1, (P (i + k + 1)).2 - (P (i + k)).2) = vx (dir P i) ((P (i + k + 1)).1 - (P i).1, (P (i + k + 1)).2 - (P i).2)
        unfold vx
        simp only [Int.mul_sub]
        omega
    rw [key, h.per]
    simp [vx]
theorem sum_side (P : Nat → Pt) (i : Nat) : ∀ k, sumP (fun j => vx (dir P i) (dir P (i + j))) k = crossL (P i) (P (i + 1)) (P (i + k)) := by
  have key : ∀ k, sumP (fun j => vx (dir P i) (dir P (i + j))) k = vx (dir P i) ((P (i + k)).1 - (P i).1, (P (i + k)).2 - (P i).2) := by
    intro k
    induction k with
    | zero => simp [sumP, vx]
    | succ k ih =>
      show sumP (fun j => vx (dir P i) (dir P (i + j))) k + vx (dir P i) (dir P (i + k)) = _
      rw [ih]
      show vx (dir P i) _ + vx (dir P i) ((P (i + k + 1)).1 - (P (i + k)).1, (P (i + k + 1)).2 - (P (i + k)).2) = vx (dir P i) ((P (i + k + 1)).1 - (P i).1, (P (i + k + 1)).2 - (P i).2)
      unfold vx
      simp only [Int.mul_sub]
      omega
  intro k
  rw [key k]
  unfold vx dir crossL
  dsimp only
  have e1 : (P (i + k)).2 - (P i).2 = ((P (i + k)).2 - (P (i + 1)).2) + ((P (i + 1)).2 - (P i).2) := by omega
  have e2 : (P (i + k)).1 - (P i).1 = ((P (i + k)).1 - (P (i + 1)).1) + ((P (i + 1)).1 - (P i).1) := by omega
  rw [e1, e2, Int.mul_add, Int.mul_add, Int.mul_comm ((P (i + 1)).1 - (P i).1) ((P (i + 1)).2 - (P i).2)]
  omega
theorem side_mod (h : ∀ i, P (i + n) = P i) (hn : 0 < n) {i : Nat} (hi : ∀ k, k ≤ n → 0 ≤ crossL (P i) (P (i + 1)) (P (i + k))) (k : Nat) : 0 ≤ crossL (P i) (P (i + 1)) (P k) := by
  have hp : ∀ q i, P (i + q * n) = P i := by
    intro q
    induction q with
    | zero => intro i; simp
    | succ q ih => intro i; rw [Nat.add_mul, Nat.one_mul, ← Nat.add_assoc, h, ih]
  obtain ⟨c, hc⟩ : ∃ c, k + c * n = i + (k + c * n - i) ∧ i ≤ c * n := ⟨i, by have := Nat.le_mul_of_pos_right i hn; omega, Nat.le_mul_of_pos_right i hn⟩
  have h1 := Nat.div_add_mod (k + c * n - i) n
  have h2 := Nat.mod_lt (k + c * n - i) hn
  have h3 := hi ((k + c * n - i) % n) (by omega)
  have h4 : P (i + (k + c * n - i) % n) = P k := by
    rw [← hp ((k + c * n - i) / n) (i + (k + c * n - i) % n), ← hp c k]
    congr 1
    rw [Nat.mul_comm] at h1
    omega
  rwa [h4] at h3
/-- Every point is on the same side of every edge. -/
theorem Blk.side (h : Blk P n m s) (i k : Nat) : 0 ≤ crossL (P i) (P (i + 1)) (P k) := by
  have hm := h.mn
  have h0 := h.m0
  have lo : ∀ {P : Nat → Pt} {m : Nat} {s : Int}, Blk P n m s → ∀ i, i < m → ∀ k, 0 ≤ crossL (P i) (P (i + 1)) (P k) := by
    intro P m s h i hi k
    refine side_mod h.per (by omega) (fun k hk => ?_) k
    rw [← sum_side]
    exact h.side_lo hi hk
  have all : ∀ i, i < n → ∀ k, 0 ≤ crossL (P i) (P (i + 1)) (P k) := by
    intro i hi k
    rcases Nat.lt_or_ge i m with h1 | h1
    · exact lo h i h1 k
    · have h2 := lo h.turn (i - m) (by omega) (k + m * n - m)
      have hp : ∀ q i, P (i + q * n) = P i := by
        intro q
        induction q with
        | zero => intro i; simp
        | succ q ih => intro i; rw [Nat.add_mul, Nat.one_mul, ← Nat.add_assoc, h.per, ih]
      have hmn : m ≤ m * n := Nat.le_mul_of_pos_right m (by omega)
      rw [show m + (i - m) = i by omega, show m + (i - m + 1) = i + 1 by omega, show m + (k + m * n - m) = k + m * n by omega, hp] at h2
      exact h2
  have hp : ∀ q i, P (i + q * n) = P i := by
    intro q
    induction q with
    | zero => intro i; simp
    | succ q ih => intro i; rw [Nat.add_mul, Nat.one_mul, ← Nat.add_assoc, h.per, ih]
  have h1 := Nat.div_add_mod i n
  have h2 := Nat.mod_lt i (show 0 < n by omega)
  have h3 := all (i % n) h2 k
  have e : i = i % n + (i / n) * n := by rw [Nat.mul_comm]; omega
  rw [e, show i % n + i / n * n + 1 = (i % n + 1) + i / n * n by omega, hp, hp]
  exact h3
/-- Twice the area is positive. -/
theorem Blk.area (h : Blk P n m s) : 0 < sumP (fun i => areaE (P i) (P (i + 1))) n := by
  have hn : 1 < n := by have := h.m0; have := h.mn; omega
  have e : sumP (fun i => areaE (P i) (P (i + 1))) n = sumP (fun i => crossL (P i) (P (i + 1)) (P 0)) n := by
    have h1 := sumP_sum (fun i => areaE (P i) (P (i + 1))) (fun i => areaE (P (i + 1)) (P 0) - areaE (P i) (P 0)) n
    have h2 := sumP_tele (fun i => areaE (P i) (P 0)) n
    have h3 : P n = P 0 := by have := h.per 0; rwa [Nat.zero_add] at this
    rw [h2, h3, Int.sub_self, Int.add_zero] at h1
    rw [← h1]
    refine sumP_congr (fun i _ => ?_)
    unfold areaE crossL
    grind
  rw [e]
  obtain ⟨d, rfl⟩ : ∃ d, n = 1 + 1 + d := ⟨n - 2, by omega⟩
  rw [sumP_add]
  have h1 := sumP_nn (f := fun i => crossL (P (1 + 1 + i)) (P (1 + 1 + i + 1)) (P 0)) (k := d) (fun i _ => h.side _ _)
  have h2 := h.side 0 0
  have h3 : 0 < crossL (P 1) (P 2) (P 0) := by
    have := h.cr 0
    unfold vx dir at this
    dsimp only [Nat.zero_add] at this
    have e : crossL (P 1) (P 2) (P 0) = ((P 1).1 - (P 0).1) * ((P 2).2 - (P 1).2) - ((P 1).2 - (P 0).2) * ((P 2).1 - (P 1).1) := by unfold crossL; grind
    rw [e]
    exact this
  show 0 < 0 + crossL (P 0) (P (0 + 1)) (P 0) + crossL (P 1) (P 2) (P 0) + _
  omega
end
/-! ### windings -/
/-- Of a row that never goes up just one step passes a height. -/
theorem pass_one {Y : Nat → Int} {y : Int} : ∀ {m : Nat}, (∀ j, j < m → Y j ≤ Y (j + 1)) → Y 0 ≤ y → y < Y m → ∃ j, j < m ∧ (Y j ≤ y ∧ y < Y (j + 1)) ∧ ∀ i, i < m → i ≠ j → ¬ (Y i ≤ y ∧ y < Y (i + 1))
  | 0, _, h0, h1 => by omega
  | m + 1, h, h0, h1 => by
    rcases Int.lt_or_le y (Y m) with hy | hy
    · obtain ⟨j, hj, h2, h3⟩ := pass_one (m := m) (fun j hj => h j (by omega)) h0 hy
      refine ⟨j, by omega, h2, fun i hi hij => ?_⟩
      rcases Nat.lt_or_ge i m with h4 | h4
      · exact h3 i h4 hij
      · obtain rfl : i = m := by omega
        omega
    · refine ⟨m, by omega, ⟨hy, h1⟩, fun i hi hij => ?_⟩
      have mono : ∀ d, i + 1 + d ≤ m → Y (i + 1) ≤ Y (i + 1 + d) := by
        intro d
        induction d with
        | zero => intro _; exact Int.le_refl _
        | succ d ih => intro hd; exact Int.le_trans (ih (by omega)) (h (i + 1 + d) (by omega))
      have := mono (m - (i + 1)) (by omega)
      rw [show i + 1 + (m - (i + 1)) = m by omega] at this
      omega
theorem side_cross (a b : Pt) (p : Pt) : crossL a b p = - sideL a b p.1 p.2 := by
  unfold crossL sideL
  grind
/-- An edge whose ends are to the left of another one, or on it, is to the left of it at every height, or on it. -/
theorem side_left_of {a b c d : Pt} {x y : Int} (h1 : a.2 ≤ y) (h2 : y < b.2) (h3 : d.2 ≤ y) (h4 : y < c.2) (hc : sideL a b c.1 c.2 ≤ 0) (hd : sideL a b d.1 d.2 ≤ 0) (h : 0 ≤ sideL a b x y) : 0 ≤ sideL d c x y := by
  have id1 : (b.2 - a.2) * sideL d c x y = (c.2 - d.2) * sideL a b x y - (c.2 - y) * sideL a b d.1 d.2 - (y - d.2) * sideL a b c.1 c.2 := by
    unfold sideL
    grind
  have k1 : 0 ≤ (c.2 - d.2) * sideL a b x y := Int.mul_nonneg (by omega) h
  have k2 : (c.2 - y) * sideL a b d.1 d.2 ≤ 0 := Int.mul_nonpos_of_nonneg_of_nonpos (by omega) hd
  have k3 : (y - d.2) * sideL a b c.1 c.2 ≤ 0 := Int.mul_nonpos_of_nonneg_of_nonpos (by omega) hc
  have k4 : 0 ≤ (b.2 - a.2) * sideL d c x y := by omega
  exact Int.nonneg_of_mul_nonneg_right k4 (by omega)
end Go.Proofs.Ytalicpgnjpgloaa
