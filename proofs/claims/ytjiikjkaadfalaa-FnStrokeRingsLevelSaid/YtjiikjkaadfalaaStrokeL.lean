/-
  Roots and strokes, plainly.
-/
import Derived.Test.YtjiikjkaadfalaaWindL
import Derived.Test.YtjiikjkaadfalaaNum
namespace Go.Proofs.Ytjiikjkaadfalaa
open Go Go.RowKit Reg

def rootL : Nat → Nat
  | 0 => 0
  | n + 1 => if (rootL n + 1) * (rootL n + 1) ≤ n + 1 then rootL n + 1 else rootL n
theorem rootL_spec (n : Nat) : rootL n * rootL n ≤ n ∧ n < (rootL n + 1) * (rootL n + 1) := by
  induction n with
  | zero => simp [rootL]
  | succ n ih =>
    obtain ⟨h1, h2⟩ := ih
    simp only [rootL]
    split
    · rename_i h
      refine ⟨h, ?_⟩
      have : (rootL n + 1 + 1) * (rootL n + 1 + 1) = (rootL n + 1) * (rootL n + 1) + 2 * (rootL n + 1) + 1 := by
        simp only [Nat.add_mul, Nat.mul_add]; omega
      omega
    · rename_i h; omega
theorem rootL_uniq {n r : Nat} (h1 : r * r ≤ n) (h2 : n < (r + 1) * (r + 1)) : r = rootL n := by
  obtain ⟨h3, h4⟩ := rootL_spec n
  rcases Nat.lt_trichotomy r (rootL n) with h | h | h
  · have := Nat.mul_le_mul (show r + 1 ≤ rootL n from h) (show r + 1 ≤ rootL n from h)
    omega
  · exact h
  · have := Nat.mul_le_mul (show rootL n + 1 ≤ r from h) (show rootL n + 1 ≤ r from h)
    omega
theorem rootL_sq (n : Nat) : rootL (n * n) = n := (rootL_uniq (Nat.le_refl _) (by simp only [Nat.add_mul, Nat.mul_add]; omega)).symm
theorem rootL_pos {n : Nat} (h : 0 < n) : 0 < rootL n := by
  rcases Nat.eq_zero_or_pos (rootL n) with h0 | h0
  · have := (rootL_spec n).2
    rw [h0] at this; omega
  · exact h0
theorem rootL_lt {n b : Nat} (h : n < b * b) : rootL n < b := by
  rcases Nat.lt_or_ge (rootL n) b with h0 | h0
  · exact h0
  · have := Nat.mul_le_mul h0 h0
    have := (rootL_spec n).1
    omega

/-- The length of a line. -/
def longL (a b : Pt) : Nat := rootL ((b.1 - a.1) * (b.1 - a.1) + (b.2 - a.2) * (b.2 - a.2)).toNat
theorem sq_nonneg (x : Int) : 0 ≤ x * x := by
  rcases Int.le_total 0 x with h | h
  · exact Int.mul_nonneg h h
  · have := Int.mul_nonneg (show 0 ≤ -x by omega) (show 0 ≤ -x by omega)
    rwa [Int.neg_mul_neg] at this
theorem sq_pos {x : Int} (h : x ≠ 0) : 0 < x * x := by
  have h1 := sq_nonneg x
  rcases Int.lt_or_eq_of_le h1 with h2 | h2
  · exact h2
  · rcases Int.mul_eq_zero.1 h2.symm with h | h <;> omega
theorem sq_le {x : Int} {B : Int} (h1 : -B ≤ x) (h2 : x ≤ B) : x * x ≤ B * B := by
  have h := Int.mul_nonneg (show 0 ≤ B - x by omega) (show 0 ≤ B + x by omega)
  have e : (B - x) * (B + x) = B * B - x * x := by rw [Int.sub_mul, Int.mul_add, Int.mul_add, Int.mul_comm x B]; omega
  omega
theorem longL_pos {a b : Pt} (h : a ≠ b) : 0 < longL a b := by
  apply rootL_pos
  have h1 := sq_nonneg (b.1 - a.1)
  have h2 := sq_nonneg (b.2 - a.2)
  by_cases h3 : b.1 - a.1 = 0
  · have h4 : b.2 - a.2 ≠ 0 := fun h4 => h (Prod.ext (by omega) (by omega))
    have := sq_pos h4
    omega
  · have := sq_pos h3
    omega
theorem longL_move (a b : Pt) (s t : Int) : longL (a.1 + s, a.2 + t) (b.1 + s, b.2 + t) = longL a b := by
  unfold longL
  dsimp only
  have e1 : b.1 + s - (a.1 + s) = b.1 - a.1 := by omega
  have e2 : b.2 + t - (a.2 + t) = b.2 - a.2 := by omega
  rw [e1, e2]
/-- How far the sides of a thick line stand from its middle. -/
def nrmL (a b : Pt) (h : Int) : Pt := (rndL ((a.2 - b.2) * h) (longL a b), rndL ((b.1 - a.1) * h) (longL a b))
def barP (a b n : Pt) : Rg := [(a.1 + n.1, a.2 + n.2), (b.1 + n.1, b.2 + n.2), (b.1 - n.1, b.2 - n.2), (a.1 - n.1, a.2 - n.2)]
def barL (a b : Pt) (h : Int) : Rg := barP a b (nrmL a b h)
def strokesL (h : Int) : Rg → List Rg
  | [] => []
  | [_] => []
  | a :: b :: r => (if a = b then [] else [barL a b h]) ++ strokesL h (b :: r)
theorem strokesL_snoc (h : Int) : ∀ (r : Rg) (a b : Pt), strokesL h (r ++ [a] ++ [b]) = strokesL h (r ++ [a]) ++ (if a = b then [] else [barL a b h])
  | [], a, b => by simp [strokesL]
  | [x], a, b => by simp [strokesL]
  | x :: y :: r, a, b => by
    have ih := strokesL_snoc h (y :: r) a b
    simp only [List.cons_append, strokesL] at ih ⊢
    rw [ih, List.append_assoc]
theorem strokesL_take {h : Int} {r : Rg} {k : Nat} (hk : k + 1 < r.length) : strokesL h (r.take (k + 2)) = strokesL h (r.take (k + 1)) ++ (if r[k] = r[k + 1] then [] else [barL r[k] r[k + 1] h]) := by
  rw [List.take_succ_eq_append_getElem hk, List.take_succ_eq_append_getElem (show k < r.length by omega), strokesL_snoc]
theorem strokesL_one {h : Int} (r : Rg) : strokesL h (r.take 1) = [] := by
  cases r with
  | nil => rfl
  | cons a r => simp [strokesL]
theorem strokesL_len (h : Int) : ∀ r : Rg, (strokesL h r).length ≤ r.length
  | [] => by simp [strokesL]
  | [_] => by simp [strokesL]
  | a :: b :: r => by
    have ih := strokesL_len h (b :: r)
    simp only [strokesL, List.length_append]
    split <;> simp only [List.length_cons, List.length_nil] at ih ⊢ <;> omega
theorem strokesL_four (h : Int) : ∀ r : Rg, ∀ q ∈ strokesL h r, q.length = 4
  | [], q, hq => by simp [strokesL] at hq
  | [_], q, hq => by simp [strokesL] at hq
  | a :: b :: r, q, hq => by
    simp only [strokesL] at hq
    rcases List.mem_append.1 hq with hq | hq
    · split at hq
      · simp at hq
      · simp at hq; subst hq; rfl
    · exact strokesL_four h (b :: r) q hq
def strokeOk (r : Rg) (h : Int) : Bool := psB r && decide (r.length ≤ 8) && inB h 1 100
def strokeR (r : Rg) (h : Int) : List Rg × Bool := if strokeOk r h && rgsB (strokesL h r) then (strokesL h r, true) else ([], false)
theorem strokeOk_iff {r : Rg} {h : Int} : strokeOk r h = true ↔ psB r = true ∧ r.length ≤ 8 ∧ (1 ≤ h ∧ h ≤ 100) := by
  simp only [strokeOk, Bool.and_eq_true, decide_eq_true_eq, inB]
  constructor
  · rintro ⟨⟨h1, h2⟩, h3⟩; exact ⟨h1, h2, by simpa using h3⟩
  · rintro ⟨h1, h2, h3⟩; exact ⟨⟨h1, h2⟩, by simpa using h3⟩
theorem rndL_bd {a b B : Int} (hb : 0 < b) (h1 : -B ≤ a) (h2 : a ≤ B) (hB : 0 ≤ B) : -B - 1 ≤ rndL a b ∧ rndL a b ≤ B + 1 := by
  unfold rndL
  have hb2 : 0 < 2 * b := by omega
  constructor
  · rw [Int.le_ediv_iff_mul_le hb2]
    have : (-B - 1) * (2 * b) ≤ (-B) * 2 + b := by
      have h3 : (-B - 1) * (2 * b) = -(2 * (B * b)) - 2 * b := by rw [Int.sub_mul, Int.neg_mul, Int.mul_left_comm]; omega
      have h4 : B * 1 ≤ B * b := Int.mul_le_mul_of_nonneg_left (by omega) hB
      omega
    omega
  · have : (2 * a + b) / (2 * b) < B + 2 := by
      rw [Int.ediv_lt_iff_lt_mul hb2]
      have h3 : (B + 2) * (2 * b) = 2 * (B * b) + 4 * b := by rw [Int.add_mul, Int.mul_left_comm]; omega
      have h4 : B * 1 ≤ B * b := Int.mul_le_mul_of_nonneg_left (by omega) hB
      omega
    omega
end Go.Proofs.Ytjiikjkaadfalaa
