/-
  Polygons, plainly: sums over edges, windings, areas, and their laws. Nothing of a program.
-/
import Derived.Test.YteknlifgejpjfaaLib
namespace Go.Proofs.Yteknlifgejpjfaa
open Go Go.RowKit Reg

abbrev Rg := List Pt
abbrev Ed := Pt × Pt
/-- The edges of a polygon, in order. -/
def edgesL (r : Rg) : List Ed := r.zip (r.tail ++ r.take 1)
def edgesS (rs : List Rg) : List Ed := rs.flatMap edgesL
def sumI (l : List Int) : Int := l.foldr (· + ·) 0
/-- A sum over the edges of a polygon. -/
def sumE (f : Pt → Pt → Int) (r : Rg) : Int := sumI ((edgesL r).map fun e => f e.1 e.2)
def sumS (f : Pt → Pt → Int) (rs : List Rg) : Int := sumI (rs.map (sumE f))

theorem sumI_nil : sumI [] = 0 := rfl
theorem sumI_cons (x : Int) (l : List Int) : sumI (x :: l) = x + sumI l := rfl
theorem sumI_append (l m : List Int) : sumI (l ++ m) = sumI l + sumI m := by
  induction l with
  | nil => simp [sumI_nil]
  | cons x l ih => rw [List.cons_append, sumI_cons, sumI_cons, ih]; omega
theorem sumI_snoc (l : List Int) (x : Int) : sumI (l ++ [x]) = sumI l + x := by rw [sumI_append, sumI_cons, sumI_nil]; omega
theorem sumI_rev (l : List Int) : sumI l.reverse = sumI l := by
  induction l with
  | nil => rfl
  | cons x l ih => rw [List.reverse_cons, sumI_snoc, sumI_cons, ih]; omega
theorem sumI_neg (l : List Int) : sumI (l.map fun x => -x) = - sumI l := by
  induction l with
  | nil => rfl
  | cons x l ih => rw [List.map_cons, sumI_cons, sumI_cons, ih]; omega
theorem sumI_bd {l : List Int} {B : Int} (h : ∀ x ∈ l, -B ≤ x ∧ x ≤ B) : -(l.length * B) ≤ sumI l ∧ sumI l ≤ l.length * B := by
  induction l with
  | nil => simp [sumI_nil]
  | cons x l ih =>
    have h1 := h x List.mem_cons_self
    have h2 := ih fun y hy => h y (List.mem_cons_of_mem _ hy)
    rw [sumI_cons]
    have e : (((x :: l).length : Nat) : Int) * B = (l.length : Int) * B + B := by rw [List.length_cons]; push_cast; rw [Int.add_mul]; omega
    rw [e]; omega

theorem edgesL_len (r : Rg) : (edgesL r).length = r.length := by
  unfold edgesL
  rw [List.length_zip]
  cases r with
  | nil => rfl
  | cons a r => simp
theorem edgesL_get {r : Rg} {k : Nat} (h : k < r.length) : (edgesL r)[k]'(by rw [edgesL_len]; exact h) = (r[k], r[(k + 1) % r.length]'(Nat.mod_lt _ (by omega))) := by
  unfold edgesL
  rw [List.getElem_zip]
  congr 1
  rcases Nat.lt_or_ge (k + 1) r.length with h1 | h1
  · rw [List.getElem_append_left (by simp; omega), List.getElem_tail]
    congr 1; exact (Nat.mod_eq_of_lt h1).symm
  · have e : k + 1 = r.length := by omega
    rw [List.getElem_append_right (by simp; omega)]
    have e2 : (k + 1) % r.length = 0 := by rw [e]; exact Nat.mod_self _
    simp only [List.length_tail, List.getElem_take, e2]
    congr 1; omega

/-! ### sums around a polygon -/
theorem edgesL_cons (a : Pt) (r : Rg) : edgesL (a :: r) = (a :: r).zip (r ++ [a]) := rfl
/-- Sums along a list of points. -/
def chain (f : Pt → Pt → Int) : Pt → Rg → Int
  | _, [] => 0
  | a, b :: r => f a b + chain f b r
def lastP : Pt → Rg → Pt
  | a, [] => a
  | _, b :: r => lastP b r
theorem lastP_snoc : ∀ (a : Pt) (r : Rg) (c : Pt), lastP a (r ++ [c]) = c
  | _, [], _ => rfl
  | _, b :: r, c => lastP_snoc b r c
theorem chain_snoc (f : Pt → Pt → Int) : ∀ (a : Pt) (r : Rg) (c : Pt), chain f a (r ++ [c]) = chain f a r + f (lastP a r) c
  | a, [], c => by simp [chain, lastP]
  | a, b :: r, c => by
    rw [List.cons_append, chain, chain, chain_snoc f b r c, lastP]; omega
theorem zip_chain (f : Pt → Pt → Int) : ∀ (a : Pt) (r : Rg) (c : Pt), sumI (((a :: r).zip (r ++ [c])).map fun e => f e.1 e.2) = chain f a (r ++ [c])
  | a, [], c => by simp [chain, sumI]
  | a, b :: r, c => by
    rw [List.cons_append, List.zip_cons_cons, List.map_cons, sumI_cons, zip_chain f b r c]; rfl
theorem sumE_cons (f : Pt → Pt → Int) (a : Pt) (r : Rg) : sumE f (a :: r) = chain f a (r ++ [a]) := zip_chain f a r a
theorem sumE_nil (f : Pt → Pt → Int) : sumE f [] = 0 := rfl
theorem chain_append (f : Pt → Pt → Int) : ∀ (a : Pt) (r s : Rg), chain f a (r ++ s) = chain f a r + chain f (lastP a r) s
  | a, [], s => by simp [chain, lastP]
  | a, b :: r, s => by rw [List.cons_append, chain, chain, chain_append f b r s, lastP]; omega
/-- A polygon can begin anywhere. -/
theorem sumE_turn (f : Pt → Pt → Int) (a : Pt) (r : Rg) : sumE f (r ++ [a]) = sumE f (a :: r) := by
  cases r with
  | nil => rfl
  | cons b r =>
    rw [List.cons_append, sumE_cons, sumE_cons, chain_append, List.cons_append, chain]
    rw [lastP_snoc]
    simp only [chain]; omega
theorem chain_reverse (f g : Pt → Pt → Int) (hg : ∀ a b, g a b = f b a) : ∀ (r : Rg) (a c : Pt), chain g c (r.reverse ++ [a]) = chain f a (r ++ [c])
  | [], a, c => by simp [chain, hg]
  | b :: r, a, c => by
    rw [List.reverse_cons, chain_snoc, List.cons_append, chain, chain_reverse f g hg r b c]
    rw [lastP_snoc, hg]; omega
/-- Reversed polygons. -/
theorem sumE_rev (f g : Pt → Pt → Int) (hg : ∀ a b, g a b = f b a) (r : Rg) : sumE g r.reverse = sumE f r := by
  cases r with
  | nil => rfl
  | cons a r =>
    rw [List.reverse_cons, sumE_turn, sumE_cons, sumE_cons, chain_reverse f g hg]
theorem sumE_neg (f : Pt → Pt → Int) (r : Rg) : sumE (fun a b => - f a b) r = - sumE f r := by
  unfold sumE
  rw [← sumI_neg, List.map_map]; rfl
theorem sumE_revneg (f : Pt → Pt → Int) (hf : ∀ a b, f b a = - f a b) (r : Rg) : sumE f r.reverse = - sumE f r := by
  rw [← sumE_neg]
  exact sumE_rev _ f (fun a b => hf b a) r
theorem sumS_nil (f : Pt → Pt → Int) : sumS f [] = 0 := rfl
theorem sumS_cons (f : Pt → Pt → Int) (r : Rg) (rs : List Rg) : sumS f (r :: rs) = sumE f r + sumS f rs := rfl
theorem sumS_append (f : Pt → Pt → Int) (rs ss : List Rg) : sumS f (rs ++ ss) = sumS f rs + sumS f ss := by unfold sumS; rw [List.map_append, sumI_append]
theorem sumS_snoc (f : Pt → Pt → Int) (rs : List Rg) (r : Rg) : sumS f (rs ++ [r]) = sumS f rs + sumE f r := by rw [sumS_append, sumS_cons, sumS_nil]; omega
theorem sumS_one (f : Pt → Pt → Int) (r : Rg) : sumS f [r] = sumE f r := by rw [sumS_cons, sumS_nil]; omega
theorem sumS_revneg (f : Pt → Pt → Int) (hf : ∀ a b, f b a = - f a b) (rs : List Rg) : sumS f (rs.map List.reverse) = - sumS f rs := by
  induction rs with
  | nil => rfl
  | cons r rs ih => rw [List.map_cons, sumS_cons, sumS_cons, ih, sumE_revneg f hf]; omega
def turnL (r : Rg) : Rg := r.tail ++ r.take 1
theorem sumE_turnL (f : Pt → Pt → Int) (r : Rg) : sumE f (turnL r) = sumE f r := by
  cases r with
  | nil => rfl
  | cons a r => exact sumE_turn f a r
theorem sumS_turnL (f : Pt → Pt → Int) (rs : List Rg) : sumS f (rs.map turnL) = sumS f rs := by
  unfold sumS; rw [List.map_map]; congr 1; apply List.map_congr_left; intro r _; exact sumE_turnL f r
theorem sumE_congr {f g : Pt → Pt → Int} {r : Rg} (h : ∀ a ∈ r, ∀ b ∈ r, f a b = g a b) : sumE f r = sumE g r := by
  unfold sumE
  congr 1
  apply List.map_congr_left
  rintro ⟨a, b⟩ he
  have h1 := (List.of_mem_zip he).1
  have h2 := (List.of_mem_zip he).2
  refine h a h1 b ?_
  rcases List.mem_append.1 h2 with h2 | h2
  · exact List.mem_of_mem_tail h2
  · exact List.mem_of_mem_take h2
theorem chain_tele (g : Pt → Int) : ∀ (a : Pt) (r : Rg), chain (fun a b => g b - g a) a r = g (lastP a r) - g a
  | a, [] => by simp [chain, lastP]
  | a, b :: r => by rw [chain, chain_tele g b r, lastP]; omega
/-- What telescopes comes to nothing. -/
theorem sumE_tele (g : Pt → Int) (r : Rg) : sumE (fun a b => g b - g a) r = 0 := by
  cases r with
  | nil => rfl
  | cons a r => rw [sumE_cons, chain_tele, lastP_snoc]; omega
theorem sumE_add (f g : Pt → Pt → Int) (r : Rg) : sumE (fun a b => f a b + g a b) r = sumE f r + sumE g r := by
  unfold sumE
  induction edgesL r with
  | nil => rfl
  | cons e l ih => simp only [List.map_cons, sumI_cons, ih]; omega
theorem sumE_zero (r : Rg) : sumE (fun _ _ => 0) r = 0 := by
  unfold sumE
  induction edgesL r with
  | nil => rfl
  | cons e l ih => simp only [List.map_cons, sumI_cons, ih]; omega
theorem sumE_map (f : Pt → Pt → Int) (m : Pt → Pt) (r : Rg) : sumE f (r.map m) = sumE (fun a b => f (m a) (m b)) r := by
  cases r with
  | nil => rfl
  | cons a r =>
    have key : ∀ (r : Rg) (a : Pt), chain f (m a) (r.map m) = chain (fun a b => f (m a) (m b)) a r := by
      intro r
      induction r with
      | nil => intro a; rfl
      | cons b r ih => intro a; rw [List.map_cons, chain, chain, ih]
    rw [List.map_cons, sumE_cons, sumE_cons, ← key]
    simp

/-! ### windings and areas -/
def sideL (a b : Pt) (x y : Int) : Int := (x - a.1) * (b.2 - a.2) - (y - a.2) * (b.1 - a.1)
def stepL (x y : Int) (a b : Pt) : Int :=
  if a.2 ≤ y ∧ y < b.2 ∧ 0 ≤ sideL a b x y then 1 else if b.2 ≤ y ∧ y < a.2 ∧ 0 ≤ sideL b a x y then -1 else 0
def windL (rs : List Rg) (x y : Int) : Int := sumS (stepL x y) rs
def areaE (a b : Pt) : Int := a.1 * b.2 - b.1 * a.2
def areaL (rs : List Rg) : Int := sumS areaE rs
def rgB (r : Rg) : Bool := decide (0 < r.length) && psB r
def corners (rs : List Rg) : Nat := (rs.map List.length).sum
def rgsB (rs : List Rg) : Bool := rs.all rgB && (decide (rs.length ≤ 8) && decide (corners rs ≤ 200))
def windR (rs : List Rg) (x y : Int) : Int := if rgsB rs && inB x (-1000) 1000 && inB y (-1000) 1000 then windL rs x y else 0
def areaR (rs : List Rg) : Int := if rgsB rs then areaL rs else 0

theorem stepL_anti (x y : Int) (a b : Pt) : stepL x y b a = - stepL x y a b := by
  unfold stepL
  by_cases h1 : a.2 ≤ y ∧ y < b.2 ∧ 0 ≤ sideL a b x y
  · have h2 : ¬ (b.2 ≤ y ∧ y < a.2 ∧ 0 ≤ sideL b a x y) := by omega
    simp [h1, h2]
  · by_cases h2 : b.2 ≤ y ∧ y < a.2 ∧ 0 ≤ sideL b a x y
    · simp [h1, h2]
    · simp [h1, h2]
theorem stepL_bd (x y : Int) (a b : Pt) : -1 ≤ stepL x y a b ∧ stepL x y a b ≤ 1 := by
  unfold stepL; split
  · omega
  · split <;> omega
theorem areaE_anti (a b : Pt) : areaE b a = - areaE a b := by unfold areaE; omega
theorem sumE_bd {f : Pt → Pt → Int} {r : Rg} {B : Int} (h : ∀ a ∈ r, ∀ b ∈ r, -B ≤ f a b ∧ f a b ≤ B) : -(r.length * B) ≤ sumE f r ∧ sumE f r ≤ r.length * B := by
  unfold sumE
  have := sumI_bd (l := (edgesL r).map fun e => f e.1 e.2) (B := B) (by
    intro v hv
    obtain ⟨⟨a, b⟩, he, rfl⟩ := List.mem_map.1 hv
    have h1 := (List.of_mem_zip he).1
    have h2 := (List.of_mem_zip he).2
    refine h a h1 b ?_
    rcases List.mem_append.1 h2 with h2 | h2
    · exact List.mem_of_mem_tail h2
    · exact List.mem_of_mem_take h2)
  rwa [List.length_map, edgesL_len] at this
theorem rgsB_iff {rs : List Rg} : rgsB rs = true ↔ (∀ r ∈ rs, 0 < r.length ∧ psB r = true) ∧ rs.length ≤ 8 ∧ corners rs ≤ 200 := by
  simp [rgsB, rgB]
theorem corners_cons (r : Rg) (rs : List Rg) : corners (r :: rs) = r.length + corners rs := rfl
theorem corners_append (rs ss : List Rg) : corners (rs ++ ss) = corners rs + corners ss := by simp [corners]
theorem corners_snoc (rs : List Rg) (r : Rg) : corners (rs ++ [r]) = corners rs + r.length := by simp [corners]

/-! ### outside -/
theorem vp_of {r : Rg} (h : psB r = true) {p : Pt} (hp : p ∈ r) : (-1000 ≤ p.1 ∧ p.1 ≤ 1000) ∧ (-1000 ≤ p.2 ∧ p.2 ≤ 1000) := by
  obtain ⟨k, hk, rfl⟩ := List.getElem_of_mem hp
  exact psB_at h hk
theorem wind_above {r : Rg} {x y : Int} (h : ∀ p ∈ r, y < p.2) : sumE (stepL x y) r = 0 := by
  rw [← sumE_zero r]
  refine sumE_congr fun a ha b hb => ?_
  have h1 := h a ha; have h2 := h b hb
  unfold stepL; rw [if_neg (by omega), if_neg (by omega)]
theorem wind_below {r : Rg} {x y : Int} (h : ∀ p ∈ r, p.2 ≤ y) : sumE (stepL x y) r = 0 := by
  rw [← sumE_zero r]
  refine sumE_congr fun a ha b hb => ?_
  have h1 := h a ha; have h2 := h b hb
  unfold stepL; rw [if_neg (by omega), if_neg (by omega)]
theorem side_left {a b : Pt} {x y : Int} (h1 : a.2 ≤ y) (h2 : y < b.2) (h3 : x < a.1) (h4 : x < b.1) : sideL a b x y < 0 := by
  unfold sideL
  have e : (x - a.1) * (b.2 - a.2) - (y - a.2) * (b.1 - a.1) = (x - a.1) * (b.2 - y) + (y - a.2) * (x - b.1) := by
    have p1 : b.2 - a.2 = (b.2 - y) + (y - a.2) := by omega
    have p2 : b.1 - a.1 = (b.1 - x) + (x - a.1) := by omega
    have p3 : x - b.1 = - (b.1 - x) := by omega
    rw [p1, p2, p3, Int.mul_add, Int.mul_add, Int.mul_neg, Int.mul_comm (y - a.2) (x - a.1)]; omega
  rw [e]
  have q1 : (x - a.1) * (b.2 - y) < 0 := Int.mul_neg_of_neg_of_pos (by omega) (by omega)
  have q2 : (y - a.2) * (x - b.1) ≤ 0 := Int.mul_nonpos_of_nonneg_of_nonpos (by omega) (by omega)
  omega
theorem side_right {a b : Pt} {x y : Int} (h1 : a.2 ≤ y) (h2 : y < b.2) (h3 : a.1 ≤ x) (h4 : b.1 ≤ x) : 0 ≤ sideL a b x y := by
  unfold sideL
  have e : (x - a.1) * (b.2 - a.2) - (y - a.2) * (b.1 - a.1) = (x - a.1) * (b.2 - y) + (y - a.2) * (x - b.1) := by
    have p1 : b.2 - a.2 = (b.2 - y) + (y - a.2) := by omega
    have p2 : b.1 - a.1 = (b.1 - x) + (x - a.1) := by omega
    have p3 : x - b.1 = - (b.1 - x) := by omega
    rw [p1, p2, p3, Int.mul_add, Int.mul_add, Int.mul_neg, Int.mul_comm (y - a.2) (x - a.1)]; omega
  rw [e]
  have q1 : 0 ≤ (x - a.1) * (b.2 - y) := Int.mul_nonneg (by omega) (by omega)
  have q2 : 0 ≤ (y - a.2) * (x - b.1) := Int.mul_nonneg (by omega) (by omega)
  omega
theorem wind_left {r : Rg} {x y : Int} (h : ∀ p ∈ r, x < p.1) : sumE (stepL x y) r = 0 := by
  rw [← sumE_zero r]
  refine sumE_congr fun a ha b hb => ?_
  have h1 := h a ha; have h2 := h b hb
  unfold stepL
  rw [if_neg (fun hh => by have := side_left hh.1 hh.2.1 h1 h2; omega), if_neg (fun hh => by have := side_left hh.1 hh.2.1 h2 h1; omega)]
theorem wind_right {r : Rg} {x y : Int} (h : ∀ p ∈ r, p.1 ≤ x) : sumE (stepL x y) r = 0 := by
  rw [← sumE_tele (fun p => if p.2 ≤ y then -1 else 0) r]
  refine sumE_congr fun a ha b hb => ?_
  have h1 := h a ha; have h2 := h b hb
  unfold stepL
  by_cases c1 : a.2 ≤ y
  · by_cases c2 : b.2 ≤ y
    · rw [if_neg (by omega), if_neg (by omega), if_pos c1, if_pos c2]; omega
    · rw [if_pos ⟨c1, by omega, side_right c1 (by omega) h1 h2⟩, if_neg c2, if_pos c1]; omega
  · by_cases c2 : b.2 ≤ y
    · rw [if_neg (by omega), if_pos ⟨c2, by omega, side_right c2 (by omega) h2 h1⟩, if_pos c2, if_neg c1]; omega
    · rw [if_neg (by omega), if_neg (by omega), if_neg c1, if_neg c2]; omega
/-- Areas do not depend on places. -/
theorem area_move (s t : Int) (r : Rg) : sumE areaE (r.map fun p => (p.1 + s, p.2 + t)) = sumE areaE r := by
  rw [sumE_map]
  have e : sumE (fun a b => areaE (a.1 + s, a.2 + t) (b.1 + s, b.2 + t)) r = sumE (fun a b => areaE a b + ((s * b.2 - t * b.1) - (s * a.2 - t * a.1))) r := by
    refine sumE_congr fun a _ b _ => ?_
    unfold areaE
    dsimp only; rw [Int.mul_comm t b.1, Int.mul_comm t a.1]; simp only [Int.add_mul, Int.mul_add]; omega
  rw [e, sumE_add areaE (fun a b => (s * b.2 - t * b.1) - (s * a.2 - t * a.1)), sumE_tele (fun p => s * p.2 - t * p.1)]; omega
end Go.Proofs.Yteknlifgejpjfaa
