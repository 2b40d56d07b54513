/-
  Several texts in one: WindL, Rings, Org, KeepB.
-/
import Derived.Test.YtagmnbphbakikaaGreatMg1
import Derived.Test.YtagmnbphbakikaaGreatMg2
import Derived.Test.YtagmnbphbakikaaGreatMg3
namespace Go.Proofs.YtagmnbphbakikaaGreat
open Go Go.RowKit Reg

abbrev Rg := List Pt
abbrev Ed := Pt × Pt
/-- The edges of a polygon, in order. -/
def edgesL (r : Rg) : List Ed := r.zip (r.tail ++ r.take 1)
def edgesS (rs : List Rg) : List Ed := rs.flatMap edgesL
def sumI (l : List Int) : Int := l.foldr (· + ·) 0
/-- A sum over the edges of a polygon. -/
def sumE (f : Pt → Pt → Int) (r : Rg) : Int := sumI ((edgesL r).map fun e => f e.1 e.2)
def sumS (f : Pt → Pt → Int) (rs : List Rg) : Int := sumI (rs.map (sumE f))

theorem sumI_nil : sumI [] = 0 := rfl
theorem sumI_cons (x : Int) (l : List Int) : sumI (x :: l) = x + sumI l := rfl
theorem sumI_append (l m : List Int) : sumI (l ++ m) = sumI l + sumI m := by
  induction l with
  | nil => simp [sumI_nil]
  | cons x l ih => rw [List.cons_append, sumI_cons, sumI_cons, ih]; omega
theorem sumI_snoc (l : List Int) (x : Int) : sumI (l ++ [x]) = sumI l + x := by rw [sumI_append, sumI_cons, sumI_nil]; omega
theorem sumI_rev (l : List Int) : sumI l.reverse = sumI l := by
  induction l with
  | nil => rfl
  | cons x l ih => rw [List.reverse_cons, sumI_snoc, sumI_cons, ih]; omega
theorem sumI_neg (l : List Int) : sumI (l.map fun x => -x) = - sumI l := by
  induction l with
  | nil => rfl
  | cons x l ih => rw [List.map_cons, sumI_cons, sumI_cons, ih]; omega
theorem sumI_bd {l : List Int} {B : Int} (h : ∀ x ∈ l, -B ≤ x ∧ x ≤ B) : -(l.length * B) ≤ sumI l ∧ sumI l ≤ l.length * B := by
  induction l with
  | nil => simp [sumI_nil]
  | cons x l ih =>
    have h1 := h x List.mem_cons_self
    have h2 := ih fun y hy => h y (List.mem_cons_of_mem _ hy)
    rw [sumI_cons]
    have e : (((x :: l).length : Nat) : Int) * B = (l.length : Int) * B + B := by rw [List.length_cons]; push_cast; rw [Int.add_mul]; omega
    rw [e]; omega

theorem edgesL_len (r : Rg) : (edgesL r).length = r.length := by
  unfold edgesL
  rw [List.length_zip]
  cases r with
  | nil => rfl
  | cons a r => simp
theorem edgesL_get {r : Rg} {k : Nat} (h : k < r.length) : (edgesL r)[k]'(by rw [edgesL_len]; exact h) = (r[k], r[(k + 1) % r.length]'(Nat.mod_lt _ (by omega))) := by
  unfold edgesL
  rw [List.getElem_zip]
  congr 1
  rcases Nat.lt_or_ge (k + 1) r.length with h1 | h1
  · rw [List.getElem_append_left (by simp; omega), List.getElem_tail]
    congr 1; exact (Nat.mod_eq_of_lt h1).symm
  · have e : k + 1 = r.length := by omega
    rw [List.getElem_append_right (by simp; omega)]
    have e2 : (k + 1) % r.length = 0 := by rw [e]; exact Nat.mod_self _
    simp only [List.length_tail, List.getElem_take, e2]
    congr 1; omega

/-! ### sums around a polygon -/
theorem edgesL_cons (a : Pt) (r : Rg) : edgesL (a :: r) = (a :: r).zip (r ++ [a]) := rfl
/-- Sums along a list of points. -/
def chain (f : Pt → Pt → Int) : Pt → Rg → Int
  | _, [] => 0
  | a, b :: r => f a b + chain f b r
def lastP : Pt → Rg → Pt
  | a, [] => a
  | _, b :: r => lastP b r
theorem lastP_snoc : ∀ (a : Pt) (r : Rg) (c : Pt), lastP a (r ++ [c]) = c
  | _, [], _ => rfl
  | _, b :: r, c => lastP_snoc b r c
theorem chain_snoc (f : Pt → Pt → Int) : ∀ (a : Pt) (r : Rg) (c : Pt), chain f a (r ++ [c]) = chain f a r + f (lastP a r) c
  | a, [], c => by simp [chain, lastP]
  | a, b :: r, c => by
    rw [List.cons_append, chain, chain, chain_snoc f b r c, lastP]; omega
theorem zip_chain (f : Pt → Pt → Int) : ∀ (a : Pt) (r : Rg) (c : Pt), sumI (((a :: r).zip (r ++ [c])).map fun e => f e.1 e.2) = chain f a (r ++ [c])
  | a, [], c => by simp [chain, sumI]
  | a, b :: r, c => by
    rw [List.cons_append, List.zip_cons_cons, List.map_cons, sumI_cons, zip_chain f b r c]; rfl
theorem sumE_cons (f : Pt → Pt → Int) (a : Pt) (r : Rg) : sumE f (a :: r) = chain f a (r ++ [a]) := zip_chain f a r a
theorem sumE_nil (f : Pt → Pt → Int) : sumE f [] = 0 := rfl
theorem chain_append (f : Pt → Pt → Int) : ∀ (a : Pt) (r s : Rg), chain f a (r ++ s) = chain f a r + chain f (lastP a r) s
  | a, [], s => by simp [chain, lastP]
  | a, b :: r, s => by rw [List.cons_append, chain, chain, chain_append f b r s, lastP]; omega
/-- A polygon can begin anywhere. -/
theorem sumE_turn (f : Pt → Pt → Int) (a : Pt) (r : Rg) : sumE f (r ++ [a]) = sumE f (a :: r) := by
  cases r with
  | nil => rfl
  | cons b r =>
    rw [List.cons_append, sumE_cons, sumE_cons, chain_append, List.cons_append, chain]
    rw [lastP_snoc]
    simp only [chain]; omega
theorem chain_reverse (f g : Pt → Pt → Int) (hg : ∀ a b, g a b = f b a) : ∀ (r : Rg) (a c : Pt), chain g c (r.reverse ++ [a]) = chain f a (r ++ [c])
  | [], a, c => by simp [chain, hg]
  | b :: r, a, c => by
    rw [List.reverse_cons, chain_snoc, List.cons_append, chain, chain_reverse f g hg r b c]
    rw [lastP_snoc, hg]; omega
/-- Reversed polygons. -/
theorem sumE_rev (f g : Pt → Pt → Int) (hg : ∀ a b, g a b = f b a) (r : Rg) : sumE g r.reverse = sumE f r := by
  cases r with
  | nil => rfl
  | cons a r =>
    rw [List.reverse_cons, sumE_turn, sumE_cons, sumE_cons, chain_reverse f g hg]
theorem sumE_neg (f : Pt → Pt → Int) (r : Rg) : sumE (fun a b => - f a b) r = - sumE f r := by
  unfold sumE
  rw [← sumI_neg, List.map_map]; rfl
theorem sumE_revneg (f : Pt → Pt → Int) (hf : ∀ a b, f b a = - f a b) (r : Rg) : sumE f r.reverse = - sumE f r := by
  rw [← sumE_neg]
  exact sumE_rev _ f (fun a b => hf b a) r
theorem sumS_nil (f : Pt → Pt → Int) : sumS f [] = 0 := rfl
theorem sumS_cons (f : Pt → Pt → Int) (r : Rg) (rs : List Rg) : sumS f (r :: rs) = sumE f r + sumS f rs := rfl
theorem sumS_append (f : Pt → Pt → Int) (rs ss : List Rg) : sumS f (rs ++ ss) = sumS f rs + sumS f ss := by unfold sumS; rw [List.map_append, sumI_append]
theorem sumS_snoc (f : Pt → Pt → Int) (rs : List Rg) (r : Rg) : sumS f (rs ++ [r]) = sumS f rs + sumE f r := by rw [sumS_append, sumS_cons, sumS_nil]; omega
theorem sumS_one (f : Pt → Pt → Int) (r : Rg) : sumS f [r] = sumE f r := by rw [sumS_cons, sumS_nil]; omega
theorem sumS_revneg (f : Pt → Pt → Int) (hf : ∀ a b, f b a = - f a b) (rs : List Rg) : sumS f (rs.map List.reverse) = - sumS f rs := by
  induction rs with
  | nil => rfl
  | cons r rs ih => rw [List.map_cons, sumS_cons, sumS_cons, ih, sumE_revneg f hf]; omega
def turnL (r : Rg) : Rg := r.tail ++ r.take 1
theorem sumE_turnL (f : Pt → Pt → Int) (r : Rg) : sumE f (turnL r) = sumE f r := by
  cases r with
  | nil => rfl
  | cons a r => exact sumE_turn f a r
theorem sumS_turnL (f : Pt → Pt → Int) (rs : List Rg) : sumS f (rs.map turnL) = sumS f rs := by
  unfold sumS; rw [List.map_map]; congr 1; apply List.map_congr_left; intro r _; exact sumE_turnL f r
theorem sumE_congr {f g : Pt → Pt → Int} {r : Rg} (h : ∀ a ∈ r, ∀ b ∈ r, f a b = g a b) : sumE f r = sumE g r := by
  unfold sumE
  congr 1
  apply List.map_congr_left
  rintro ⟨a, b⟩ he
  have h1 := (List.of_mem_zip he).1
  have h2 := (List.of_mem_zip he).2
  refine h a h1 b ?_
  rcases List.mem_append.1 h2 with h2 | h2
  · exact List.mem_of_mem_tail h2
  · exact List.mem_of_mem_take h2
theorem chain_tele (g : Pt → Int) : ∀ (a : Pt) (r : Rg), chain (fun a b => g b - g a) a r = g (lastP a r) - g a
  | a, [] => by simp [chain, lastP]
  | a, b :: r => by rw [chain, chain_tele g b r, lastP]; omega
/-- What telescopes comes to nothing. -/
theorem sumE_tele (g : Pt → Int) (r : Rg) : sumE (fun a b => g b - g a) r = 0 := by
  cases r with
  | nil => rfl
  | cons a r => rw [sumE_cons, chain_tele, lastP_snoc]; omega
theorem sumE_add (f g : Pt → Pt → Int) (r : Rg) : sumE (fun a b => f a b + g a b) r = sumE f r + sumE g r := by
  unfold sumE
  induction edgesL r with
  | nil => rfl
  | cons e l ih => simp only [List.map_cons, sumI_cons, ih]; omega
theorem sumE_zero (r : Rg) : sumE (fun _ _ => 0) r = 0 := by
  unfold sumE
  induction edgesL r with
  | nil => rfl
  | cons e l ih => simp only [List.map_cons, sumI_cons, ih]; omega
theorem sumE_map (f : Pt → Pt → Int) (m : Pt → Pt) (r : Rg) : sumE f (r.map m) = sumE (fun a b => f (m a) (m b)) r := by
  cases r with
  | nil => rfl
  | cons a r =>
    have key : ∀ (r : Rg) (a : Pt), chain f (m a) (r.map m) = chain (fun a b => f (m a) (m b)) a r := by
      intro r
      induction r with
      | nil => intro a; rfl
      | cons b r ih => intro a; rw [List.map_cons, chain, chain, ih]
    rw [List.map_cons, sumE_cons, sumE_cons, ← key]
    simp

/-! ### windings and areas -/
def sideL (a b : Pt) (x y : Int) : Int := (x - a.1) * (b.2 - a.2) - (y - a.2) * (b.1 - a.1)
def stepL (x y : Int) (a b : Pt) : Int :=
  if a.2 ≤ y ∧ y < b.2 ∧ 0 ≤ sideL a b x y then 1 else if b.2 ≤ y ∧ y < a.2 ∧ 0 ≤ sideL b a x y then -1 else 0
def windL (rs : List Rg) (x y : Int) : Int := sumS (stepL x y) rs
def areaE (a b : Pt) : Int := a.1 * b.2 - b.1 * a.2
def areaL (rs : List Rg) : Int := sumS areaE rs
def rgB (r : Rg) : Bool := decide (0 < r.length) && psB r
def corners (rs : List Rg) : Nat := (rs.map List.length).sum
def rgsB (rs : List Rg) : Bool := rs.all rgB && (decide (rs.length ≤ 8) && decide (corners rs ≤ 200))
def windR (rs : List Rg) (x y : Int) : Int := if rgsB rs && inB x (-1000) 1000 && inB y (-1000) 1000 then windL rs x y else 0
def areaR (rs : List Rg) : Int := if rgsB rs then areaL rs else 0

theorem stepL_anti (x y : Int) (a b : Pt) : stepL x y b a = - stepL x y a b := by
  unfold stepL
  by_cases h1 : a.2 ≤ y ∧ y < b.2 ∧ 0 ≤ sideL a b x y
  · have h2 : ¬ (b.2 ≤ y ∧ y < a.2 ∧ 0 ≤ sideL b a x y) := by omega
    simp [h1, h2]
  · by_cases h2 : b.2 ≤ y ∧ y < a.2 ∧ 0 ≤ sideL b a x y
    · simp [h1, h2]
    · simp [h1, h2]
theorem stepL_bd (x y : Int) (a b : Pt) : -1 ≤ stepL x y a b ∧ stepL x y a b ≤ 1 := by
  unfold stepL; split
  · omega
  · split <;> omega
theorem areaE_anti (a b : Pt) : areaE b a = - areaE a b := by unfold areaE; omega
theorem sumE_bd {f : Pt → Pt → Int} {r : Rg} {B : Int} (h : ∀ a ∈ r, ∀ b ∈ r, -B ≤ f a b ∧ f a b ≤ B) : -(r.length * B) ≤ sumE f r ∧ sumE f r ≤ r.length * B := by
  unfold sumE
  have := sumI_bd (l := (edgesL r).map fun e => f e.1 e.2) (B := B) (by
    intro v hv
    obtain ⟨⟨a, b⟩, he, rfl⟩ := List.mem_map.1 hv
    have h1 := (List.of_mem_zip he).1
    have h2 := (List.of_mem_zip he).2
    refine h a h1 b ?_
    rcases List.mem_append.1 h2 with h2 | h2
    · exact List.mem_of_mem_tail h2
    · exact List.mem_of_mem_take h2)
  rwa [List.length_map, edgesL_len] at this
theorem rgsB_iff {rs : List Rg} : rgsB rs = true ↔ (∀ r ∈ rs, 0 < r.length ∧ psB r = true) ∧ rs.length ≤ 8 ∧ corners rs ≤ 200 := by
  simp [rgsB, rgB]
theorem corners_cons (r : Rg) (rs : List Rg) : corners (r :: rs) = r.length + corners rs := rfl
theorem corners_append (rs ss : List Rg) : corners (rs ++ ss) = corners rs + corners ss := by simp [corners]
theorem corners_snoc (rs : List Rg) (r : Rg) : corners (rs ++ [r]) = corners rs + r.length := by simp [corners]

/-! ### outside -/
theorem vp_of {r : Rg} (h : psB r = true) {p : Pt} (hp : p ∈ r) : (-1000 ≤ p.1 ∧ p.1 ≤ 1000) ∧ (-1000 ≤ p.2 ∧ p.2 ≤ 1000) := by
  obtain ⟨k, hk, rfl⟩ := List.getElem_of_mem hp
  exact psB_at h hk
theorem wind_above {r : Rg} {x y : Int} (h : ∀ p ∈ r, y < p.2) : sumE (stepL x y) r = 0 := by
  rw [← sumE_zero r]
  refine sumE_congr fun a ha b hb => ?_
  have h1 := h a ha; have h2 := h b hb
  unfold stepL; rw [if_neg (by omega), if_neg (by omega)]
theorem wind_below {r : Rg} {x y : Int} (h : ∀ p ∈ r, p.2 ≤ y) : sumE (stepL x y) r = 0 := by
  rw [← sumE_zero r]
  refine sumE_congr fun a ha b hb => ?_
  have h1 := h a ha; have h2 := h b hb
  unfold stepL; rw [if_neg (by omega), if_neg (by omega)]
theorem side_left {a b : Pt} {x y : Int} (h1 : a.2 ≤ y) (h2 : y < b.2) (h3 : x < a.1) (h4 : x < b.1) : sideL a b x y < 0 := by
  unfold sideL
  have e : (x - a.1) * (b.2 - a.2) - (y - a.2) * (b.1 - a.1) = (x - a.1) * (b.2 - y) + (y - a.2) * (x - b.1) := by
    have p1 : b.2 - a.2 = (b.2 - y) + (y - a.2) := by omega
    have p2 : b.1 - a.1 = (b.1 - x) + (x - a.1) := by omega
    have p3 : x - b.1 = - (b.1 - x) := by omega
    rw [p1, p2, p3, Int.mul_add, Int.mul_add, Int.mul_neg, Int.mul_comm (y - a.2) (x - a.1)]; omega
  rw [e]
  have q1 : (x - a.1) * (b.2 - y) < 0 := Int.mul_neg_of_neg_of_pos (by omega) (by omega)
  have q2 : (y - a.2) * (x - b.1) ≤ 0 := Int.mul_nonpos_of_nonneg_of_nonpos (by omega) (by omega)
  omega
theorem side_right {a b : Pt} {x y : Int} (h1 : a.2 ≤ y) (h2 : y < b.2) (h3 : a.1 ≤ x) (h4 : b.1 ≤ x) : 0 ≤ sideL a b x y := by
  unfold sideL
  have e : (x - a.1) * (b.2 - a.2) - (y - a.2) * (b.1 - a.1) = (x - a.1) * (b.2 - y) + (y - a.2) * (x - b.1) := by
    have p1 : b.2 - a.2 = (b.2 - y) + (y - a.2) := by omega
    have p2 : b.1 - a.1 = (b.1 - x) + (x - a.1) := by omega
    have p3 : x - b.1 = - (b.1 - x) := by omega
    rw [p1, p2, p3, Int.mul_add, Int.mul_add, Int.mul_neg, Int.mul_comm (y - a.2) (x - a.1)]; omega
  rw [e]
  have q1 : 0 ≤ (x - a.1) * (b.2 - y) := Int.mul_nonneg (by omega) (by omega)
  have q2 : 0 ≤ (y - a.2) * (x - b.1) := Int.mul_nonneg (by omega) (by omega)
  omega
theorem wind_left {r : Rg} {x y : Int} (h : ∀ p ∈ r, x < p.1) : sumE (stepL x y) r = 0 := by
  rw [← sumE_zero r]
  refine sumE_congr fun a ha b hb => ?_
  have h1 := h a ha; have h2 := h b hb
  unfold stepL
  rw [if_neg (fun hh => by have := side_left hh.1 hh.2.1 h1 h2; omega), if_neg (fun hh => by have := side_left hh.1 hh.2.1 h2 h1; omega)]
theorem wind_right {r : Rg} {x y : Int} (h : ∀ p ∈ r, p.1 ≤ x) : sumE (stepL x y) r = 0 := by
  rw [← sumE_tele (fun p => if p.2 ≤ y then -1 else 0) r]
  refine sumE_congr fun a ha b hb => ?_
  have h1 := h a ha; have h2 := h b hb
  unfold stepL
  by_cases c1 : a.2 ≤ y
  · by_cases c2 : b.2 ≤ y
    · rw [if_neg (by omega), if_neg (by omega), if_pos c1, if_pos c2]; omega
    · rw [if_pos ⟨c1, by omega, side_right c1 (by omega) h1 h2⟩, if_neg c2, if_pos c1]; omega
  · by_cases c2 : b.2 ≤ y
    · rw [if_neg (by omega), if_pos ⟨c2, by omega, side_right c2 (by omega) h2 h1⟩, if_pos c2, if_neg c1]; omega
    · rw [if_neg (by omega), if_neg (by omega), if_neg c1, if_neg c2]; omega
/-- Areas do not depend on places. -/
theorem area_move (s t : Int) (r : Rg) : sumE areaE (r.map fun p => (p.1 + s, p.2 + t)) = sumE areaE r := by
  rw [sumE_map]
  have e : sumE (fun a b => areaE (a.1 + s, a.2 + t) (b.1 + s, b.2 + t)) r = sumE (fun a b => areaE a b + ((s * b.2 - t * b.1) - (s * a.2 - t * a.1))) r := by
    refine sumE_congr fun a _ b _ => ?_
    unfold areaE
    dsimp only; rw [Int.mul_comm t b.1, Int.mul_comm t a.1]; simp only [Int.add_mul, Int.mul_add]; omega
  rw [e, sumE_add areaE (fun a b => (s * b.2 - t * b.1) - (s * a.2 - t * a.1)), sumE_tele (fun p => s * p.2 - t * p.1)]; omega
end Go.Proofs.YtagmnbphbakikaaGreat
namespace Go.Proofs.YtagmnbphbakikaaGreat
open Go Go.RowKit Go.ChangeShapes Go.WideShapes Go.ChangeAt Go.Deep Reg
attribute [local go_sem] calmAt calmUpon
abbrev rgR : World → Rg → List Value → Prop := slR ptR 2
theorem rgR_stab : Stab rgR := slR_stab ptR_stab
abbrev Rgs (w : World) (A : Option Addr) (rs : List Rg) : Prop := In rgR 1 w A rs
theorem In.rgs {w : World} {A : Option Addr} {rs : List Rg} (h : Rgs w A rs) (hn : 0 < rs.length) : ∃ b off, A = some ⟨b, off, none⟩ ∧ b < w.heap.size ∧
    ∀ (k : Nat) (h : k < rs.length), ∃ A' cap', w.cell? ⟨b, off + k, none⟩ = some (.slice A' rs[k].length cap') ∧ Pts w A' rs[k] ∧ rs[k].length ≤ cap' ∧ cap' ≤ 9223372036854775807 := by
  have hlt := h.lt (by omega) hn
  obtain ⟨b, off, hA, hc⟩ := h hn
  refine ⟨b, off, hA, hlt b off hA, fun k hk => ?_⟩
  obtain ⟨us, ⟨A', cap', h1, h2, h4, h5, h6, _⟩, _, h3⟩ := hc k hk
  subst h1
  have := h3 0 _ rfl
  simp only [Nat.mul_one, Nat.add_zero] at this
  exact ⟨A', cap', this, h2, h5, by unfold maxLen at h6; exact h6⟩
theorem corners_take {rs : List Rg} {k : Nat} (hk : k < rs.length) : corners (rs.take (k + 1)) = corners (rs.take k) + rs[k].length := by
  rw [List.take_succ_eq_append_getElem hk, corners_snoc]
theorem corners_bd {rs : List Rg} (h : rs.all rgB = true) : corners rs ≤ 40 * rs.length := by
  induction rs with
  | nil => simp [corners]
  | cons r rs ih =>
    simp only [List.all_cons, Bool.and_eq_true, rgB] at h
    have := ih h.2
    have := psB_len h.1.2
    rw [corners_cons, List.length_cons]; omega
theorem rgsB_false {rs : List Rg} {k : Nat} (hk : k < rs.length) (h : rgB rs[k] = false) : rgsB rs = false := by
  unfold rgsB; rw [all_false_of hk h]; rfl
theorem rgsB_all {rs : List Rg} (h : rs.all rgB = true) : rgsB rs = (decide (rs.length ≤ 8) && decide (corners rs ≤ 200)) := by
  unfold rgsB; rw [h]; rfl
set_option maxRecDepth 100000 in
set_option maxHeartbeats 2000000 in
theorem c_iValidRings (A : Option Addr) (cap : Nat) (rs : List Rg) (w : World) (h : Rgs w A rs) (hl : rs.length ≤ 1000000000) (hs : ∀ r ∈ rs, r.length ≤ 1000000000) :
    Calls Tryz.prog 116 #[.slice A rs.length cap] w fun e w' => e = .returned (.bool (rgsB rs)) ∧ Below w.heap.size w w' := by
  obtain ⟨V, hV⟩ : ∃ V, rgsB rs = V := ⟨_, rfl⟩
  rw [hV]
  have HV := Lib.hid hV
  have H := Lib.hid h
  have Hs := Lib.hid hs
  clear hV h hs
  go_enter Tryz.func116, Tryz.ntmps116
  go_wp2_with fail
  go_loopw [3, 8] (fun c i wr => ∃ k m : Nat, k ≤ rs.length ∧ i = .int .i64 k ∧ c = .int .i64 (m : Int) ∧ m = corners (rs.take k) ∧ (rs.take k).all rgB = true ∧ Below w.heap.size w wr) (fun _ i _ => rs.length - (intOf i).toNat)
  case atStart => exact ⟨0, 0, Nat.zero_le _, rfl, rfl, rfl, by simp, Below.refl _ _⟩
  case round =>
    obtain ⟨k, m, hk, rfl, rfl, hm, hal, hbw⟩ := hrel
    have hmb := corners_bd hal
    rw [← hm, List.length_take] at hmb
    have Hm := Lib.hid hm
    have Hal := Lib.hid hal
    have E := Lib.hid hbw
    clear hm hal hbw
    by_cases hlt : k < rs.length
    · obtain ⟨b, off, hA, _, hc⟩ := (H.out.ext rgR_stab E.out).rgs (by omega)
      subst hA
      obtain ⟨A', cap', cr, hp, hle, hmx⟩ := hc k hlt
      have Hp := Lib.hid hp
      have Cr := Lib.hid cr
      have hrl : rs[k].length ≤ 1000000000 := Hs.out _ (List.getElem_mem hlt)
      have Hno : Hid (rgB rs[k] = false → V = false) := Lib.hid (fun h => by rw [← HV.out]; exact rgsB_false hlt h)
      have Hyes : Hid (rgB rs[k] = true → (rs.take (k + 1)).all rgB = true) := Lib.hid (fun h => all_take_succ Hal.out hlt h)
      have Hct := Lib.hid (corners_take hlt)
      clear hc hp cr
      generalize rs[k] = r at *
      have cCr := Cr.out
      by_cases h0 : r.length = 0
      · have hb0 : (((r.length : Nat) : Int) == 0) = true := by simp; exact List.eq_nil_of_length_eq_zero h0
        have hr : rgB r = false := by simp [rgB, h0]
        have Hf := Lib.hid (Hno.out hr)
        clear h0 hr
        go_wp2
        go_ret
        exact ⟨ret_bb (by rw [Hf.out]), E.out⟩
      · have hb0 : (((r.length : Nat) : Int) == 0) = false := by simp; intro hh; subst hh; simp at h0
        have hne : ¬ r = [] := by intro hh; subst hh; simp at h0
        obtain ⟨d, hd⟩ : ∃ d, psB r = d := ⟨_, rfl⟩
        have Hd := Lib.hid hd
        have hl40 : d = true → r.length ≤ 40 := fun h => psB_len (by rw [hd, h])
        have H40 := Lib.hid hl40
        have hrb : rgB r = d := by unfold rgB; rw [hd]; simp; intro _; omega
        have Hrb := Lib.hid hrb
        clear hd hl40 hrb h0
        go_wp2_with fail
        clear cCr
        refine (c_pointsValid A' cap' r _ Hp.out (by omega)).mono ?_
        rw [Hd.out]
        rintro e w2 ⟨rfl, hb⟩
        replace E := Lib.hid (Ext.trans E.out hb)
        replace Hp := Lib.hid (Hp.out.ext ptR_stab hb)
        replace Cr := Lib.hid (Cls.cell hb Cr.out)
        clear hb
        have cCr := Cr.out
        cases d
        · have Hf := Lib.hid (Hno.out Hrb.out)
          go_wp2
          go_ret
          exact ⟨ret_bb (by rw [Hf.out]), E.out⟩
        · have h40 := H40.out rfl
          have Hal2 := Lib.hid (Hyes.out Hrb.out)
          go_wp2
          go_roundw
          case rel => exact ⟨k + 1, m + r.length, by omega, by go_num, by congr 1, by rw [Hct.out, Hm.out], Hal2.out, E.out⟩
          case measure => simp [intOf]; omega
    · have hk' : k = rs.length := by omega
      have hall := Hal.out
      have hm2 := Hm.out
      rw [hk', List.take_length] at hall hm2
      have Hv : Hid (V = (decide (rs.length ≤ 8) && decide (m ≤ 200))) := Lib.hid (by rw [← HV.out, rgsB_all hall, hm2])
      clear hk' hall hm2
      by_cases h8 : rs.length ≤ 8
      · have h8' : ((rs.length : Nat) : Int) ≤ 8 := by omega
        go_wp2
        go_ret
        exact ⟨ret_bb (by rw [Hv.out]; simp [h8] <;> omega), E.out⟩
      · have h8' : ¬ ((rs.length : Nat) : Int) ≤ 8 := by omega
        go_wp2
        go_ret
        exact ⟨ret_bb (by rw [Hv.out]; simp [h8] <;> omega), E.out⟩
set_option maxRecDepth 100000 in
set_option maxHeartbeats 2000000 in
theorem c_sValidRings (A : Option Addr) (cap : Nat) (rs : List Rg) (w : World) (h : Rgs w A rs) (hl : rs.length ≤ 1000000000) (hs : ∀ r ∈ rs, r.length ≤ 1000000000) :
    Calls Tryz.prog 66 #[.slice A rs.length cap] w fun e w' => e = .returned (.bool (rgsB rs)) ∧ Below w.heap.size w w' := by
  obtain ⟨V, hV⟩ : ∃ V, rgsB rs = V := ⟨_, rfl⟩
  rw [hV]
  have HV := Lib.hid hV
  have H := Lib.hid h
  have Hs := Lib.hid hs
  clear hV h hs
  go_enter Tryz.func66, Tryz.ntmps66
  go_wp2_with fail
  go_loopw [3, 4] (fun c i wr => ∃ k m : Nat, k ≤ rs.length ∧ i = .int .i64 k ∧ c = .int .i64 (m : Int) ∧ m = corners (rs.take k) ∧ (rs.take k).all rgB = true ∧ Below w.heap.size w wr) (fun _ i _ => rs.length - (intOf i).toNat)
  case atStart => exact ⟨0, 0, Nat.zero_le _, rfl, rfl, rfl, by simp, Below.refl _ _⟩
  case round =>
    obtain ⟨k, m, hk, rfl, rfl, hm, hal, hbw⟩ := hrel
    have hmb := corners_bd hal
    rw [← hm, List.length_take] at hmb
    have Hm := Lib.hid hm
    have Hal := Lib.hid hal
    have E := Lib.hid hbw
    clear hm hal hbw
    by_cases hlt : k < rs.length
    · obtain ⟨b, off, hA, _, hc⟩ := (H.out.ext rgR_stab E.out).rgs (by omega)
      subst hA
      obtain ⟨A', cap', cr, hp, hle, hmx⟩ := hc k hlt
      have Hp := Lib.hid hp
      have Cr := Lib.hid cr
      have hrl : rs[k].length ≤ 1000000000 := Hs.out _ (List.getElem_mem hlt)
      have Hno : Hid (rgB rs[k] = false → V = false) := Lib.hid (fun h => by rw [← HV.out]; exact rgsB_false hlt h)
      have Hyes : Hid (rgB rs[k] = true → (rs.take (k + 1)).all rgB = true) := Lib.hid (fun h => all_take_succ Hal.out hlt h)
      have Hct := Lib.hid (corners_take hlt)
      clear hc hp cr
      generalize rs[k] = r at *
      have cCr := Cr.out
      by_cases h0 : r.length = 0
      · have hb0 : (((r.length : Nat) : Int) == 0) = true := by simp; exact List.eq_nil_of_length_eq_zero h0
        have hr : rgB r = false := by simp [rgB, h0]
        have Hf := Lib.hid (Hno.out hr)
        clear h0 hr
        go_wp2
        go_ret
        exact ⟨ret_bb (by rw [Hf.out]), E.out⟩
      · have hb0 : (((r.length : Nat) : Int) == 0) = false := by simp; intro hh; subst hh; simp at h0
        have hne : ¬ r = [] := by intro hh; subst hh; simp at h0
        obtain ⟨d, hd⟩ : ∃ d, psB r = d := ⟨_, rfl⟩
        have Hd := Lib.hid hd
        have hl40 : d = true → r.length ≤ 40 := fun h => psB_len (by rw [hd, h])
        have H40 := Lib.hid hl40
        have hrb : rgB r = d := by unfold rgB; rw [hd]; simp; intro _; omega
        have Hrb := Lib.hid hrb
        clear hd hl40 hrb h0
        go_wp2_with fail
        clear cCr
        refine (c_validPoints A' cap' r _ Hp.out (by omega)).mono ?_
        rw [Hd.out]
        rintro e w2 ⟨rfl, hb⟩
        replace E := Lib.hid (Ext.trans E.out hb)
        replace Hp := Lib.hid (Hp.out.ext ptR_stab hb)
        replace Cr := Lib.hid (Cls.cell hb Cr.out)
        clear hb
        have cCr := Cr.out
        cases d
        · have Hf := Lib.hid (Hno.out Hrb.out)
          go_wp2
          go_ret
          exact ⟨ret_bb (by rw [Hf.out]), E.out⟩
        · have h40 := H40.out rfl
          have Hal2 := Lib.hid (Hyes.out Hrb.out)
          go_wp2
          go_roundw
          case rel => exact ⟨k + 1, m + r.length, by omega, by go_num, by congr 1, by rw [Hct.out, Hm.out], Hal2.out, E.out⟩
          case measure => simp [intOf]; omega
    · have hk' : k = rs.length := by omega
      have hall := Hal.out
      have hm2 := Hm.out
      rw [hk', List.take_length] at hall hm2
      have Hv : Hid (V = (decide (rs.length ≤ 8) && decide (m ≤ 200))) := Lib.hid (by rw [← HV.out, rgsB_all hall, hm2])
      clear hk' hall hm2
      by_cases h8 : rs.length ≤ 8
      · have h8' : ((rs.length : Nat) : Int) ≤ 8 := by omega
        go_wp2
        go_ret
        exact ⟨ret_bb (by rw [Hv.out]; simp [h8] <;> omega), E.out⟩
      · have h8' : ¬ ((rs.length : Nat) : Int) ≤ 8 := by omega
        go_wp2
        go_ret
        exact ⟨ret_bb (by rw [Hv.out]; simp [h8] <;> omega), E.out⟩
end Go.Proofs.YtagmnbphbakikaaGreat
namespace Go.Proofs.YtagmnbphbakikaaGreat
open Go Go.RowKit Reg
/-- v is a row of polygons of one's own; ss: their slices, each a row of its own. -/
structure ORg (w : World) (B : Nat) (TP TR : TypeId) (v : Value) (rs : List Rg) (ss : List Value) : Prop where
  len : ss.length = rs.length
  out : Has w B TR 1 v rs.length ss
  inn : ∀ (i : Nat) (h : i < rs.length), Has w B TP 2 (ss[i]'(by omega)) rs[i].length (rs[i].flatMap ptC)
  nd : ∀ (i j : Nat) (hi : i < ss.length) (hj : j < ss.length), i ≠ j → ss[i].ownBlock = none ∨ ss[i].ownBlock ≠ ss[j].ownBlock
section
variable {w w' : World} {B : Nat} {TP TR : TypeId} {v : Value} {rs : List Rg} {ss : List Value}
theorem ORg.ext (h : ORg w B TP TR v rs ss) (hx : Ext w w') : ORg w' B TP TR v rs ss := ⟨h.len, own_ext h.out hx, fun i hi => own_ext (h.inn i hi) hx, h.nd⟩
theorem ORg.nil (w : World) (B : Nat) (TP TR : TypeId) : ORg w B TP TR (.slice none 0 0) [] [] := ⟨rfl, own_nil _ _ _ _, fun i hi => by simp at hi, fun i j hi => by simp at hi⟩
theorem ORg.rebase {B' : Nat} (h : ORg w B TP TR v rs ss) (hB : B' ≤ B) : ORg w B' TP TR v rs ss := ⟨h.len, h.out.rebase hB, fun i hi => (h.inn i hi).rebase hB, h.nd⟩
theorem has_rg {B : Nat} {e : TypeId} {A : Option Addr} {cap : Nat} {r : Rg} (h : Has w B e 2 (.slice A r.length cap) r.length (r.flatMap ptC)) : rgR w r [.slice A r.length cap] := by
  obtain ⟨h1, h2, h3⟩ := h.slok
  exact ⟨A, cap, rfl, own_in (enc := ptC) ptC_len (by decide) h (fun _ => rfl), by omega, h2, h3, h1⟩
theorem ORg.in_ {A : Option Addr} {cap : Nat} (h : ORg w B TP TR (.slice A rs.length cap) rs ss) : Rgs w A rs := by
  intro hn
  obtain ⟨g, hA, _, _⟩ := own_at h.out hn
  subst hA
  refine ⟨g, 0, rfl, fun k hk => ?_⟩
  have hi := h.inn k hk
  obtain ⟨A', cap', hs⟩ := own_form hi
  rw [hs] at hi
  refine ⟨_, has_rg hi, rfl, fun j u hu => ?_⟩
  have hj : j = 0 := by
    have := (List.getElem?_eq_some_iff.1 hu).1
    simp at this; omega
  subst hj
  simp at hu; subst hu
  have hl := h.len
  rw [Nat.zero_add, Nat.mul_one, Nat.add_zero, h.out.cellAt k (by omega), List.getElem?_eq_getElem (by omega), hs]
theorem ORg.old (h : ORg w B TP TR v rs ss) : ∀ (i : Nat) (hi : i < ss.length) g, ss[i].ownBlock = some g → B ≤ g ∧ g < w.heap.size := fun i hi g hg =>
  (h.inn i (by rw [← h.len]; exact hi)).lt g hg
/-- One more polygon, in a row that none of the others has. -/
theorem ORg.push {v' : Value} {r : Rg} {s : Value} {b : Nat} (h : ORg w B TP TR v rs ss) (hT : TP ≠ TR) (hs : Has w B TP 2 s r.length (r.flatMap ptC))
    (hlt : ∀ (i : Nat) (hi : i < ss.length) g, ss[i].ownBlock = some g → g < b) (hge : ∀ g, s.ownBlock = some g → b ≤ g)
    (hout : Has w' B TR 1 v' (rs.length + 1) (ss ++ [s])) (hg : w.grownBy w' v.ownBlock) : ORg w' B TP TR v' (rs ++ [r]) (ss ++ [s]) := by
  have hl := h.len
  refine ⟨by simp [hl], by rw [List.length_append]; exact hout, fun i hi => ?_, fun i j hi hj hij => ?_⟩
  · simp only [List.length_append, List.length_cons, List.length_nil] at hi
    rcases Nat.lt_or_ge i rs.length with hlt | hge
    · have := (h.inn i hlt).kept hg (own_ne (h.inn i hlt) h.out hT)
      simpa [List.getElem_append_left hlt, List.getElem_append_left (show i < ss.length by omega)] using this
    · have hi' : i = rs.length := by omega
      subst hi'
      have := hs.kept hg (own_ne hs h.out hT)
      have e1 : (rs ++ [r])[rs.length]'(by simp) = r := by simp
      have e2 : (ss ++ [s])[rs.length]'(by simp [hl]) = s := by simp [← hl]
      rw [e1, e2]
      exact this
  · simp only [List.length_append, List.length_cons, List.length_nil] at hi hj
    rcases Nat.lt_or_ge i ss.length with hi1 | hi1 <;> rcases Nat.lt_or_ge j ss.length with hj1 | hj1
    · rw [List.getElem_append_left hi1, List.getElem_append_left hj1]
      exact h.nd i j hi1 hj1 hij
    · obtain rfl : j = ss.length := by omega
      rw [List.getElem_append_left hi1]
      cases hc : ss[i].ownBlock with
      | none => exact .inl rfl
      | some g => exact .inr fun he => by have q1 := hlt i hi1 g hc; have q2 := hge g (by simpa using he.symm); omega
    · obtain rfl : i = ss.length := by omega
      rw [List.getElem_append_left hj1]
      cases hc : s.ownBlock with
      | none => left; simpa using hc
      | some g => right; intro he; have q1 := hlt j hj1 g (by rw [← he]; simpa using hc); have q2 := hge g hc; omega
    · omega
/-- A row apart from all of these is turned. -/
theorem ORg.grownN {row : Option Nat} {b : Nat} (h : ORg w B TP TR v rs ss) (_hT : TP ≠ TR) (hb : ∀ (i : Nat) (hi : i < ss.length) g, ss[i].ownBlock = some g → g < b) (hg : w.grownBy w' row) (hr : ∀ k, row = some k → b ≤ k)
    (ho : v.ownBlock = none ∨ v.ownBlock ≠ row) : ORg w' B TP TR v rs ss :=
  ⟨h.len, h.out.kept hg ho, fun i hi => (h.inn i hi).kept hg (by
    cases hc : (ss[i]'(by have := h.len; omega)).ownBlock with
    | none => exact .inl rfl
    | some g => exact .inr fun he => by have q1 := hb i (by have := h.len; omega) g hc; have q2 := hr g he.symm; omega), h.nd⟩
theorem ORg.one (h : ORg w B TP TR v rs ss) : ∀ u ∈ ss, u.oneCell' = true := by
  intro u hu
  obtain ⟨i, hi, rfl⟩ := List.getElem_of_mem hu
  obtain ⟨A, cap, hs⟩ := own_form (h.inn i (by rw [← h.len]; exact hi))
  rw [hs]; rfl
end
theorem ei_rg : EI Tryz.prog 114 126 (.slice none 0 0) [.slice none 0 0] 24 := ei_mk Tryz.underlying114 (by kernel_rfl) rfl (by decide) (by decide)
theorem TP_ne_TR : (45 : TypeId) ≠ 126 := by decide
abbrev OR (w : World) (B : Nat) (v : Value) (rs : List Rg) (ss : List Value) : Prop := ORg w B 45 126 v rs ss
/-- Polygons returned, in rows of their own. -/
def RetRg (w : World) (RS : List Rg) (e : Ending) (w' : World) : Prop := ∃ A' cap' ss, e = .returned (.slice A' RS.length cap') ∧ OR w' w.heap.size (.slice A' RS.length cap') RS ss ∧ Below w.heap.size w w'
end Go.Proofs.YtagmnbphbakikaaGreat
namespace Go.Proofs.YtagmnbphbakikaaGreat
open Go Go.RowKit Reg
theorem Has.keptB {w w' : World} {B e e2 sz n Bo : Nat} {v : Value} {xs cs : List Value} (h : Has w B e sz v n xs) (hr : Row w Bo e2 cs) (he : e2 ≠ e) (hg : w.grownBy w' (some Bo)) : Has w' B e sz v n xs := by
  refine h.kept hg ?_
  cases hv : v.ownBlock with
  | none => exact .inl rfl
  | some k =>
    refine .inr fun heq => ne_block hr h (fun e => he e.symm) ?_
    rw [hv, heq]
theorem OVb.keptB {w w' : World} {B TP TV e2 Bo : Nat} {v : Value} {vs : List Vb} {ss cs : List Value} (h : OVb w B TP TV v vs ss) (hr : Row w Bo e2 cs) (h1 : e2 ≠ TP) (h2 : e2 ≠ TV) (hg : w.grownBy w' (some Bo)) : OVb w' B TP TV v vs ss :=
  ⟨h.len, h.out.keptB hr h2 hg, fun i hi => (h.inn i hi).keptB hr h1 hg, h.nd⟩
theorem ORg.keptB {w w' : World} {B TP TR e2 Bo : Nat} {v : Value} {rs : List Rg} {ss cs : List Value} (h : ORg w B TP TR v rs ss) (hr : Row w Bo e2 cs) (h1 : e2 ≠ TP) (h2 : e2 ≠ TR) (hg : w.grownBy w' (some Bo)) : ORg w' B TP TR v rs ss :=
  ⟨h.len, h.out.keptB hr h2 hg, fun i hi => (h.inn i hi).keptB hr h1 hg, h.nd⟩
theorem set_grown (w : World) (b o : Nat) (v : Value) : w.grownBy (w.setCell ⟨b, o, none⟩ v) (some b) :=
  ⟨rfl, rfl, rfl, by simp [World.setCell], fun k _ hk => Below.heap_setCell w ⟨b, o, none⟩ v k (by rintro rfl; exact hk rfl)⟩
theorem sets_trans {a b c : World} {g : Nat} (h : a.grownBy b (some g)) (k : b.grownBy c (some g)) : a.grownBy c (some g) :=
  ⟨k.os.trans h.os, k.tape.trans h.tape, k.output.trans h.output, Nat.le_trans h.size k.size, fun i hi hne => (k.block i (Nat.lt_of_lt_of_le hi h.size) hne).trans (h.block i hi hne)⟩
theorem Row.keptG {w w' : World} {g g' : Nat} {e : TypeId} {cs : List Value} (h : Row w g e cs) (hg : w.grownBy w' (some g')) (hne : g ≠ g') : Row w' g e cs := (hg.block g h.lt (fun e => hne (by injection e))).trans h
theorem below_set {B g : Nat} {w0 w w' : World} (h : Below B w0 w) (hg : w.grownBy w' (some g)) (h1 : B ≤ g) (h2 : B ≤ w.heap.size) : Below B w0 w' := h.grown hg h2 (fun k e => by cases e; exact h1)
theorem sets3 (w : World) (b o : Nat) (v0 v1 v2 : Value) : w.grownBy (((w.setCell ⟨b, o, none⟩ v0).setCell ⟨b, o + 1, none⟩ v1).setCell ⟨b, o + 2, none⟩ v2) (some b) :=
  sets_trans (sets_trans (set_grown _ _ _ _) (set_grown _ _ _ _)) (set_grown _ _ _ _)
theorem sets4 (w : World) (b o : Nat) (v0 v1 v2 v3 : Value) : w.grownBy ((((w.setCell ⟨b, o, none⟩ v0).setCell ⟨b, o + 1, none⟩ v1).setCell ⟨b, o + 2, none⟩ v2).setCell ⟨b, o + 3, none⟩ v3) (some b) :=
  sets_trans (sets3 _ _ _ _ _ _) (set_grown _ _ _ _)
theorem sets5 (w : World) (b o : Nat) (v0 v1 v2 v3 v4 : Value) : w.grownBy (((((w.setCell ⟨b, o, none⟩ v0).setCell ⟨b, o + 1, none⟩ v1).setCell ⟨b, o + 2, none⟩ v2).setCell ⟨b, o + 3, none⟩ v3).setCell ⟨b, o + 4, none⟩ v4) (some b) :=
  sets_trans (sets_trans (sets_trans (sets_trans (set_grown _ _ _ _) (set_grown _ _ _ _)) (set_grown _ _ _ _)) (set_grown _ _ _ _)) (set_grown _ _ _ _)
theorem sets7 (w : World) (b o : Nat) (v0 v1 v2 v3 v4 v5 v6 : Value) : w.grownBy (((((((w.setCell ⟨b, o, none⟩ v0).setCell ⟨b, o + 1, none⟩ v1).setCell ⟨b, o + 2, none⟩ v2).setCell ⟨b, o + 3, none⟩ v3).setCell ⟨b, o + 4, none⟩ v4).setCell ⟨b, o + 5, none⟩ v5).setCell ⟨b, o + 6, none⟩ v6) (some b) :=
  sets_trans (sets_trans (sets5 _ _ _ _ _ _ _ _) (set_grown _ _ _ _)) (set_grown _ _ _ _)
theorem gen_post {P : Program} {fn : Func} {R : Ending → World → Prop} {e : Exit} {a : Act} {W : World} (h : ∀ w, w = W → bodyPost P fn R e a w) : bodyPost P fn R e a W := h W rfl
end Go.Proofs.YtagmnbphbakikaaGreat
