/-
  Windings and areas do not need needless points, plainly. Nothing of a program.
-/
import Derived.Test.YthfnomlkoiacbaaWindL
import Derived.Test.YthfnomlkoiacbaaCleanL
namespace Go.Proofs.Ythfnomlkoiacbaa
theorem sumE_rot (f : Pt → Pt → Int) : ∀ (l r : Rg), sumE f (l ++ r) = sumE f (r ++ l)
  | [], r => by simp
  | a :: l, r => by
    rw [List.cons_append, ← sumE_turn f a (l ++ r), List.append_assoc, sumE_rot f l (r ++ [a])]
    simp
theorem lastP_get : ∀ (c : Pt) (r : Rg), lastP c r = (c :: r)[r.length]'(by simp)
  | _, [] => rfl
  | _, b :: r => by rw [lastP, lastP_get b r]; rfl
theorem rest_get {ps : Rg} {k j : Nat} (hk : k < ps.length) (hj : j < (ps.drop (k + 1) ++ ps.take k).length) : (ps.drop (k + 1) ++ ps.take k)[j] = ps[(k + 1 + j) % ps.length]'(Nat.mod_lt _ (by omega)) := by
  have hl : (ps.drop (k + 1)).length = ps.length - (k + 1) := List.length_drop
  have hj2 : j < ps.length - 1 := by simp only [List.length_append, List.length_drop, List.length_take] at hj; omega
  by_cases h : j < ps.length - (k + 1)
  · rw [List.getElem_append_left (by omega), List.getElem_drop]
    have e : (k + 1 + j) % ps.length = k + 1 + j := Nat.mod_eq_of_lt (by omega)
    simp only [e]
  · rw [List.getElem_append_right (by omega), List.getElem_take]
    have e : (k + 1 + j) % ps.length = j - (ps.length - (k + 1)) := by
      rw [Nat.mod_eq_sub_mod (by omega), Nat.mod_eq_of_lt (by omega)]; omega
    simp only [e, hl]
theorem sumE_erase (f : Pt → Pt → Int) {ps : Rg} {k : Nat} (h1 : 1 < ps.length) (hk : k < ps.length)
    (hf : f (ps[(k + ps.length - 1) % ps.length]'(Nat.mod_lt _ (by omega))) ps[k] + f ps[k] (ps[(k + 1) % ps.length]'(Nat.mod_lt _ (by omega))) = f (ps[(k + ps.length - 1) % ps.length]'(Nat.mod_lt _ (by omega))) (ps[(k + 1) % ps.length]'(Nat.mod_lt _ (by omega)))) :
    sumE f (ps.eraseIdx k) = sumE f ps := by
  have e1 : ps = ps.take k ++ ps[k] :: ps.drop (k + 1) := by rw [← List.drop_eq_getElem_cons hk, List.take_append_drop]
  rw [List.eraseIdx_eq_take_drop_succ, sumE_rot]
  conv => rhs; rw [e1, sumE_rot, List.cons_append]
  have hg := fun j hj => rest_get (ps := ps) (j := j) hk hj
  have hl : (ps.drop (k + 1) ++ ps.take k).length = ps.length - 1 := by simp only [List.length_append, List.length_drop, List.length_take]; omega
  have h0 := hg 0 (by omega)
  have hn := hg (ps.length - 2) (by omega)
  have e2 : k + 1 + 0 = k + 1 := rfl
  have e3 : k + 1 + (ps.length - 2) = k + ps.length - 1 := by omega
  simp only [e2] at h0
  simp only [e3] at hn
  rw [← h0, ← hn] at hf
  clear hg h0 hn e1
  generalize ps[k] = b at *
  match hr : ps.drop (k + 1) ++ ps.take k, hl with
  | [], hl => simp at hl; omega
  | c :: r, hl =>
    have hrl : r.length = ps.length - 2 := by simp at hl; omega
    simp only [hr] at hf
    have hla := lastP_get c r
    simp only [hrl] at hla
    rw [← hla] at hf
    have h00 : (c :: r)[0]'(by simp) = c := rfl
    rw [h00] at hf
    rw [sumE_cons, sumE_cons, List.cons_append, chain, chain_snoc, chain_snoc]
    omega
/-- What is the same along a line through a needless point is the same for a cleaned polygon. -/
theorem sumE_clean (f : Pt → Pt → Int) (hf : ∀ a b c, ndB a b c = true → f a b + f b c = f a c) : ∀ (n : Nat) (ps : Rg), sumE f (cleanN n ps) = sumE f ps
  | 0, _ => rfl
  | n + 1, ps => by
    unfold cleanN
    cases h : fstNd ps with
    | none => rfl
    | some i =>
      obtain ⟨h1, h2, h3⟩ := fstNd_lt h
      dsimp only
      rw [sumE_clean f hf n]
      exact sumE_erase f h2 h1 (hf _ _ _ (by rw [← ndAt_eq h1]; exact h3))
theorem area_nd (a b c : Pt) (h : ndB a b c = true) : areaE a b + areaE b c = areaE a c := by
  have h0 := (ndB_iff.1 h).1
  unfold crossL at h0
  unfold areaE
  simp only [Int.sub_mul, Int.mul_sub] at h0
  have e1 := Int.mul_comm a.1 b.2
  have e2 := Int.mul_comm a.2 b.1
  have e3 := Int.mul_comm b.1 c.2
  have e4 := Int.mul_comm b.2 c.1
  have e5 := Int.mul_comm b.1 b.2
  have e6 := Int.mul_comm a.1 c.2
  have e7 := Int.mul_comm a.2 c.1
  omega
theorem sgn_same {p q s t : Int} (hp : 0 < p) (hq : 0 < q) (h : p * s = q * t) : 0 ≤ s ↔ 0 ≤ t := by
  constructor
  · intro hs
    have h1 : 0 ≤ q * t := by rw [← h]; exact Int.mul_nonneg (by omega) hs
    by_cases ht : 0 ≤ t
    · exact ht
    · have := Int.mul_neg_of_pos_of_neg hq (show t < 0 by omega)
      omega
  · intro ht
    have h1 : 0 ≤ p * s := by rw [h]; exact Int.mul_nonneg (by omega) ht
    by_cases hs : 0 ≤ s
    · exact hs
    · have := Int.mul_neg_of_pos_of_neg hp (show s < 0 by omega)
      omega
/-- Upwards. -/
theorem step_up {a b c : Pt} (x y : Int) (h0 : crossL a b c = 0) (hu : a.2 ≤ b.2) (hv : b.2 ≤ c.2) : stepL x y a b + stepL x y b c = stepL x y a c := by
  have key : (b.1 - a.1) * (c.2 - b.2) = (b.2 - a.2) * (c.1 - b.1) := by unfold crossL at h0; omega
  have d1 : 0 < b.2 - a.2 → (0 ≤ sideL a c x y ↔ 0 ≤ sideL a b x y) := fun hp => by
    refine sgn_same (p := b.2 - a.2) (q := c.2 - a.2) hp (by omega) ?_
    unfold sideL
    generalize hX : x - a.1 = X
    generalize hY : y - a.2 = Y
    generalize hu1 : b.1 - a.1 = u1 at *
    generalize hu2 : b.2 - a.2 = u2 at *
    generalize hv1 : c.1 - b.1 = v1 at *
    generalize hv2 : c.2 - b.2 = v2 at *
    have e1 : c.1 - a.1 = u1 + v1 := by omega
    have e2 : c.2 - a.2 = u2 + v2 := by omega
    rw [e1, e2]
    simp only [Int.mul_sub, Int.add_mul, Int.mul_add]
    have k1 : u2 * (Y * v1) = Y * (u2 * v1) := by rw [← Int.mul_assoc, Int.mul_comm u2 Y, Int.mul_assoc]
    have k2 : v2 * (Y * u1) = Y * (u1 * v2) := by rw [← Int.mul_assoc, Int.mul_comm v2 Y, Int.mul_assoc, Int.mul_comm v2 u1]
    have k3 : u2 * (X * v2) = v2 * (X * u2) := by rw [← Int.mul_assoc, Int.mul_comm u2 X, Int.mul_assoc, Int.mul_comm u2 v2, ← Int.mul_assoc, Int.mul_comm X v2, Int.mul_assoc]
    rw [k1, k2, k3, key]
    try omega
  have d2 : 0 < c.2 - b.2 → (0 ≤ sideL a c x y ↔ 0 ≤ sideL b c x y) := fun hp => by
    refine sgn_same (p := c.2 - b.2) (q := c.2 - a.2) hp (by omega) ?_
    unfold sideL
    generalize hX : x - a.1 = X
    generalize hY : y - a.2 = Y
    have e3 : x - b.1 = X - (b.1 - a.1) := by omega
    have e4 : y - b.2 = Y - (b.2 - a.2) := by omega
    rw [e3, e4]
    generalize hu1 : b.1 - a.1 = u1 at *
    generalize hu2 : b.2 - a.2 = u2 at *
    generalize hv1 : c.1 - b.1 = v1 at *
    generalize hv2 : c.2 - b.2 = v2 at *
    have e1 : c.1 - a.1 = u1 + v1 := by omega
    have e2 : c.2 - a.2 = u2 + v2 := by omega
    have e5 : (X - u1) * v2 - (Y - u2) * v1 = X * v2 - Y * v1 := by
      rw [Int.sub_mul, Int.sub_mul, key]; omega
    rw [e1, e2, e5]
    simp only [Int.mul_sub, Int.add_mul, Int.mul_add]
    have k1 : v2 * (Y * u1) = Y * (u1 * v2) := by rw [← Int.mul_assoc, Int.mul_comm v2 Y, Int.mul_assoc, Int.mul_comm v2 u1]
    have k2 : u2 * (Y * v1) = Y * (u2 * v1) := by rw [← Int.mul_assoc, Int.mul_comm u2 Y, Int.mul_assoc]
    have k3 : u2 * (X * v2) = v2 * (X * u2) := by rw [← Int.mul_assoc, Int.mul_comm u2 X, Int.mul_assoc, Int.mul_comm u2 v2, ← Int.mul_assoc, Int.mul_comm X v2, Int.mul_assoc]
    rw [k1, k2, k3, key]
    try omega
  unfold stepL
  by_cases q1 : y < a.2
  · rw [if_neg (by omega), if_neg (by omega), if_neg (by omega), if_neg (by omega), if_neg (by omega), if_neg (by omega)]; rfl
  · by_cases q2 : c.2 ≤ y
    · rw [if_neg (by omega), if_neg (by omega), if_neg (by omega), if_neg (by omega), if_neg (by omega), if_neg (by omega)]; rfl
    · by_cases q3 : y < b.2
      · have d := d1 (by omega)
        by_cases s : 0 ≤ sideL a b x y
        · rw [if_pos ⟨by omega, q3, s⟩, if_neg (by omega), if_neg (by omega), if_pos ⟨by omega, by omega, d.2 s⟩]; rfl
        · rw [if_neg (fun h => s h.2.2), if_neg (by omega), if_neg (by omega), if_neg (by omega), if_neg (fun h => s (d.1 h.2.2)), if_neg (by omega)]; rfl
      · have d := d2 (by omega)
        by_cases s : 0 ≤ sideL b c x y
        · rw [if_neg (by omega), if_neg (by omega), if_pos ⟨by omega, by omega, s⟩, if_pos ⟨by omega, by omega, d.2 s⟩]; rfl
        · rw [if_neg (by omega), if_neg (by omega), if_neg (fun h => s h.2.2), if_neg (by omega), if_neg (fun h => s (d.1 h.2.2)), if_neg (by omega)]; rfl
theorem step_nd (x y : Int) (a b c : Pt) (h : ndB a b c = true) : stepL x y a b + stepL x y b c = stepL x y a c := by
  obtain ⟨h0, h1⟩ := ndB_iff.1 h
  by_cases hu : a.2 ≤ b.2 ∧ b.2 ≤ c.2
  · exact step_up x y h0 hu.1 hu.2
  · by_cases hd : b.2 ≤ a.2 ∧ c.2 ≤ b.2
    · have hc : crossL c b a = 0 := by
        unfold crossL at h0 ⊢
        have e1 : (b.1 - c.1) * (a.2 - b.2) = (c.1 - b.1) * (b.2 - a.2) := by rw [← Int.neg_sub c.1 b.1, ← Int.neg_sub b.2 a.2, Int.neg_mul_neg]
        have e2 : (b.2 - c.2) * (a.1 - b.1) = (c.2 - b.2) * (b.1 - a.1) := by rw [← Int.neg_sub c.2 b.2, ← Int.neg_sub b.1 a.1, Int.neg_mul_neg]
        have e3 := Int.mul_comm (c.1 - b.1) (b.2 - a.2)
        have e4 := Int.mul_comm (c.2 - b.2) (b.1 - a.1)
        omega
      have := step_up x y hc hd.2 hd.1
      have s1 := stepL_anti x y a b
      have s2 := stepL_anti x y b c
      have s3 := stepL_anti x y a c
      omega
    · exfalso
      unfold crossL at h0
      unfold dotL at h1
      generalize hu1 : b.1 - a.1 = u1 at *
      generalize hv1 : c.1 - b.1 = v1 at *
      have hk : (0 < b.2 - a.2 ∧ c.2 - b.2 < 0) ∨ (b.2 - a.2 < 0 ∧ 0 < c.2 - b.2) := by omega
      generalize b.2 - a.2 = u2 at *
      generalize c.2 - b.2 = v2 at *
      rcases hk with ⟨p1, p2⟩ | ⟨p1, p2⟩
      · have n1 := Int.mul_neg_of_pos_of_neg p1 p2
        have n2 : 0 < u1 * v1 := by omega
        rcases Int.lt_trichotomy u1 0 with hz | hz | hz
        · have hv : v1 < 0 := by
            by_cases hh : v1 < 0
            · exact hh
            · have := Int.mul_nonneg (a := -u1) (b := v1) (by omega) (by omega)
              rw [Int.neg_mul] at this; omega
          have m1 := Int.mul_pos_of_neg_of_neg hz p2
          have m2 := Int.mul_neg_of_pos_of_neg p1 hv
          omega
        · rw [hz] at n2; omega
        · have hv : 0 < v1 := by
            by_cases hh : 0 < v1
            · exact hh
            · have := Int.mul_nonneg (a := u1) (b := -v1) (by omega) (by omega)
              rw [Int.mul_neg] at this; omega
          have m1 := Int.mul_neg_of_pos_of_neg hz p2
          have m2 := Int.mul_pos p1 hv
          omega
      · have n1 := Int.mul_neg_of_neg_of_pos p1 p2
        have n2 : 0 < u1 * v1 := by omega
        rcases Int.lt_trichotomy u1 0 with hz | hz | hz
        · have hv : v1 < 0 := by
            by_cases hh : v1 < 0
            · exact hh
            · have := Int.mul_nonneg (a := -u1) (b := v1) (by omega) (by omega)
              rw [Int.neg_mul] at this; omega
          have m1 := Int.mul_neg_of_neg_of_pos hz p2
          have m2 := Int.mul_pos_of_neg_of_neg p1 hv
          omega
        · rw [hz] at n2; omega
        · have hv : 0 < v1 := by
            by_cases hh : 0 < v1
            · exact hh
            · have := Int.mul_nonneg (a := u1) (b := -v1) (by omega) (by omega)
              rw [Int.mul_neg] at this; omega
          have m1 := Int.mul_pos hz p2
          have m2 := Int.mul_neg_of_neg_of_pos p1 hv
          omega
theorem wind_clean (ps : Rg) (x y : Int) : windL [cleanL ps] x y = windL [ps] x y := by
  unfold windL cleanL
  rw [sumS_one, sumS_one]
  exact sumE_clean _ (step_nd x y) _ _
theorem area_clean (ps : Rg) : areaL [cleanL ps] = areaL [ps] := by
  unfold areaL cleanL
  rw [sumS_one, sumS_one]
  exact sumE_clean _ area_nd _ _
end Go.Proofs.Ythfnomlkoiacbaa
