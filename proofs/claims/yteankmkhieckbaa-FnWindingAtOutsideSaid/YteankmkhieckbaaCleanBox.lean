/-
  A point between its neighbours does not matter for the box around a polygon.
-/
import Derived.Test.YteankmkhieckbaaCleanL
import Derived.Test.YteankmkhieckbaaBoxOf
namespace Go.Proofs.Yteankmkhieckbaa

theorem prod_sign {u v x y : Int} (hc : u * y = x * v) (hd : 0 ≤ u * v + x * y) : 0 ≤ u * v := by
  by_cases h : 0 ≤ u * v
  · exact h
  · exfalso
    have h1 : 0 < x * y := by omega
    have h2 : (u * v) * (x * y) = (u * y) * (x * v) := by
      rw [Int.mul_assoc, Int.mul_assoc, ← Int.mul_assoc v x y, Int.mul_comm v x, Int.mul_assoc x v y, Int.mul_comm v y, ← Int.mul_assoc x y v, Int.mul_comm x y, Int.mul_assoc y x v]
    rw [hc] at h2
    have h3 : 0 ≤ (x * v) * (x * v) := by
      rcases Int.le_total 0 (x * v) with h | h
      · exact Int.mul_nonneg h h
      · have := Int.mul_nonneg (Int.neg_nonneg_of_nonpos h) (Int.neg_nonneg_of_nonpos h)
        rwa [Int.neg_mul_neg] at this
    have h4 : (u * v) * (x * y) < 0 := Int.mul_neg_of_neg_of_pos (by omega) h1
    omega
theorem mul_pos_cases {u v : Int} (h : 0 ≤ u * v) : (0 ≤ u ∧ 0 ≤ v) ∨ (u ≤ 0 ∧ v ≤ 0) := by
  rcases Int.lt_trichotomy u 0 with h1 | h1 | h1
  · right
    refine ⟨by omega, ?_⟩
    rcases Int.le_total v 0 with h2 | h2
    · exact h2
    · rcases Int.lt_or_le 0 v with h3 | h3
      · have := Int.mul_neg_of_neg_of_pos h1 h3; omega
      · exact h3
  · subst h1
    rcases Int.le_total v 0 with h2 | h2
    · exact .inr ⟨by omega, h2⟩
    · exact .inl ⟨by omega, h2⟩
  · left
    refine ⟨by omega, ?_⟩
    rcases Int.lt_or_le v 0 with h3 | h3
    · have := Int.mul_neg_of_pos_of_neg h1 h3; omega
    · exact h3
/-- A point between two others has coordinates between theirs. -/
theorem nd_between {a b c : Pt} (h : ndB a b c = true) : (a.1 ≤ b.1 ∧ b.1 ≤ c.1 ∨ c.1 ≤ b.1 ∧ b.1 ≤ a.1) ∧ (a.2 ≤ b.2 ∧ b.2 ≤ c.2 ∨ c.2 ≤ b.2 ∧ b.2 ≤ a.2) := by
  obtain ⟨hc, hd⟩ := ndB_iff.1 h
  unfold crossL at hc
  unfold dotL at hd
  have e1 : (b.1 - a.1) * (c.2 - b.2) = (b.2 - a.2) * (c.1 - b.1) := by omega
  have h1 := prod_sign e1 hd
  have e2 : (b.2 - a.2) * (c.1 - b.1) = (b.1 - a.1) * (c.2 - b.2) := e1.symm
  have h2 := prod_sign e2 (by omega)
  rcases mul_pos_cases h1 with ⟨p, q⟩ | ⟨p, q⟩ <;> rcases mul_pos_cases h2 with ⟨r, s⟩ | ⟨r, s⟩ <;> omega

structure IsBox (ps : List Pt) (b : Bx4) : Prop where
  ins : ∀ p ∈ ps, b.1 ≤ p.1 ∧ b.2.1 ≤ p.2 ∧ p.1 ≤ b.2.2.1 ∧ p.2 ≤ b.2.2.2
  l : ∃ p ∈ ps, p.1 = b.1
  t : ∃ p ∈ ps, p.2 = b.2.1
  r : ∃ p ∈ ps, p.1 = b.2.2.1
  b : ∃ p ∈ ps, p.2 = b.2.2.2
theorem IsBox.unique {ps : List Pt} {b c : Bx4} (h : IsBox ps b) (k : IsBox ps c) : b = c := by
  obtain ⟨b1, b2, b3, b4⟩ := b
  obtain ⟨c1, c2, c3, c4⟩ := c
  obtain ⟨p1, m1, e1⟩ := h.l
  obtain ⟨p2, m2, e2⟩ := h.t
  obtain ⟨p3, m3, e3⟩ := h.r
  obtain ⟨p4, m4, e4⟩ := h.b
  obtain ⟨q1, n1, f1⟩ := k.l
  obtain ⟨q2, n2, f2⟩ := k.t
  obtain ⟨q3, n3, f3⟩ := k.r
  obtain ⟨q4, n4, f4⟩ := k.b
  have := k.ins _ m1; have := k.ins _ m2; have := k.ins _ m3; have := k.ins _ m4
  have := h.ins _ n1; have := h.ins _ n2; have := h.ins _ n3; have := h.ins _ n4
  simp only [Prod.mk.injEq]
  simp only at *
  omega
theorem isBox_snoc {ps : List Pt} {b : Bx4} (h : IsBox ps b) (q : Pt) : IsBox (ps ++ [q]) (bxAdd b q) := by
  obtain ⟨b1, b2, b3, b4⟩ := b
  obtain ⟨p1, m1, e1⟩ := h.l
  obtain ⟨p2, m2, e2⟩ := h.t
  obtain ⟨p3, m3, e3⟩ := h.r
  obtain ⟨p4, m4, e4⟩ := h.b
  have hi := h.ins
  simp only at *
  refine ⟨?_, ?_, ?_, ?_, ?_⟩
  · intro p hp
    simp only [bxAdd]
    rcases List.mem_append.1 hp with hp | hp
    · have := hi p hp; omega
    · simp at hp; subst hp; omega
  all_goals simp only [bxAdd]
  · by_cases h : b1 ≤ q.1
    · exact ⟨p1, by simp [m1], by omega⟩
    · exact ⟨q, by simp, by omega⟩
  · by_cases h : b2 ≤ q.2
    · exact ⟨p2, by simp [m2], by omega⟩
    · exact ⟨q, by simp, by omega⟩
  · by_cases h : q.1 ≤ b3
    · exact ⟨p3, by simp [m3], by omega⟩
    · exact ⟨q, by simp, by omega⟩
  · by_cases h : q.2 ≤ b4
    · exact ⟨p4, by simp [m4], by omega⟩
    · exact ⟨q, by simp, by omega⟩
theorem isBox_boxOfL {ps : List Pt} (h : 0 < ps.length) : IsBox ps (boxOfL ps) := by
  have key : ∀ k, 0 < k → k ≤ ps.length → IsBox (ps.take k) (bxK ps k) := by
    intro k
    induction k with
    | zero => intro h; omega
    | succ k ih =>
      intro _ hk
      rw [bxK_succ (by omega), List.take_succ_eq_append_getElem (by omega)]
      rcases Nat.eq_zero_or_pos k with h0 | h0
      · subst h0
        have hhd : ps.headD (0, 0) = ps[0] := by
          match ps, h with
          | p :: ps, _ => rfl
        have e : bxAdd (bxK ps 0) ps[0] = bxPt ps[0] := by
          have e0 : bxK ps 0 = bxPt ps[0] := by unfold bxK; rw [hhd]; rfl
          rw [e0]; unfold bxAdd bxPt; simp
        rw [e]
        simp only [List.take_zero, List.nil_append]
        generalize ps[0] = q
        exact ⟨fun p hp => by simp at hp; subst hp; simp [bxPt], ⟨q, by simp, rfl⟩, ⟨q, by simp, rfl⟩, ⟨q, by simp, rfl⟩, ⟨q, by simp, rfl⟩⟩
      · exact isBox_snoc (ih h0 (by omega)) _
  have := key ps.length h (Nat.le_refl _)
  rwa [List.take_length, bxK_all h] at this
theorem box_erase {ps : List Pt} {i : Nat} (h : fstNd ps = some i) : boxOfL (ps.eraseIdx i) = boxOfL ps := by
  obtain ⟨hi, h1, hnd⟩ := fstNd_lt h
  rw [ndAt_eq hi] at hnd
  have hb := nd_between hnd
  have l0 : (i + ps.length - 1) % ps.length < ps.length := Nat.mod_lt _ (by omega)
  have l1 : (i + 1) % ps.length < ps.length := Nat.mod_lt _ (by omega)
  have n0 : (i + ps.length - 1) % ps.length ≠ i := by
    rcases Nat.eq_zero_or_pos i with h | h
    · subst h; rw [Nat.zero_add, Nat.mod_eq_of_lt (by omega)]; omega
    · have e : i + ps.length - 1 = (i - 1) + ps.length := by omega
      rw [e, Nat.add_mod_right, Nat.mod_eq_of_lt (by omega)]; omega
  have n1 : (i + 1) % ps.length ≠ i := by
    by_cases h : i + 1 = ps.length
    · rw [h, Nat.mod_self]; omega
    · rw [Nat.mod_eq_of_lt (by omega)]; omega
  have ma : ps[(i + ps.length - 1) % ps.length] ∈ ps.eraseIdx i := List.mem_eraseIdx_iff_getElem.2 ⟨_, l0, n0, rfl⟩
  have mc : ps[(i + 1) % ps.length] ∈ ps.eraseIdx i := List.mem_eraseIdx_iff_getElem.2 ⟨_, l1, n1, rfl⟩
  have hB := isBox_boxOfL (ps := ps) (by omega)
  generalize ps[(i + ps.length - 1) % ps.length] = a at *
  generalize ps[(i + 1) % ps.length] = c at *
  have ha := hB.ins a (List.mem_of_mem_eraseIdx ma)
  have hc := hB.ins c (List.mem_of_mem_eraseIdx mc)
  have other : ∀ p ∈ ps, p ≠ ps[i] → p ∈ ps.eraseIdx i := by
    intro p hp hne
    obtain ⟨j, hj, rfl⟩ := List.getElem_of_mem hp
    exact List.mem_eraseIdx_iff_getElem.2 ⟨j, hj, fun e => by subst e; exact hne rfl, rfl⟩
  have h2 : IsBox (ps.eraseIdx i) (boxOfL ps) := by
    generalize boxOfL ps = B at *
    refine ⟨fun p hp => hB.ins p (List.mem_of_mem_eraseIdx hp), ?_, ?_, ?_, ?_⟩
    · obtain ⟨p, hp, e⟩ := hB.l
      by_cases hne : p = ps[i]
      · subst hne
        rcases hb.1 with hh | hh
        · exact ⟨a, ma, by omega⟩
        · exact ⟨c, mc, by omega⟩
      · exact ⟨p, other p hp hne, e⟩
    · obtain ⟨p, hp, e⟩ := hB.t
      by_cases hne : p = ps[i]
      · subst hne
        rcases hb.2 with hh | hh
        · exact ⟨a, ma, by omega⟩
        · exact ⟨c, mc, by omega⟩
      · exact ⟨p, other p hp hne, e⟩
    · obtain ⟨p, hp, e⟩ := hB.r
      by_cases hne : p = ps[i]
      · subst hne
        rcases hb.1 with hh | hh
        · exact ⟨c, mc, by omega⟩
        · exact ⟨a, ma, by omega⟩
      · exact ⟨p, other p hp hne, e⟩
    · obtain ⟨p, hp, e⟩ := hB.b
      by_cases hne : p = ps[i]
      · subst hne
        rcases hb.2 with hh | hh
        · exact ⟨c, mc, by omega⟩
        · exact ⟨a, ma, by omega⟩
      · exact ⟨p, other p hp hne, e⟩
  exact (isBox_boxOfL (by rw [List.length_eraseIdx_of_lt hi]; omega)).unique h2
theorem box_cleanL : ∀ (n : Nat) (ps : List Pt), ps.length ≤ n → boxOfL (cleanL ps) = boxOfL ps ∧ (0 < ps.length → 0 < (cleanL ps).length) ∧ (psB ps = true → psB (cleanL ps) = true) := by
  intro n
  induction n with
  | zero =>
    intro ps h
    have : ps = [] := List.eq_nil_of_length_eq_zero (by omega)
    subst this
    exact ⟨rfl, fun h => h, fun h => h⟩
  | succ n ih =>
    intro ps h
    cases hf : fstNd ps with
    | none => rw [cleanL_none hf]; exact ⟨rfl, fun h => h, fun h => h⟩
    | some i =>
      obtain ⟨hi, h1, _⟩ := fstNd_lt hf
      have hl : (ps.eraseIdx i).length + 1 = ps.length := by rw [List.length_eraseIdx_of_lt hi]; omega
      rw [cleanL_some hf]
      obtain ⟨q1, q2, q3⟩ := ih (ps.eraseIdx i) (by omega)
      exact ⟨q1.trans (box_erase hf), fun _ => q2 (by omega), fun h => q3 (psB_erase h i)⟩
/-- A clean polygon has the same box. -/
theorem boxR_cleanR {ps : List Pt} (h : (cleanR ps).length ≠ 0) : boxR (cleanR ps) = boxR ps ∧ boxOk1 ps = true ∧ boxOk1 (cleanR ps) = true := by
  by_cases hv : psB ps = true
  · have e : cleanR ps = cleanL ps := by simp [cleanR, hv]
    rw [e] at h ⊢
    obtain ⟨q1, q2, q3⟩ := box_cleanL _ ps (Nat.le_refl _)
    have h0 : 0 < ps.length := by
      rcases Nat.eq_zero_or_pos ps.length with h0 | h0
      · have : ps = [] := List.eq_nil_of_length_eq_zero h0
        subst this
        exact absurd rfl h
      · exact h0
    have k1 : boxOk1 ps = true := by simp [boxOk1, hv, h0]
    have k2 : boxOk1 (cleanL ps) = true := by simp [boxOk1, q3 hv, q2 h0]
    exact ⟨by simp [boxR, k1, k2, q1], k1, k2⟩
  · simp only [Bool.not_eq_true] at hv
    exact absurd (by simp [cleanR, hv]) h
end Go.Proofs.Yteankmkhieckbaa
