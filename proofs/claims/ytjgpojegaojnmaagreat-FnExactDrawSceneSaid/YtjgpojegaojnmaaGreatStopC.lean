/-
  The color of stops at a place: plain, and the walks.
-/
import Derived.Test.YtjgpojegaojnmaaGreatStops
import Derived.Test.YtjgpojegaojnmaaGreatMg3
namespace Go.Proofs.YtjgpojegaojnmaaGreat
open Go Go.RowKit Reg
attribute [local go_sem] calmAt calmUpon
def stAt (ss : List St) (i : Nat) : St := ss.getD i (0, 0, 0, 0, 0)
/-- The color between stop i - 1 and stop i. -/
def segL (ss : List St) (t : Int) (i : Nat) : Bx4 := mixL (stAt ss (i - 1)).2 (stAt ss i).2 (256 * (t - (stAt ss (i - 1)).1) / ((stAt ss i).1 - (stAt ss (i - 1)).1))
/-- As the reference finds it. -/
def stopL (ss : List St) (t : Int) : Bx4 :=
  if t ≤ (stAt ss 0).1 then (stAt ss 0).2
  else match (List.range ss.length).find? (fun i => decide (0 < i ∧ t ≤ (stAt ss i).1)) with
    | some i => segL ss t i
    | none => (stAt ss (ss.length - 1)).2
theorem stAt_eq {ss : List St} {k : Nat} (hk : k < ss.length) : stAt ss k = ss[k] := by
  unfold stAt; rw [List.getD_eq_getElem?_getD, List.getElem?_eq_getElem hk]; rfl
theorem rnd_whole (x : Int) : rndL (x * 256) 256 = x := by unfold rndL; omega
theorem mixL_0 (a b : Bx4) : mixL a b 0 = a := by
  unfold mixL mixG
  simp only [Int.sub_zero, Int.mul_zero, Int.add_zero, rnd_whole]
theorem mixL_256 (a b : Bx4) : mixL a b 256 = b := by
  unfold mixL mixG
  simp only [Int.sub_self, Int.mul_zero, Int.zero_add, rnd_whole]
theorem st_rise {ss : List St} (h : stB ss = true) {k : Nat} (hk : k + 1 < ss.length) : (stAt ss k).1 < (stAt ss (k + 1)).1 := by
  have := (stB_at h hk).1
  rw [lastAt_succ (by omega)] at this
  rw [stAt_eq (by omega), stAt_eq hk]; omega
theorem stopL_first {ss : List St} {t : Int} (h : t ≤ (stAt ss 0).1) : stopL ss t = (stAt ss 0).2 := by unfold stopL; rw [if_pos h]
theorem stopL_seg {ss : List St} {t : Int} {i : Nat} (h0 : ¬ t ≤ (stAt ss 0).1) (hi : 0 < i) (hl : i < ss.length) (hb : ∀ j, 0 < j → j < i → ¬ t ≤ (stAt ss j).1) (ht : t ≤ (stAt ss i).1) : stopL ss t = segL ss t i := by
  unfold stopL
  rw [if_neg h0]
  have : (List.range ss.length).find? (fun i => decide (0 < i ∧ t ≤ (stAt ss i).1)) = some i := by
    rw [List.find?_range_eq_some]
    refine ⟨by simp [hi, ht], by simpa using hl, fun j hj => ?_⟩
    rcases Nat.eq_zero_or_pos j with h | h
    · simp [h]
    · have := hb j h hj; simp; omega
  rw [this]
theorem stopL_last {ss : List St} {t : Int} (h0 : ¬ t ≤ (stAt ss 0).1) (hb : ∀ j, 0 < j → j < ss.length → ¬ t ≤ (stAt ss j).1) : stopL ss t = (stAt ss (ss.length - 1)).2 := by
  unfold stopL
  rw [if_neg h0]
  have : (List.range ss.length).find? (fun i => decide (0 < i ∧ t ≤ (stAt ss i).1)) = none := by
    rw [List.find?_eq_none]
    intro j hj
    rcases Nat.eq_zero_or_pos j with h | h
    · simp [h]
    · have := hb j h (by simpa using hj); simp; omega
  rw [this]
theorem seg_end {ss : List St} {t : Int} {i : Nat} (h : stB ss = true) (hl : i + 1 < ss.length) (ht : t = (stAt ss (i + 1)).1) : segL ss t (i + 1) = (stAt ss (i + 1)).2 := by
  have := st_rise h hl
  unfold segL
  rw [Nat.add_sub_cancel, ht, Int.mul_ediv_cancel _ (by omega), mixL_256]
theorem seg_start {ss : List St} {t : Int} {i : Nat} (ht : t = (stAt ss i).1) : segL ss t (i + 1) = (stAt ss i).2 := by
  unfold segL
  rw [Nat.add_sub_cancel, ht, Int.sub_self, Int.mul_zero, Int.zero_ediv, mixL_0]
/-- As the program finds it: the first stop that t is less than. -/
theorem stopL_impl {ss : List St} {t : Int} {k : Nat} (h : stB ss = true) (h0 : ¬ t ≤ (stAt ss 0).1) (hl : k + 1 < ss.length) (hb : ∀ j, 0 < j → j ≤ k → ¬ t < (stAt ss j).1) (ht : t < (stAt ss (k + 1)).1) : stopL ss t = segL ss t (k + 1) := by
  by_cases he : 0 < k ∧ t = (stAt ss k).1
  · obtain ⟨hk, he⟩ := he
    rw [seg_start he]
    obtain ⟨m, rfl⟩ : ∃ m, k = m + 1 := ⟨k - 1, by omega⟩
    rw [stopL_seg (i := m + 1) h0 (by omega) (by omega) (fun j hj hj2 => ?_) (by omega)]
    · exact seg_end h (by omega) he
    · have h1 := hb j hj (by omega)
      have key : ∀ d j, j + d + 1 < ss.length → (stAt ss j).1 < (stAt ss (j + d + 1)).1 := by
        intro d
        induction d with
        | zero => intro j hj; exact st_rise h hj
        | succ d ih => intro j hj; have := ih j (by omega); have := st_rise h (k := j + d + 1) (by omega); rw [show j + (d + 1) + 1 = j + d + 1 + 1 by omega]; omega
      have := key (m - j) j (by omega)
      rw [show j + (m - j) + 1 = m + 1 by omega] at this
      omega
  · refine stopL_seg h0 (by omega) hl (fun j hj hj2 => ?_) (by omega)
    have h1 := hb j hj (by omega)
    by_cases hjk : j = k
    · subst hjk; omega
    · have key : ∀ d j, j + d + 1 < ss.length → (stAt ss j).1 < (stAt ss (j + d + 1)).1 := by
        intro d
        induction d with
        | zero => intro j hj; exact st_rise h hj
        | succ d ih => intro j hj; have := ih j (by omega); have := st_rise h (k := j + d + 1) (by omega); rw [show j + (d + 1) + 1 = j + d + 1 + 1 by omega]; omega
      have h2 := key (k - j - 1) j (by omega)
      rw [show j + (k - j - 1) + 1 = k by omega] at h2
      have := hb k (by omega) (Nat.le_refl _)
      omega
theorem stopL_impl_last {ss : List St} {t : Int} (h : stB ss = true) (h0 : ¬ t ≤ (stAt ss 0).1) (hb : ∀ j, 0 < j → j < ss.length → ¬ t < (stAt ss j).1) : stopL ss t = (stAt ss (ss.length - 1)).2 := by
  have hn := (stB_len h).1
  by_cases he : 1 < ss.length ∧ t = (stAt ss (ss.length - 1)).1
  · obtain ⟨h1, he⟩ := he
    obtain ⟨m, hm⟩ : ∃ m, ss.length = m + 2 := ⟨ss.length - 2, by omega⟩
    have e : ss.length - 1 = m + 1 := by omega
    rw [e] at he ⊢
    rw [stopL_seg (i := m + 1) h0 (by omega) (by omega) (fun j hj hj2 => ?_) (by omega)]
    · exact seg_end h (by omega) he
    · have key : ∀ d j, j + d + 1 < ss.length → (stAt ss j).1 < (stAt ss (j + d + 1)).1 := by
        intro d
        induction d with
        | zero => intro j hj; exact st_rise h hj
        | succ d ih => intro j hj; have := ih j (by omega); have := st_rise h (k := j + d + 1) (by omega); rw [show j + (d + 1) + 1 = j + d + 1 + 1 by omega]; omega
      have := key (m - j) j (by omega)
      rw [show j + (m - j) + 1 = m + 1 by omega] at this
      omega
  · refine stopL_last h0 (fun j hj hj2 => ?_)
    have h1 := hb j hj hj2
    by_cases hjk : j = ss.length - 1
    · subst hjk; omega
    · have key : ∀ d j, j + d + 1 < ss.length → (stAt ss j).1 < (stAt ss (j + d + 1)).1 := by
        intro d
        induction d with
        | zero => intro j hj; exact st_rise h hj
        | succ d ih => intro j hj; have := ih j (by omega); have := st_rise h (k := j + d + 1) (by omega); rw [show j + (d + 1) + 1 = j + d + 1 + 1 by omega]; omega
      have h2 := key (ss.length - 1 - j - 1) j (by omega)
      rw [show j + (ss.length - 1 - j - 1) + 1 = ss.length - 1 by omega] at h2
      have := hb (ss.length - 1) (by omega) (by omega)
      omega
theorem seg_q {a b t : Int} (h1 : a ≤ t) (h2 : t ≤ b) (h3 : a < b) : 0 ≤ 256 * (t - a) / (b - a) ∧ 256 * (t - a) / (b - a) ≤ 256 := by
  refine ⟨Int.ediv_nonneg (by omega) (by omega), ?_⟩
  exact Int.ediv_le_of_le_mul (by omega) (by
    have := Int.mul_le_mul_of_nonneg_left (show t - a ≤ b - a by omega) (show (0 : Int) ≤ 256 by decide)
    omega)
end Go.Proofs.YtjgpojegaojnmaaGreat
