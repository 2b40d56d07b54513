/-
  Level strokes, plainly; the size of a number: the walk.
-/
import Derived.Test.YtjiikjkaadfalaaStrokeL
import Derived.Test.YtjiikjkaadfalaaBoxOf
namespace Go.Proofs.Ytjiikjkaadfalaa
open Go Go.RowKit Reg
attribute [local go_sem] calmAt calmUpon
def absI (n : Int) : Int := if n < 0 then -n else n
theorem nrm_level {x0 x1 y h : Int} (hx : x0 ≠ x1) : ∃ n, (n = h ∨ n = -h) ∧ nrmL (x0, y) (x1, y) h = (0, n) := by
  obtain ⟨L, hL⟩ : ∃ L, (x1 - x0).natAbs = L := ⟨_, rfl⟩
  have hL0 : 0 < L := by omega
  have e1 : longL (x0, y) (x1, y) = L := by
    unfold longL
    dsimp only
    have h2 : (x1 - x0) * (x1 - x0) + (y - y) * (y - y) = ((L * L : Nat) : Int) := by
      rw [← hL, Int.natAbs_mul_self, Int.sub_self]; omega
    rw [h2, Int.toNat_natCast, rootL_sq]
  have hz : (L : Int) / (2 * L) = 0 := Int.ediv_eq_zero_of_lt (by omega) (by omega)
  have hn : (2 * (L : Int)) ≠ 0 := by omega
  unfold nrmL
  rw [e1]
  dsimp only
  have r0 : rndL ((y - y) * h) L = 0 := by
    unfold rndL
    rw [Int.sub_self, Int.zero_mul, Int.mul_zero, Int.zero_add, hz]
  rw [r0]
  rcases Int.lt_or_gt_of_ne hx with hlt | hgt
  · have hd : x1 - x0 = (L : Int) := by omega
    refine ⟨h, .inl rfl, ?_⟩
    rw [hd]
    unfold rndL
    have e : 2 * ((L : Int) * h) + L = L + 2 * L * h := by rw [Int.mul_assoc]; omega
    rw [e, Int.add_mul_ediv_left _ _ hn, hz, Int.zero_add]
  · have hd : x1 - x0 = -(L : Int) := by omega
    refine ⟨-h, .inr rfl, ?_⟩
    rw [hd]
    unfold rndL
    have e : 2 * (-(L : Int) * h) + L = L + 2 * L * (-h) := by simp only [Int.mul_assoc, Int.neg_mul, Int.mul_neg]; omega
    rw [e, Int.add_mul_ediv_left _ _ hn, hz, Int.zero_add]
theorem bar_level {x0 x1 y h : Int} (hx : x0 ≠ x1) : ∃ n, (n = h ∨ n = -h) ∧ barL (x0, y) (x1, y) h = [(x0, y + n), (x1, y + n), (x1, y - n), (x0, y - n)] := by
  obtain ⟨n, hn, e⟩ := nrm_level (y := y) (h := h) hx
  refine ⟨n, hn, ?_⟩
  unfold barL barP
  rw [e]
  simp
theorem level_box {x0 x1 y h : Int} (hx : x0 ≠ x1) (hh : 1 ≤ h) : (boxOfL (barL (x0, y) (x1, y) h)).2.2.1 - (boxOfL (barL (x0, y) (x1, y) h)).1 = absI (x1 - x0) ∧ (boxOfL (barL (x0, y) (x1, y) h)).2.2.2 - (boxOfL (barL (x0, y) (x1, y) h)).2.1 = 2 * h := by
  obtain ⟨n, hn, e⟩ := bar_level (y := y) (h := h) hx
  rw [e]
  simp only [boxOfL, List.foldl_cons, List.foldl_nil, bxAdd, bxPt, absI]
  rcases hn with rfl | rfl <;> (constructor <;> (try split) <;> omega)
theorem level_area {x0 x1 y h : Int} (hx : x0 ≠ x1) (hh : 1 ≤ h) : absI (areaL [barL (x0, y) (x1, y) h]) = 4 * h * absI (x1 - x0) := by
  obtain ⟨n, hn, e⟩ := bar_level (y := y) (h := h) hx
  have ea : areaL [barL (x0, y) (x1, y) h] = 4 * (x0 * n) - 4 * (x1 * n) := by
    rw [e]
    simp only [areaL, sumS, sumE, edgesL, sumI, areaE, List.map_cons, List.map_nil, List.foldr_cons, List.foldr_nil, List.tail_cons, List.take_succ_cons, List.take_zero, List.cons_append, List.nil_append, List.zip_cons_cons, List.zip_nil_right, Int.mul_add, Int.mul_sub]
    omega
  rw [ea]
  have hp : 0 ≤ absI (x1 - x0) * h := Int.mul_nonneg (by unfold absI; split <;> omega) (by omega)
  have e4 : 4 * h * absI (x1 - x0) = 4 * (absI (x1 - x0) * h) := by rw [Int.mul_assoc, Int.mul_comm h]
  rw [e4]
  have key : x0 * h - x1 * h = absI (x1 - x0) * h ∨ x0 * h - x1 * h = -(absI (x1 - x0) * h) := by
    rw [← Int.sub_mul, ← Int.neg_mul]
    unfold absI
    split
    · left; congr 1; omega
    · right; congr 1; omega
  obtain ⟨D, hD⟩ : ∃ D, absI (x1 - x0) * h = D := ⟨_, rfl⟩
  rw [hD] at hp key ⊢
  unfold absI
  rcases hn with rfl | rfl
  · split <;> omega
  · simp only [Int.mul_neg]
    split <;> omega
set_option maxHeartbeats 1000000 in
theorem c_absolute (n : Int) (w : World) (h : -4611686018427387904 ≤ n ∧ n ≤ 4611686018427387904) : Calls Try.prog 17 #[.int .i64 n] w fun e w' => e = .returned (.int .i64 (absI n)) ∧ w = w' := by
  by_cases h0 : n < 0
  · have e : Hid (absI n = -n) := Lib.hid (by unfold absI; rw [if_pos h0])
    go_enter Try.func17, Try.ntmps17
    go_wp2
    go_ret
    exact ⟨ret_i e.out.symm, rfl⟩
  · have e : Hid (absI n = n) := Lib.hid (by unfold absI; rw [if_neg h0])
    go_enter Try.func17, Try.ntmps17
    go_wp2
    go_ret
    exact ⟨ret_i e.out.symm, rfl⟩
end Go.Proofs.Ytjiikjkaadfalaa
