/-
  How much of a pixel is covered: the walks.
-/
import Derived.Test.YteknlifgejpjfaaWindA
import Derived.Test.YteknlifgejpjfaaCurveL
namespace Go.Proofs.Yteknlifgejpjfaa
open Go Go.RowKit Reg
attribute [local go_sem] calmAt calmUpon
def insB (n rule : Int) : Bool := if rule = 1 then decide (n % 2 ≠ 0) else decide (n ≠ 0)
/-- How many of the first i rows of four, and of the first k of the next row. -/
def cnt (f : Nat → Nat → Bool) (i k : Nat) : Nat := ((List.range i).map fun a => (List.range 4).countP (f a)).sum + (List.range k).countP (f i)
theorem cnt_succ (f : Nat → Nat → Bool) (i k : Nat) : cnt f i (k + 1) = cnt f i k + (if f i k then 1 else 0) := by
  unfold cnt; rw [List.range_succ (n := k), List.countP_append]; simp [List.countP_cons]; omega
theorem cnt_row (f : Nat → Nat → Bool) (i : Nat) : cnt f i 4 = cnt f (i + 1) 0 := by
  unfold cnt; rw [List.range_succ (n := i), List.map_append, List.sum_append]; simp
theorem cnt_bd (f : Nat → Nat → Bool) (i k : Nat) : cnt f i k ≤ 4 * i + k := by
  unfold cnt
  have h1 : (List.range k).countP (f i) ≤ k := by have := List.countP_le_length (p := f i) (l := List.range k); simpa using this
  have h2 : ((List.range i).map fun a => (List.range 4).countP (f a)).sum ≤ 4 * i := by
    induction i with
    | zero => simp
    | succ i ih =>
      rw [List.range_succ (n := i), List.map_append, List.sum_append]
      have h3 : (List.range 4).countP (f i) ≤ 4 := by have := List.countP_le_length (p := f i) (l := List.range 4); simpa using this
      have h4 : (List.range k).countP (f i) ≤ k := by have := List.countP_le_length (p := f i) (l := List.range k); simpa using this
      have := ih h4
      simp; omega
  omega
theorem cnt_flip (f : Nat → Nat → Bool) : cnt (fun i k => f k i) 4 0 = cnt f 4 0 := by
  simp only [cnt, show List.range 4 = [0, 1, 2, 3] from rfl, show List.range 0 = [] from rfl, List.map_cons, List.map_nil, List.sum_cons, List.sum_nil, List.countP_cons, List.countP_nil]
  omega
/-- The samples of a pixel, row by row. -/
def smpS (rs : List Rg) (rule c r : Int) (i k : Nat) : Bool := insB (windL rs (16 * c + 4 * (k : Int) + 2) (16 * r + 4 * (i : Int) + 2)) rule
def coverL (rs : List Rg) (rule c r : Int) : Int := (cnt (smpS rs rule c r) 4 0 : Nat)
def coverR (rs : List Rg) (rule c r : Int) : Int := if rgsB rs && inB rule 0 1 && inB c 0 11 && inB r 0 11 then coverL rs rule c r else -1
theorem windL_bd {rs : List Rg} (h : rgsB rs = true) (x y : Int) : -320 ≤ windL rs x y ∧ windL rs x y ≤ 320 := by
  have hr := rgsB_iff.1 h
  have := sumS_bd (f := stepL x y) (rs := rs) (B := 40) (fun r hq => by have := sumE_bd40 (f := stepL x y) (B := 1) (fun a _ b _ => stepL_bd x y a b) (by omega) (hr.1 r hq).2; omega) (by omega) (k := rs.length) hr.2.1
  rw [List.take_length] at this
  unfold windL; omega
set_option maxHeartbeats 1000000 in
theorem c_distance' (n : Int) (w : World) (h : -1000000 ≤ n ∧ n ≤ 1000000) : Calls Try.prog 62 #[.int .i64 n] w fun e w' => e = .returned (.int .i64 (absI n)) ∧ w = w' := by
  obtain ⟨h1, h2⟩ := h
  by_cases hn : n < 0
  all_goals
    go_enter Try.func62, Try.ntmps62
    go_wp2
    go_ret
    exact ⟨ret_i (by unfold absI; omega), rfl⟩
set_option maxHeartbeats 1000000 in
theorem c_sinside (n rule : Int) (w : World) (h : -1000000 ≤ n ∧ n ≤ 1000000) : Calls Try.prog 52 #[.int .i64 n, .int .i64 rule] w fun e w' => e = .returned (.bool (insB n rule)) ∧ w = w' := by
  by_cases hr : rule = 1
  · have hb : (rule == 1) = true := by simp [hr]
    have hI : Hid (insB n rule = decide (absI n % 2 = 1)) := Lib.hid (by unfold insB; rw [if_pos hr]; unfold absI; rw [decide_eq_decide]; split <;> omega)
    have hn0 : 0 ≤ absI n ∧ absI n ≤ 1000000 := by unfold absI; split <;> omega
    have K := Lib.hid (c_distance' n w h)
    obtain ⟨q1, q2⟩ := hn0
    clear hr h
    generalize absI n = m at *
    go_enter Try.func52, Try.ntmps52
    go_wp2_with fail
    refine (K.out).mono ?_
    rintro e w' ⟨rfl, rfl⟩
    go_wp2
    go_ret
    exact ⟨ret_bb (by rw [hI.out, Bool.eq_iff_iff]; simp), rfl⟩
  · have hb : (rule == 1) = false := by simp [hr]
    have hI : Hid (insB n rule = decide (n ≠ 0)) := Lib.hid (by unfold insB; rw [if_neg hr])
    clear hr
    go_enter Try.func52, Try.ntmps52
    go_wp2
    go_ret
    exact ⟨ret_bb (by rw [hI.out, Bool.eq_iff_iff]; simp), rfl⟩
set_option maxHeartbeats 1000000 in
theorem c_iinside (n rule : Int) (w : World) (h : -1000000 ≤ n ∧ n ≤ 1000000) : Calls Try.prog 32 #[.int .i64 n, .int .i64 rule] w fun e w' => e = .returned (.bool (insB n rule)) ∧ w = w' := by
  obtain ⟨h1, h2⟩ := h
  by_cases hr : rule = 1
  · have hb : (rule == 1) = true := by simp [hr]
    obtain ⟨m, hm⟩ : ∃ m, m = n.tmod 2 := ⟨_, rfl⟩
    obtain ⟨hm2, hmb⟩ : ((n % 2 ≠ 0) ↔ m ≠ 0) ∧ (-1 ≤ m ∧ m ≤ 1) := by
      rcases Int.le_total 0 n with h | h
      · rw [Int.tmod_eq_emod_of_nonneg h] at hm; omega
      · obtain ⟨k, rfl⟩ : ∃ k, n = -k := ⟨-n, by omega⟩
        rw [Int.neg_tmod, Int.tmod_eq_emod_of_nonneg (by omega)] at hm; omega
    have hI : Hid (insB n rule = decide (m ≠ 0)) := Lib.hid (by unfold insB; rw [if_pos hr, decide_eq_decide]; exact hm2)
    have hmt : n.tmod 2 = m := hm.symm
    clear hr hm hm2
    go_enter Try.func32, Try.ntmps32
    go_wp2
    go_ret
    exact ⟨ret_bb (by rw [hI.out, Bool.eq_iff_iff]; simp), rfl⟩
  · have hb : (rule == 1) = false := by simp [hr]
    have hI : Hid (insB n rule = decide (n ≠ 0)) := Lib.hid (by unfold insB; rw [if_neg hr])
    clear hr
    go_enter Try.func32, Try.ntmps32
    go_wp2
    go_ret
    exact ⟨ret_bb (by rw [hI.out, Bool.eq_iff_iff]; simp), rfl⟩
set_option maxHeartbeats 1000000 in
theorem c_isRule (n : Int) (w : World) : Calls Try.prog 31 #[.int .i64 n] w fun e w' => e = .returned (.bool (inB n 0 1)) ∧ w = w' := by
  by_cases h0 : n = 0
  · have hb : (n == 0) = true := by simp [h0]
    have hI : Hid (inB n 0 1 = true) := Lib.hid (by rw [inB_iff]; omega)
    clear h0
    go_enter Try.func31, Try.ntmps31
    go_wp2
    go_ret
    exact ⟨ret_bb (by rw [hI.out]), rfl⟩
  · have hb : (n == 0) = false := by simp [h0]
    have hI : Hid (inB n 0 1 = (n == 1)) := Lib.hid (by rw [Bool.eq_iff_iff, inB_iff]; simp; omega)
    clear h0
    go_enter Try.func31, Try.ntmps31
    go_wp2
    go_ret
    exact ⟨ret_bb (by rw [hI.out]), rfl⟩
end Go.Proofs.Yteknlifgejpjfaa
