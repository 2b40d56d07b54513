/-
  Roots: the walks of the program and of the reference.
-/
import Derived.Test.YtjiikjkaadfalaaStrokeL
namespace Go.Proofs.Ytjiikjkaadfalaa
open Go Go.RowKit Reg
attribute [local go_sem] calmAt calmUpon
set_option maxHeartbeats 1000000 in
theorem c_root (n : Nat) (w : World) (h : n ≤ 1000000000) : Calls Try.prog 74 #[.int .i64 n] w fun e w' => e = .returned (.int .i64 (rootL n : Nat)) ∧ w = w' := by
  go_enter Try.func74, Try.ntmps74
  go_wp2
  go_loop [3, 4] (fun a b => ∃ r j p : Nat, a = .int .i64 r ∧ b = .int .i64 p ∧ r * r ≤ n ∧ ((j ≤ 15 ∧ p = 2 ^ j ∧ n < (r + 2 * p) * (r + 2 * p)) ∨ (p = 0 ∧ n < (r + 1) * (r + 1)))) (fun _ b => (intOf b).toNat)
  case atStart => exact ⟨0, 15, 32768, rfl, rfl, Nat.zero_le _, .inl ⟨Nat.le_refl _, rfl, by omega⟩⟩
  case round =>
    obtain ⟨r, j, p, rfl, rfl, h1, h2⟩ := hrel
    rcases h2 with ⟨hj, hp, h2⟩ | ⟨hp, h2⟩
    · have hp0 : 0 < p := by rw [hp]; exact Nat.pow_pos (by decide)
      have hp1 : p ≤ 32768 := by rw [hp]; exact Nat.pow_le_pow_right (by decide) hj
      have hr : r < 32768 := by
        rcases Nat.lt_or_ge r 32768 with h0 | h0
        · exact h0
        · have := Nat.mul_le_mul h0 h0; omega
      have hpI : (0 : Int) < (p : Int) := by omega
      have hdec : decide ((0 : Int) < (p : Int)) = true := by simp; omega
      have hq : Int.tdiv (p : Int) 2 = ((p / 2 : Nat) : Int) := by rw [Int.tdiv_eq_ediv_of_nonneg (by omega)]; omega
      have hnext : ∀ s, s * s ≤ n → n < (s + p) * (s + p) → ∃ j', ((j' ≤ 15 ∧ p / 2 = 2 ^ j' ∧ n < (s + 2 * (p / 2)) * (s + 2 * (p / 2))) ∨ (p / 2 = 0 ∧ n < (s + 1) * (s + 1))) := by
        intro s hs1 hs2
        cases j with
        | zero =>
          have : p = 1 := by rw [hp]
          subst this
          exact ⟨0, .inr ⟨rfl, hs2⟩⟩
        | succ j =>
          have e : p = 2 * 2 ^ j := by rw [hp, Nat.pow_succ]; omega
          have e2 : p / 2 = 2 ^ j := by omega
          refine ⟨j, .inl ⟨by omega, e2, ?_⟩⟩
          have : 2 * (p / 2) = p := by omega
          rw [this]; exact hs2
      have hm := Nat.mul_le_mul (show r + p ≤ 65536 by omega) (show r + p ≤ 65536 by omega)
      have hcast : ((r : Int) + (p : Int)) * ((r : Int) + (p : Int)) = (((r + p) * (r + p) : Nat) : Int) := by simp
      have Hn := Lib.hid hnext
      have Hp := Lib.hid hp
      have H2 := Lib.hid h2
      clear hnext hp h2
      by_cases hle : (r + p) * (r + p) ≤ n
      · have hleI : (((r + p) * (r + p) : Nat) : Int) ≤ (n : Int) := by omega
        have g1 : IntKind.i64.wrap ((((r + p) * (r + p) : Nat) : Int)) = (((r + p) * (r + p) : Nat) : Int) := IntWalk.i64_in _ (by omega)
        obtain ⟨m, hm2⟩ : ∃ m, (r + p) * (r + p) = m := ⟨_, rfl⟩
        rw [hm2] at hcast hleI hle hm g1
        have Hm2 := Lib.hid hm2
        clear hm2
        go_wp2
        go_round
        case rel =>
          obtain ⟨j', hj'⟩ := Hn.out (r + p) (by rw [Hm2.out]; exact hle) (by have := H2.out; have e : r + p + p = r + 2 * p := by omega
                                                                              rw [e]; exact this)
          exact ⟨r + p, j', p / 2, by simp, by go_num, by rw [Hm2.out]; exact hle, hj'⟩
        case measure => simp [intOf]; omega
      · have hleI : ¬ (((r + p) * (r + p) : Nat) : Int) ≤ (n : Int) := by omega
        have g1 : IntKind.i64.wrap ((((r + p) * (r + p) : Nat) : Int)) = (((r + p) * (r + p) : Nat) : Int) := IntWalk.i64_in _ (by omega)
        obtain ⟨m, hm2⟩ : ∃ m, (r + p) * (r + p) = m := ⟨_, rfl⟩
        rw [hm2] at hcast hleI hle hm g1
        have Hm2 := Lib.hid hm2
        clear hm2
        go_wp2
        go_round
        case rel =>
          obtain ⟨j', hj'⟩ := Hn.out r h1 (by rw [Hm2.out]; omega)
          exact ⟨r, j', p / 2, rfl, by go_num, h1, hj'⟩
        case measure => simp [intOf]; omega
    · subst hp
      have e := rootL_uniq h1 h2
      clear h1 h2
      go_wp2
      go_ret
      exact ⟨rfl, rfl⟩
set_option maxHeartbeats 1000000 in
theorem c_rootOf (n : Nat) (w : World) (h : n ≤ 1000000000) : Calls Try.prog 82 #[.int .i64 n] w fun e w' => e = .returned (.int .i64 (rootL n : Nat)) ∧ w = w' := by
  go_enter Try.func82, Try.ntmps82
  go_wp2
  go_loop [3] (fun a => ∃ r : Nat, a = .int .i64 r ∧ r * r ≤ n) (fun a => 40000 - (intOf a).toNat)
  case atStart => exact ⟨0, rfl, Nat.zero_le _⟩
  case round =>
    obtain ⟨r, rfl, h1⟩ := hrel
    have hr : r < 32768 := by
      rcases Nat.lt_or_ge r 32768 with h0 | h0
      · exact h0
      · have := Nat.mul_le_mul h0 h0; omega
    have hm := Nat.mul_le_mul (show r + 1 ≤ 65536 by omega) (show r + 1 ≤ 65536 by omega)
    have hcast : ((r : Int) + 1) * ((r : Int) + 1) = (((r + 1) * (r + 1) : Nat) : Int) := by simp
    by_cases hle : (r + 1) * (r + 1) ≤ n
    · have hleI : (((r + 1) * (r + 1) : Nat) : Int) ≤ (n : Int) := by omega
      have g1 : IntKind.i64.wrap ((((r + 1) * (r + 1) : Nat) : Int)) = (((r + 1) * (r + 1) : Nat) : Int) := IntWalk.i64_in _ (by omega)
      obtain ⟨m, hm2⟩ : ∃ m, (r + 1) * (r + 1) = m := ⟨_, rfl⟩
      rw [hm2] at hcast hleI hle hm g1
      have Hm2 := Lib.hid hm2
      clear hm2
      go_wp2
      go_round
      case rel => exact ⟨r + 1, by simp, by rw [Hm2.out]; exact hle⟩
      case measure => simp [intOf]; omega
    · have hleI : ¬ (((r + 1) * (r + 1) : Nat) : Int) ≤ (n : Int) := by omega
      have g1 : IntKind.i64.wrap ((((r + 1) * (r + 1) : Nat) : Int)) = (((r + 1) * (r + 1) : Nat) : Int) := IntWalk.i64_in _ (by omega)
      have e := Lib.hid (rootL_uniq h1 (by omega))
      obtain ⟨m, hm2⟩ : ∃ m, (r + 1) * (r + 1) = m := ⟨_, rfl⟩
      rw [hm2] at hcast hleI hle hm g1
      clear hm2 h1
      go_wp2
      go_ret
      exact ⟨ret_i (by rw [e.out]), rfl⟩
end Go.Proofs.Ytjiikjkaadfalaa
