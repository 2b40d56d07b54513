/-
  Colors: the walks.
-/
import Derived.Test.YtnmnomhoghkdjaaBoxOf
import Derived.Test.YtnmnomhoghkdjaaNum
namespace Go.Proofs.Ytnmnomhoghkdjaa
open Go Go.RowKit Reg
attribute [local go_sem] calmAt calmUpon
def coB (c : Bx4) : Bool := decide ((0 ≤ c.2.2.2 ∧ c.2.2.2 ≤ 255) ∧ (0 ≤ c.1 ∧ c.1 ≤ c.2.2.2) ∧ (0 ≤ c.2.1 ∧ c.2.1 ≤ c.2.2.2) ∧ (0 ≤ c.2.2.1 ∧ c.2.2.1 ≤ c.2.2.2))
theorem coB_bd {c : Bx4} (h : coB c = true) : (0 ≤ c.1 ∧ c.1 ≤ 255) ∧ (0 ≤ c.2.1 ∧ c.2.1 ≤ 255) ∧ (0 ≤ c.2.2.1 ∧ c.2.2.1 ≤ 255) ∧ (0 ≤ c.2.2.2 ∧ c.2.2.2 ≤ 255) := by
  simp only [coB, decide_eq_true_eq] at h; omega
set_option maxHeartbeats 1000000 in
theorem c_allIn (A : Option Addr) (cap : Nat) (ns : List Int) (lo hi : Int) (w : World) (h : Ints w A ns) (hl : ns.length ≤ 1000000000) :
    Calls Try.prog 54 #[.slice A ns.length cap, .int .i64 lo, .int .i64 hi] w fun e w' => e = .returned (.bool (ns.all fun n => inB n lo hi)) ∧ w = w' := by
  go_enter Try.func54, Try.ntmps54
  go_wp2
  go_loop [7] (fun i => ∃ k : Nat, k ≤ ns.length ∧ i = .int .i64 k ∧ (ns.take k).all (fun n => inB n lo hi) = true) (fun i => ns.length - (intOf i).toNat)
  case atStart => exact ⟨0, Nat.zero_le _, rfl, by simp⟩
  case round =>
    obtain ⟨k, hk, rfl, hal⟩ := hrel
    have hal' := Lib.hid hal
    clear hal
    by_cases hlt : k < ns.length
    · obtain ⟨b, off, rfl, _hb, hc⟩ := h.ints (by omega)
      have cx := hc k hlt
      clear h hc
      by_cases hv : inB ns[k] lo hi = true
      · have Hv := Lib.hid hv
        go_wp2_with (go_at_call 33; refine (c_inRange ns[k] lo hi _).mono ?_; rw [hv]; rintro e w1 ⟨rfl, rfl⟩)
        go_round
        case rel => exact ⟨k+1, by omega, by go_num, all_take_succ hal'.out hlt Hv.out⟩
        case measure => simp [intOf]; omega
      · simp only [Bool.not_eq_true] at hv
        have Hv := Lib.hid hv
        go_wp2_with (go_at_call 33; refine (c_inRange ns[k] lo hi _).mono ?_; rw [hv]; rintro e w1 ⟨rfl, rfl⟩)
        go_ret
        exact ⟨ret_bb (all_false_of hlt Hv.out).symm, rfl⟩
    · have hk' : k = ns.length := by omega
      have hall := Lib.hid (all_of_take hal'.out hk')
      clear h hk'
      go_wp2
      go_ret
      exact ⟨ret_bb hall.out.symm, rfl⟩
end Go.Proofs.Ytnmnomhoghkdjaa
