/-
  Colors: the walks.
-/
import Derived.Test.YtjjnfjnoagfajaaBoxOf
import Derived.Test.YtjjnfjnoagfajaaMg2
namespace Go.Proofs.Ytjjnfjnoagfajaa
open Go Go.RowKit Reg
attribute [local go_sem] calmAt calmUpon
def coB (c : Bx4) : Bool := decide ((0 ≤ c.2.2.2 ∧ c.2.2.2 ≤ 255) ∧ (0 ≤ c.1 ∧ c.1 ≤ c.2.2.2) ∧ (0 ≤ c.2.1 ∧ c.2.1 ≤ c.2.2.2) ∧ (0 ≤ c.2.2.1 ∧ c.2.2.1 ≤ c.2.2.2))
theorem coB_bd {c : Bx4} (h : coB c = true) : (0 ≤ c.1 ∧ c.1 ≤ 255) ∧ (0 ≤ c.2.1 ∧ c.2.1 ≤ 255) ∧ (0 ≤ c.2.2.1 ∧ c.2.2.1 ≤ 255) ∧ (0 ≤ c.2.2.2 ∧ c.2.2.2 ≤ 255) := by
  simp only [coB, decide_eq_true_eq] at h; omega
set_option maxHeartbeats 1000000 in
theorem c_ValidColor (c : Bx4) (w : World) : Calls Try.prog 103 #[bx4V c] w fun e w' => e = .returned (.bool (coB c)) ∧ Below w.heap.size w w' := by
  obtain ⟨r, g, b, a⟩ := c
  go_enter Try.func103, Try.ntmps103
  go_wp2_with (go_at_call 47; (with_reducible refine (c_in _ _ _ _).mono ?_); rintro e w' ⟨rfl, rfl⟩)
  all_goals (go_ret; exact ⟨ret_bb (by rw [Bool.eq_iff_iff]; simp_all [coB, inB] <;> omega), (by repeat (first | exact Below.refl _ _ | assumption | refine Below.drew ?_ | refine Below.alloc ?_ (by first | exact Nat.le_refl _ | omega | (simp; done) | (simp; omega)) _ | refine Below.setCell ?_ (by first | exact Nat.le_refl _ | omega | (simp; done) | (simp; omega)) _))⟩)
set_option maxHeartbeats 1000000 in
theorem c_allIn (A : Option Addr) (cap : Nat) (ns : List Int) (lo hi : Int) (w : World) (h : Ints w A ns) (hl : ns.length ≤ 1000000000) :
    Calls Try.prog 112 #[.slice A ns.length cap, .int .i64 lo, .int .i64 hi] w fun e w' => e = .returned (.bool (ns.all fun n => inB n lo hi)) ∧ w = w' := by
  go_enter Try.func112, Try.ntmps112
  go_wp2
  go_loop [7] (fun i => ∃ k : Nat, k ≤ ns.length ∧ i = .int .i64 k ∧ (ns.take k).all (fun n => inB n lo hi) = true) (fun i => ns.length - (intOf i).toNat)
  case atStart => exact ⟨0, Nat.zero_le _, rfl, by simp⟩
  case round =>
    obtain ⟨k, hk, rfl, hal⟩ := hrel
    have hal' := Lib.hid hal
    clear hal
    by_cases hlt : k < ns.length
    · obtain ⟨b, off, rfl, _hb, hc⟩ := h.ints (by omega)
      have cx := hc k hlt
      clear h hc
      by_cases hv : inB ns[k] lo hi = true
      · have Hv := Lib.hid hv
        go_wp2_with (go_at_call 57; refine (c_inRange ns[k] lo hi _).mono ?_; rw [hv]; rintro e w1 ⟨rfl, rfl⟩)
        go_round
        case rel => exact ⟨k+1, by omega, by go_num, all_take_succ hal'.out hlt Hv.out⟩
        case measure => simp [intOf]; omega
      · simp only [Bool.not_eq_true] at hv
        have Hv := Lib.hid hv
        go_wp2_with (go_at_call 57; refine (c_inRange ns[k] lo hi _).mono ?_; rw [hv]; rintro e w1 ⟨rfl, rfl⟩)
        go_ret
        exact ⟨ret_bb (all_false_of hlt Hv.out).symm, rfl⟩
    · have hk' : k = ns.length := by omega
      have hall := Lib.hid (all_of_take hal'.out hk')
      clear h hk'
      go_wp2
      go_ret
      exact ⟨ret_bb hall.out.symm, rfl⟩
theorem ints_new' (w : World) (e : TypeId) (ns : List Int) {g : Nat} (hg : g = w.heap.size) {cs : Array Value} (hcs : cs = (ns.flatMap intC).toArray) : Ints (w.alloc (.cells cs e)) (some ⟨g, 0, none⟩) ns := by
  subst hg hcs
  exact Row.in_ (rest := []) (enc := intC) (fun _ => rfl) (by simpa using Row.new w e (ns.flatMap intC)) (fun _ _ => rfl)
set_option maxHeartbeats 1000000 in
theorem c_validColor (c : Bx4) (w : World) : Calls Try.prog 104 #[bx4V c] w fun e w' => e = .returned (.bool (coB c)) ∧ Below w.heap.size w w' := by
  obtain ⟨r, g, b, a⟩ := c
  obtain ⟨d, hd⟩ : ∃ d, coB (r, g, b, a) = d := ⟨_, rfl⟩
  rw [hd]
  have Hd := Lib.hid hd
  clear hd
  by_cases ha : inB a 0 255 = true
  · have Ha := Lib.hid ha
    go_enter Try.func104, Try.ntmps104
    go_wp2_with (first | (go_at_call 57; refine (c_inRange a 0 255 _).mono ?_; rw [ha]; rintro e w1 ⟨rfl, rfl⟩) | (go_at_call 112; refine (c_allIn _ 3 [r, g, b] 0 a _ (ints_new' _ _ _ (by simp) (by rfl)) (by simp)).mono ?_; rintro e w1 ⟨rfl, rfl⟩))
    go_ret
    exact ⟨ret_bb (by rw [← Hd.out, Bool.eq_iff_iff]; have := inB_iff.1 Ha.out; simp [coB, inB]; omega), (by repeat (first | exact Below.refl _ _ | assumption | refine Below.drew ?_ | refine Below.alloc ?_ (by first | exact Nat.le_refl _ | omega | (simp; done) | (simp; omega)) _ | refine Below.setCell ?_ (by first | exact Nat.le_refl _ | omega | (simp; done) | (simp; omega)) _))⟩
  · simp only [Bool.not_eq_true] at ha
    have Ha := Lib.hid ha
    go_enter Try.func104, Try.ntmps104
    go_wp2_with (go_at_call 57; refine (c_inRange a 0 255 _).mono ?_; rw [ha]; rintro e w1 ⟨rfl, rfl⟩)
    go_ret
    exact ⟨ret_bb (by rw [← Hd.out]; have := Ha.out; simp [inB] at this; symm; simp [coB]; omega), (by repeat (first | exact Below.refl _ _ | assumption | refine Below.drew ?_ | refine Below.alloc ?_ (by first | exact Nat.le_refl _ | omega | (simp; done) | (simp; omega)) _ | refine Below.setCell ?_ (by first | exact Nat.le_refl _ | omega | (simp; done) | (simp; omega)) _))⟩
end Go.Proofs.Ytjjnfjnoagfajaa
