/-
  Several texts in one: Pts, Num, Mid.
-/
import Derived.Test.YtalicpgnjpgloaaRows
import Derived.Test.YtalicpgnjpgloaaMg1
namespace Go.Proofs.Ytalicpgnjpgloaa
open Go Go.RowKit Reg

theorem ei_int : EI Try.prog 51 3 (.int .i64 0) [.int .i64 0] 8 := ei_mk Try.underlying51 (by kernel_rfl) rfl (by decide) (by decide)
theorem ei_pt : EI Try.prog 23 31 (.agg #[.int .i64 0, .int .i64 0]) [.int .i64 0, .int .i64 0] 16 := ei_mk Try.underlying23 (by kernel_rfl) rfl (by decide) (by decide)
set_option maxHeartbeats 400000 in
theorem c_in (n lo hi : Int) (w : World) : Calls Try.prog 39 #[.int .i64 n, .int .i64 lo, .int .i64 hi] w fun e w' => e = .returned (.bool (inB n lo hi)) ∧ w = w' := by
  go_enter Try.func39, Try.ntmps39
  go_wp2
  all_goals (go_ret; exact ⟨ret_b (by simp; omega), rfl⟩)
set_option maxHeartbeats 400000 in
theorem c_inRange (n lo hi : Int) (w : World) : Calls Try.prog 35 #[.int .i64 n, .int .i64 lo, .int .i64 hi] w fun e w' => e = .returned (.bool (inB n lo hi)) ∧ w = w' := by
  go_enter Try.func35, Try.ntmps35
  go_wp2
  all_goals (go_ret; exact ⟨ret_b (by simp; omega), rfl⟩)
set_option maxHeartbeats 400000 in
theorem c_isUnit (n : Int) (w : World) : Calls Try.prog 30 #[.int .i64 n] w fun e w' => e = .returned (.bool (inB n (-1000) 1000)) ∧ w = w' := by
  go_enter Try.func30, Try.ntmps30
  go_wp2_with (go_at_call 39; refine (c_in _ _ _ _).mono ?_; rintro e w' ⟨rfl, rfl⟩)
  go_ret; exact ⟨rfl, rfl⟩
set_option maxHeartbeats 400000 in
theorem c_ptvalid (p : Pt) (w : World) : Calls Try.prog 45 #[.agg #[.int .i64 p.1, .int .i64 p.2]] w fun e w' => e = .returned (.bool (vpB p)) ∧ Below w.heap.size w w' := by
  by_cases h : inB p.1 (-1000) 1000 = true
  all_goals
    go_enter Try.func45, Try.ntmps45
    go_wp2_with (go_at_call 30; refine (c_isUnit _ _).mono ?_; rintro e w' ⟨rfl, rfl⟩)
    go_ret; exact ⟨ret_bb (by simp [vpB, h]), (by repeat (first | exact Below.refl _ _ | assumption | refine Below.drew ?_ | refine Below.alloc ?_ (by first | exact Nat.le_refl _ | omega | (simp; done) | (simp; omega)) _ | refine Below.setCell ?_ (by first | exact Nat.le_refl _ | omega | (simp; done) | (simp; omega)) _))⟩
set_option maxHeartbeats 400000 in
theorem c_validPoint (p : Pt) (w : World) : Calls Try.prog 34 #[.agg #[.int .i64 p.1, .int .i64 p.2]] w fun e w' => e = .returned (.bool (vpB p)) ∧ Below w.heap.size w w' := by
  by_cases h : inB p.1 (-1000) 1000 = true
  all_goals
    go_enter Try.func34, Try.ntmps34
    go_wp2_with (go_at_call 35; refine (c_inRange _ _ _ _).mono ?_; rintro e w' ⟨rfl, rfl⟩)
    go_ret; exact ⟨ret_bb (by simp [vpB, h]), (by repeat (first | exact Below.refl _ _ | assumption | refine Below.drew ?_ | refine Below.alloc ?_ (by first | exact Nat.le_refl _ | omega | (simp; done) | (simp; omega)) _ | refine Below.setCell ?_ (by first | exact Nat.le_refl _ | omega | (simp; done) | (simp; omega)) _))⟩
set_option maxHeartbeats 400000 in
theorem c_sign (n : Int) (w : World) : Calls Try.prog 24 #[.int .i64 n] w fun e w' => e = .returned (.int .i64 (signL n)) ∧ w = w' := by
  go_enter Try.func24, Try.ntmps24
  go_wp2
  all_goals (go_ret; exact ⟨ret_i (by unfold signL; omega), rfl⟩)
set_option maxHeartbeats 400000 in
theorem c_crossOf (a b c : Pt) (w : World) (h1 : Crd a.1) (h2 : Crd a.2) (h3 : Crd b.1) (h4 : Crd b.2) (h5 : Crd c.1) (h6 : Crd c.2) :
    Calls Try.prog 25 #[.agg #[.int .i64 a.1, .int .i64 a.2], .agg #[.int .i64 b.1, .int .i64 b.2], .agg #[.int .i64 c.1, .int .i64 c.2]] w fun e w' => e = .returned (.int .i64 (crossL a b c)) ∧ Below w.heap.size w w' := by
  unfold Crd at *
  have p1 := mul_bd (a := b.1 - a.1) (b := c.2 - b.2) (A := 8000) (B := 8000) (by omega) (by omega) (by omega) (by omega)
  have p2 := mul_bd (a := b.2 - a.2) (b := c.1 - b.1) (A := 8000) (B := 8000) (by omega) (by omega) (by omega) (by omega)
  go_enter Try.func25, Try.ntmps25
  go_wp2
  go_ret; exact ⟨rfl, (by repeat (first | exact Below.refl _ _ | assumption | refine Below.drew ?_ | refine Below.alloc ?_ (by first | exact Nat.le_refl _ | omega | (simp; done) | (simp; omega)) _ | refine Below.setCell ?_ (by first | exact Nat.le_refl _ | omega | (simp; done) | (simp; omega)) _))⟩
set_option maxHeartbeats 400000 in
theorem c_validPoints (A : Option Addr) (cap : Nat) (ps : List Pt) (w : World) (h : Pts w A ps) (hl : ps.length ≤ 4611686018427387904) :
    Calls Try.prog 26 #[.slice A ps.length cap] w fun e w' => e = .returned (.bool (psB ps)) ∧ Below w.heap.size w w' := by
  go_enter Try.func26, Try.ntmps26
  go_wp2
  go_loopw [3] (fun i wr => ∃ k : Nat, k ≤ ps.length ∧ i = .int .i64 k ∧ (ps.take k).all vpB = true ∧ Below w.heap.size w wr) (fun i _ => ps.length - (intOf i).toNat)
  case atStart => exact ⟨0, Nat.zero_le _, rfl, by simp, Below.refl _ _⟩
  case round =>
    obtain ⟨k, hk, rfl, hal, hbw⟩ := hrel
    have hal' := Lib.hid hal
    clear hal
    by_cases hlt : k < ps.length
    · obtain ⟨b, off, rfl, _hb, hc⟩ := (h.ext ptR_stab hbw).pts (by omega)
      obtain ⟨cx, cy⟩ := hc k hlt
      clear h hc
      by_cases hv : vpB ps[k] = true
      · go_wp2_with (go_at_call 34; refine (c_validPoint ps[k] _).mono ?_; rw [hv]; rintro e w1 ⟨rfl, hb1⟩)
        go_roundw
        case rel => exact ⟨k+1, by omega, by go_num, all_take_succ hal'.out hlt hv, below_ext hbw hb1⟩
        case measure => simp [intOf]; omega
      · simp only [Bool.not_eq_true] at hv
        go_wp2_with (go_at_call 34; refine (c_validPoint ps[k] _).mono ?_; rw [hv]; rintro e w1 ⟨rfl, hb1⟩)
        go_ret
        exact ⟨ret_bb (by simp [psB, all_false_of hlt hv]), below_ext hbw hb1⟩
    · have hk' : k = ps.length := by omega
      have hall := Lib.hid (all_of_take hal'.out hk')
      clear h hk'
      go_wp2
      go_ret
      exact ⟨ret_bb (by simp [psB, hall.out]; omega), hbw⟩
set_option maxHeartbeats 400000 in
theorem c_pv1 (p : Pt) (w : World) : Calls Try.prog 44 #[.agg #[.int .i64 p.1, .int .i64 p.2]] w fun e w' => e = .returned (.bool (!vpB p)) ∧ Below w.heap.size w w' := by
  go_enter Try.func44, Try.ntmps44
  go_wp2_with (go_at_call 45; refine (c_ptvalid p _).mono ?_; rintro e w1 ⟨rfl, hb1⟩)
  go_ret
  refine ⟨rfl, ?_⟩
  exact Ext.trans (Below.alloc (Below.refl _ _) (Nat.le_refl _) _) hb1
set_option maxHeartbeats 400000 in
theorem c_pvIndex (A : Option Addr) (cap : Nat) (ps : List Pt) (w : World) (h : Pts w A ps) (hl : ps.length ≤ 4611686018427387904) :
    Calls Try.prog 51 #[.slice A ps.length cap, .func (.func 44) #[] #[]] w fun e w' => ∃ n : Int, e = .returned (.int .i64 n) ∧ (0 ≤ n ↔ ps.all vpB = false) ∧ Below w.heap.size w w' := by
  go_enter Try.func51, Try.ntmps51
  go_wp2
  go_loopw [5, 8] (fun _ i wr => ∃ k : Nat, k ≤ ps.length ∧ i = .int .i64 k ∧ (ps.take k).all vpB = true ∧ Below w.heap.size w wr) (fun _ i _ => ps.length - (intOf i).toNat)
  case atStart => exact ⟨0, Nat.zero_le _, rfl, by simp, Below.refl _ _⟩
  case round =>
    obtain ⟨k, hk, rfl, hal, hbw⟩ := hrel
    have hal' := Lib.hid hal
    clear hal
    by_cases hlt : k < ps.length
    · obtain ⟨b, off, rfl, _hb, hc⟩ := (h.ext ptR_stab hbw).pts (by omega)
      obtain ⟨cx, cy⟩ := hc k hlt
      clear h hc
      by_cases hv : vpB ps[k] = true
      · go_wp2_with (go_at_call 44; refine (c_pv1 ps[k] _).mono ?_; rw [hv]; rintro e w1 ⟨rfl, hb1⟩)
        go_roundw
        case rel => exact ⟨k+1, by omega, by go_num, all_take_succ hal'.out hlt hv, below_ext hbw hb1⟩
        case measure => simp [intOf]; omega
      · simp only [Bool.not_eq_true] at hv
        go_wp2_with (go_at_call 44; refine (c_pv1 ps[k] _).mono ?_; rw [hv]; rintro e w1 ⟨rfl, hb1⟩)
        go_ret
        exact ⟨k, rfl, by simp [all_false_of hlt hv], below_ext hbw hb1⟩
    · have hk' : k = ps.length := by omega
      have hall := Lib.hid (all_of_take hal'.out hk')
      clear h hk'
      go_wp2
      go_ret
      exact ⟨-1, rfl, by simp [hall.out], hbw⟩
set_option maxHeartbeats 400000 in
theorem c_pvContains (A : Option Addr) (cap : Nat) (ps : List Pt) (w : World) (h : Pts w A ps) (hl : ps.length ≤ 4611686018427387904) :
    Calls Try.prog 43 #[.slice A ps.length cap, .func (.func 44) #[] #[]] w fun e w' => e = .returned (.bool (!ps.all vpB)) ∧ Below w.heap.size w w' := by
  go_enter Try.func43, Try.ntmps43
  go_wp2_with (go_at_call 51; refine (c_pvIndex A cap ps _ h hl).mono ?_; rintro e w1 ⟨n, rfl, hn, hb1⟩)
  go_ret
  exact ⟨ret_bb (by rw [Bool.eq_iff_iff]; simpa using hn), hb1⟩
set_option maxHeartbeats 400000 in
theorem c_pointsValid (A : Option Addr) (cap : Nat) (ps : List Pt) (w : World) (h : Pts w A ps) (hl : ps.length ≤ 4611686018427387904) :
    Calls Try.prog 23 #[.slice A ps.length cap] w fun e w' => e = .returned (.bool (psB ps)) ∧ Below w.heap.size w w' := by
  by_cases h40 : ps.length ≤ 40
  · have h40' : ((ps.length : Nat) : Int) ≤ 40 := by omega
    go_enter Try.func23, Try.ntmps23
    go_wp2_with (go_at_call 43; refine (c_pvContains A cap ps _ h hl).mono ?_; rintro e w1 ⟨rfl, hb1⟩)
    go_ret
    exact ⟨ret_bb (by simp [psB, h40]), hb1⟩
  · have h40' : ¬ ((ps.length : Nat) : Int) ≤ 40 := by omega
    go_enter Try.func23, Try.ntmps23
    go_wp2
    go_ret
    exact ⟨ret_bb (by simp [psB, h40]), Below.refl _ _⟩
end Go.Proofs.Ytalicpgnjpgloaa
namespace Go.Proofs.Ytalicpgnjpgloaa
open Go Go.RowKit Reg

theorem tdiv_floor {a b : Int} (hb : 0 < b) : (Int.tmod a b < 0 → a / b = Int.tdiv a b - 1) ∧ (¬ Int.tmod a b < 0 → a / b = Int.tdiv a b) := by
  have h1 := Int.emod_nonneg a (show b ≠ 0 by omega)
  have h2 := Int.emod_lt_of_pos a hb
  have h3 : ((b.natAbs : Nat) : Int) = b := by omega
  have h4 : b.sign = 1 := Int.sign_eq_one_of_pos hb
  rw [Int.tdiv_eq_ediv, Int.tmod_eq_emod]
  by_cases h : 0 ≤ a ∨ b ∣ a
  · simp only [h, if_true]; constructor <;> intro hh <;> omega
  · simp only [h, if_false, h3, h4]; constructor <;> intro hh <;> omega
/-- Divided and rounded to the nearest. -/
def rndL (a b : Int) : Int := (2 * a + b) / (2 * b)
theorem tdiv_bd {a b : Int} (_hb : 0 < b) (h1 : -4611686018427387904 ≤ a) (h2 : a ≤ 4611686018427387904) : -4611686018427387904 ≤ Int.tdiv a b ∧ Int.tdiv a b ≤ 4611686018427387904 := by
  have h := Int.natAbs_tdiv_le_natAbs a b
  omega
set_option maxHeartbeats 1000000 in
theorem c_floor (a b : Int) (w : World) (hb : 0 < b) (hb2 : b ≤ 4611686018427387904) (h1 : -4611686018427387904 ≤ a) (h2 : a ≤ 4611686018427387904) :
    Calls Try.prog 57 #[.int .i64 a, .int .i64 b] w fun e w' => e = .returned (.int .i64 (a / b)) ∧ w = w' := by
  obtain ⟨k1, k2⟩ := tdiv_floor (a := a) hb
  obtain ⟨b1, b2⟩ := tdiv_bd hb h1 h2
  by_cases h0 : 0 ≤ a
  · have h3 : ¬ Int.tmod a b < 0 := by rw [Int.tmod_eq_emod_of_nonneg h0]; have := Int.emod_nonneg a (show b ≠ 0 by omega); omega
    have h4 : 0 ≤ a % b := Int.emod_nonneg a (by omega)
    clear k1 k2 b1 b2 h3
    go_enter Try.func57, Try.ntmps57
    go_wp2
    go_ret
    exact ⟨ret_i (by rfl), rfl⟩
  · by_cases hm : Int.tmod a b < 0
    · have K := Lib.hid (k1 hm)
      clear k1 k2
      go_enter Try.func57, Try.ntmps57
      go_wp2
      go_ret
      exact ⟨ret_i K.out.symm, rfl⟩
    · have K := Lib.hid (k2 hm)
      clear k1 k2
      go_enter Try.func57, Try.ntmps57
      go_wp2
      go_ret
      exact ⟨ret_i K.out.symm, rfl⟩
end Go.Proofs.Ytalicpgnjpgloaa
namespace Go.Proofs.Ytalicpgnjpgloaa
open Go Go.RowKit Reg
attribute [local go_sem] calmAt calmUpon
def CrdP (p : Pt) : Prop := Crd p.1 ∧ Crd p.2
/-- The point between. -/
def midL (a b : Pt) : Pt := ((a.1 + b.1) / 2, (a.2 + b.2) / 2)
theorem midL_crd {a b : Pt} (h1 : CrdP a) (h2 : CrdP b) : CrdP (midL a b) := by unfold CrdP Crd midL at *; dsimp only; omega
end Go.Proofs.Ytalicpgnjpgloaa
