/-
  Several texts in one: Pts, Num, Mid.
-/
import Derived.Test.YtagmnbphbakikaaGreatRows
import Derived.Test.YtagmnbphbakikaaGreatMg1
namespace Go.Proofs.YtagmnbphbakikaaGreat
open Go Go.RowKit Reg

theorem ei_int : EI Tryz.prog 75 3 (.int .i64 0) [.int .i64 0] 8 := ei_mk Tryz.underlying75 (by kernel_rfl) rfl (by decide) (by decide)
theorem ei_pt : EI Tryz.prog 126 45 (.agg #[.int .i64 0, .int .i64 0]) [.int .i64 0, .int .i64 0] 16 := ei_mk Tryz.underlying126 (by kernel_rfl) rfl (by decide) (by decide)
set_option maxHeartbeats 400000 in
theorem c_in (n lo hi : Int) (w : World) : Calls Tryz.prog 77 #[.int .i64 n, .int .i64 lo, .int .i64 hi] w fun e w' => e = .returned (.bool (inB n lo hi)) ∧ w = w' := by
  go_enter Tryz.func77, Tryz.ntmps77
  go_wp2
  all_goals (go_ret; exact ⟨ret_b (by simp; omega), rfl⟩)
set_option maxHeartbeats 400000 in
theorem c_inRange (n lo hi : Int) (w : World) : Calls Tryz.prog 28 #[.int .i64 n, .int .i64 lo, .int .i64 hi] w fun e w' => e = .returned (.bool (inB n lo hi)) ∧ w = w' := by
  go_enter Tryz.func28, Tryz.ntmps28
  go_wp2
  all_goals (go_ret; exact ⟨ret_b (by simp; omega), rfl⟩)
set_option maxHeartbeats 400000 in
theorem c_isUnit (n : Int) (w : World) : Calls Tryz.prog 182 #[.int .i64 n] w fun e w' => e = .returned (.bool (inB n (-1000) 1000)) ∧ w = w' := by
  go_enter Tryz.func182, Tryz.ntmps182
  go_wp2_with (go_at_call 77; refine (c_in _ _ _ _).mono ?_; rintro e w' ⟨rfl, rfl⟩)
  go_ret; exact ⟨rfl, rfl⟩
set_option maxHeartbeats 400000 in
theorem c_ptvalid (p : Pt) (w : World) : Calls Tryz.prog 154 #[.agg #[.int .i64 p.1, .int .i64 p.2]] w fun e w' => e = .returned (.bool (vpB p)) ∧ Below w.heap.size w w' := by
  by_cases h : inB p.1 (-1000) 1000 = true
  all_goals
    go_enter Tryz.func154, Tryz.ntmps154
    go_wp2_with (go_at_call 182; refine (c_isUnit _ _).mono ?_; rintro e w' ⟨rfl, rfl⟩)
    go_ret; exact ⟨ret_bb (by simp [vpB, h]), (by repeat (first | exact Below.refl _ _ | assumption | refine Below.drew ?_ | refine Below.alloc ?_ (by first | exact Nat.le_refl _ | omega | (simp; done) | (simp; omega)) _ | refine Below.setCell ?_ (by first | exact Nat.le_refl _ | omega | (simp; done) | (simp; omega)) _))⟩
set_option maxHeartbeats 400000 in
theorem c_validPoint (p : Pt) (w : World) : Calls Tryz.prog 103 #[.agg #[.int .i64 p.1, .int .i64 p.2]] w fun e w' => e = .returned (.bool (vpB p)) ∧ Below w.heap.size w w' := by
  by_cases h : inB p.1 (-1000) 1000 = true
  all_goals
    go_enter Tryz.func103, Tryz.ntmps103
    go_wp2_with (go_at_call 28; refine (c_inRange _ _ _ _).mono ?_; rintro e w' ⟨rfl, rfl⟩)
    go_ret; exact ⟨ret_bb (by simp [vpB, h]), (by repeat (first | exact Below.refl _ _ | assumption | refine Below.drew ?_ | refine Below.alloc ?_ (by first | exact Nat.le_refl _ | omega | (simp; done) | (simp; omega)) _ | refine Below.setCell ?_ (by first | exact Nat.le_refl _ | omega | (simp; done) | (simp; omega)) _))⟩
set_option maxHeartbeats 400000 in
theorem c_eqPoint (p q : Pt) (w : World) : Calls Tryz.prog 86 #[.agg #[.int .i64 p.1, .int .i64 p.2], .agg #[.int .i64 q.1, .int .i64 q.2]] w fun e w' => e = .returned (.bool (decide (p = q))) ∧ Below w.heap.size w w' := by
  obtain ⟨p1, p2⟩ := p
  obtain ⟨q1, q2⟩ := q
  go_enter Tryz.func86, Tryz.ntmps86
  go_wp2
  all_goals (go_ret; exact ⟨ret_b (by simp_all), (by repeat (first | exact Below.refl _ _ | assumption | refine Below.drew ?_ | refine Below.alloc ?_ (by first | exact Nat.le_refl _ | omega | (simp; done) | (simp; omega)) _ | refine Below.setCell ?_ (by first | exact Nat.le_refl _ | omega | (simp; done) | (simp; omega)) _))⟩)
set_option maxHeartbeats 400000 in
theorem c_validPoints (A : Option Addr) (cap : Nat) (ps : List Pt) (w : World) (h : Pts w A ps) (hl : ps.length ≤ 4611686018427387904) :
    Calls Tryz.prog 100 #[.slice A ps.length cap] w fun e w' => e = .returned (.bool (psB ps)) ∧ Below w.heap.size w w' := by
  go_enter Tryz.func100, Tryz.ntmps100
  go_wp2
  go_loopw [3] (fun i wr => ∃ k : Nat, k ≤ ps.length ∧ i = .int .i64 k ∧ (ps.take k).all vpB = true ∧ Below w.heap.size w wr) (fun i _ => ps.length - (intOf i).toNat)
  case atStart => exact ⟨0, Nat.zero_le _, rfl, by simp, Below.refl _ _⟩
  case round =>
    obtain ⟨k, hk, rfl, hal, hbw⟩ := hrel
    have hal' := Lib.hid hal
    clear hal
    by_cases hlt : k < ps.length
    · obtain ⟨b, off, rfl, _hb, hc⟩ := (h.ext ptR_stab hbw).pts (by omega)
      obtain ⟨cx, cy⟩ := hc k hlt
      clear h hc
      by_cases hv : vpB ps[k] = true
      · go_wp2_with (go_at_call 103; refine (c_validPoint ps[k] _).mono ?_; rw [hv]; rintro e w1 ⟨rfl, hb1⟩)
        go_roundw
        case rel => exact ⟨k+1, by omega, by go_num, all_take_succ hal'.out hlt hv, below_ext hbw hb1⟩
        case measure => simp [intOf]; omega
      · simp only [Bool.not_eq_true] at hv
        go_wp2_with (go_at_call 103; refine (c_validPoint ps[k] _).mono ?_; rw [hv]; rintro e w1 ⟨rfl, hb1⟩)
        go_ret
        exact ⟨ret_bb (by simp [psB, all_false_of hlt hv]), below_ext hbw hb1⟩
    · have hk' : k = ps.length := by omega
      have hall := Lib.hid (all_of_take hal'.out hk')
      clear h hk'
      go_wp2
      go_ret
      exact ⟨ret_bb (by simp [psB, hall.out]; omega), hbw⟩
set_option maxHeartbeats 400000 in
theorem c_pv1 (p : Pt) (w : World) : Calls Tryz.prog 177 #[.agg #[.int .i64 p.1, .int .i64 p.2]] w fun e w' => e = .returned (.bool (!vpB p)) ∧ Below w.heap.size w w' := by
  go_enter Tryz.func177, Tryz.ntmps177
  go_wp2_with (go_at_call 154; refine (c_ptvalid p _).mono ?_; rintro e w1 ⟨rfl, hb1⟩)
  go_ret
  refine ⟨rfl, ?_⟩
  exact Ext.trans (Below.alloc (Below.refl _ _) (Nat.le_refl _) _) hb1
set_option maxHeartbeats 400000 in
theorem c_pvIndex (A : Option Addr) (cap : Nat) (ps : List Pt) (w : World) (h : Pts w A ps) (hl : ps.length ≤ 4611686018427387904) :
    Calls Tryz.prog 190 #[.slice A ps.length cap, .func (.func 177) #[] #[]] w fun e w' => ∃ n : Int, e = .returned (.int .i64 n) ∧ (0 ≤ n ↔ ps.all vpB = false) ∧ Below w.heap.size w w' := by
  go_enter Tryz.func190, Tryz.ntmps190
  go_wp2
  go_loopw [5, 8] (fun _ i wr => ∃ k : Nat, k ≤ ps.length ∧ i = .int .i64 k ∧ (ps.take k).all vpB = true ∧ Below w.heap.size w wr) (fun _ i _ => ps.length - (intOf i).toNat)
  case atStart => exact ⟨0, Nat.zero_le _, rfl, by simp, Below.refl _ _⟩
  case round =>
    obtain ⟨k, hk, rfl, hal, hbw⟩ := hrel
    have hal' := Lib.hid hal
    clear hal
    by_cases hlt : k < ps.length
    · obtain ⟨b, off, rfl, _hb, hc⟩ := (h.ext ptR_stab hbw).pts (by omega)
      obtain ⟨cx, cy⟩ := hc k hlt
      clear h hc
      by_cases hv : vpB ps[k] = true
      · go_wp2_with (go_at_call 177; refine (c_pv1 ps[k] _).mono ?_; rw [hv]; rintro e w1 ⟨rfl, hb1⟩)
        go_roundw
        case rel => exact ⟨k+1, by omega, by go_num, all_take_succ hal'.out hlt hv, below_ext hbw hb1⟩
        case measure => simp [intOf]; omega
      · simp only [Bool.not_eq_true] at hv
        go_wp2_with (go_at_call 177; refine (c_pv1 ps[k] _).mono ?_; rw [hv]; rintro e w1 ⟨rfl, hb1⟩)
        go_ret
        exact ⟨k, rfl, by simp [all_false_of hlt hv], below_ext hbw hb1⟩
    · have hk' : k = ps.length := by omega
      have hall := Lib.hid (all_of_take hal'.out hk')
      clear h hk'
      go_wp2
      go_ret
      exact ⟨-1, rfl, by simp [hall.out], hbw⟩
set_option maxHeartbeats 400000 in
theorem c_pvContains (A : Option Addr) (cap : Nat) (ps : List Pt) (w : World) (h : Pts w A ps) (hl : ps.length ≤ 4611686018427387904) :
    Calls Tryz.prog 176 #[.slice A ps.length cap, .func (.func 177) #[] #[]] w fun e w' => e = .returned (.bool (!ps.all vpB)) ∧ Below w.heap.size w w' := by
  go_enter Tryz.func176, Tryz.ntmps176
  go_wp2_with (go_at_call 190; refine (c_pvIndex A cap ps _ h hl).mono ?_; rintro e w1 ⟨n, rfl, hn, hb1⟩)
  go_ret
  exact ⟨ret_bb (by rw [Bool.eq_iff_iff]; simpa using hn), hb1⟩
set_option maxHeartbeats 400000 in
theorem c_pointsValid (A : Option Addr) (cap : Nat) (ps : List Pt) (w : World) (h : Pts w A ps) (hl : ps.length ≤ 4611686018427387904) :
    Calls Tryz.prog 149 #[.slice A ps.length cap] w fun e w' => e = .returned (.bool (psB ps)) ∧ Below w.heap.size w w' := by
  by_cases h40 : ps.length ≤ 40
  · have h40' : ((ps.length : Nat) : Int) ≤ 40 := by omega
    go_enter Tryz.func149, Tryz.ntmps149
    go_wp2_with (go_at_call 176; refine (c_pvContains A cap ps _ h hl).mono ?_; rintro e w1 ⟨rfl, hb1⟩)
    go_ret
    exact ⟨ret_bb (by simp [psB, h40]), hb1⟩
  · have h40' : ¬ ((ps.length : Nat) : Int) ≤ 40 := by omega
    go_enter Tryz.func149, Tryz.ntmps149
    go_wp2
    go_ret
    exact ⟨ret_bb (by simp [psB, h40]), Below.refl _ _⟩
attribute [local go_sem] calmAt calmUpon
set_option maxHeartbeats 400000 in
theorem c_eqPointS (A A' : Option Addr) (cap cap' : Nat) (ps qs : List Pt) (w : World) (h : Pts w A ps) (h' : Pts w A' qs) (hl : ps.length ≤ 4611686018427387904) (hl' : qs.length ≤ 4611686018427387904) :
    Calls Tryz.prog 130 #[.slice A ps.length cap, .slice A' qs.length cap'] w fun e w' => e = .returned (.bool (decide (ps = qs))) ∧ Below w.heap.size w w' := by
  by_cases hlen : ps.length = qs.length
  · go_enter Tryz.func130, Tryz.ntmps130
    have hne : (((ps.length : Nat) : Int) != ((qs.length : Nat) : Int)) = false := by simp [hlen]
    have Hlen := Lib.hid hlen
    clear hlen
    go_wp2
    go_loopw [5] (fun i wr => ∃ k : Nat, k ≤ ps.length ∧ i = .int .i64 k ∧ ps.take k = qs.take k ∧ Below w.heap.size w wr) (fun i _ => ps.length - (intOf i).toNat)
    case atStart => exact ⟨0, Nat.zero_le _, rfl, by simp, Below.refl _ _⟩
    case round =>
      obtain ⟨k, hk, rfl, hal, hbw⟩ := hrel
      have hal' := Lib.hid hal
      clear hal
      by_cases hlt : k < ps.length
      · have hlt' : k < qs.length := by have := Hlen.out; omega
        obtain ⟨b, off, rfl, _hb, hc⟩ := (h.ext ptR_stab hbw).pts (by omega)
        obtain ⟨b', off', rfl, _hb', hc'⟩ := (h'.ext ptR_stab hbw).pts (by omega)
        obtain ⟨cx, cy⟩ := hc k hlt
        obtain ⟨cx', cy'⟩ := hc' k hlt'
        have hk1 : ps[k] = qs[k] → ps.take (k + 1) = qs.take (k + 1) := take_eq_succ hal'.out hlt hlt'
        have hk2 : ps[k] ≠ qs[k] → ps ≠ qs := ne_of_at hlt hlt'
        have Hk1 := Lib.hid hk1
        have Hk2 := Lib.hid hk2
        clear h hc h' hc' hk1 hk2
        generalize ps[k] = p at *
        generalize qs[k] = q at *
        go_wp2_with fail
        refine wp_region_calm [0,1,2,3,4,5,6,7,8,9] [] (by kernel_rfl) (by kernel_rfl) ?_
        iterate 8 ((refine calm_yes rfl rfl (fun w' hC => (by have cx := hC.cell cx; have cy := hC.cell cy;  have cx' := hC.cell cx'; have cy' := hC.cell cy'; go_simp; rfl)) (fun K hK => ?_); go_simp; refine hK _ ?_; clear hK K))
        (apply calm_call rfl rfl rfl Tryz.func86 (by kernel_rfl) rfl (by go_simp; rfl); exact (fun w' hC => c_eqPoint p q w'); intro K hK; go_simp; refine hK _ ?_; clear hK K)
        (refine calm_yes rfl rfl (fun w' hC => (by go_simp; rfl)) (fun K hK => ?_); go_simp; refine hK _ ?_; clear hK K)
        refine calm_done (fun w1 hb1 => ?_)
        obtain ⟨d, hd⟩ : ∃ d, d = decide (p = q) := ⟨_, rfl⟩
        rw [← hd]
        have Hd := Lib.hid hd
        clear hd
        cases d
        · have hpq : ps ≠ qs := Hk2.out (by have := Hd.out; simpa using this.symm)
          go_wp2
          go_ret
          exact ⟨ret_b (by simp [hpq]), below_ext hbw hb1⟩
        · go_wp2
          go_roundw
          case rel => exact ⟨k + 1, by omega, by go_num, Hk1.out (by have := Hd.out; simpa using this.symm), below_ext hbw hb1⟩
          case measure => simp [intOf]; omega
      · have hk' : ps = qs := eq_of_take hal'.out (by omega) (by have := Hlen.out; omega)
        have Hk' := Lib.hid hk'
        clear h h' hk'
        go_wp2
        go_ret
        exact ⟨ret_b (by simp [Hk'.out]), hbw⟩
  · have hne : (((ps.length : Nat) : Int) != ((qs.length : Nat) : Int)) = true := by simp; omega
    have hpq : ps ≠ qs := fun h => hlen (by rw [h])
    go_enter Tryz.func130, Tryz.ntmps130
    go_wp2
    go_ret
    exact ⟨ret_b (by simp [hpq]), Below.refl _ _⟩
set_option maxHeartbeats 400000 in
theorem c_szPointS (A : Option Addr) (n cap : Nat) (left : Int) (w : World) (h0 : 0 ≤ left) (h1 : left ≤ 4611686018427387904) (hn : n ≤ 9223372036854775807) :
    Calls Tryz.prog 99 #[.slice A n cap, .int .i64 left] w fun e w' => e = .returned (.int .i64 (if left - n < 0 then -1 else left - n)) ∧ w = w' := by
  by_cases h : left - n < 0
  all_goals
    go_enter Tryz.func99, Tryz.ntmps99
    go_wp2
    go_ret
    exact ⟨ret_i (by simp), rfl⟩
set_option maxHeartbeats 400000 in
theorem c_toPoint (p : Pt) (w : World) : Calls Tryz.prog 75 #[.agg #[.int .i64 p.1, .int .i64 p.2]] w fun e w' => e = .returned (.agg #[.int .i64 p.1, .int .i64 p.2]) ∧ Below w.heap.size w w' := by
  go_enter Tryz.func75, Tryz.ntmps75
  go_wp2
  exact bodyPost_ret (v := .agg #[.int .i64 p.1, .int .i64 p.2]) (by simp [results, Tryz.results75, go_sem]) rfl ⟨rfl, (by repeat (first | exact Below.refl _ _ | assumption | refine Below.drew ?_ | refine Below.alloc ?_ (by first | exact Nat.le_refl _ | omega | (simp; done) | (simp; omega)) _ | refine Below.setCell ?_ (by first | exact Nat.le_refl _ | omega | (simp; done) | (simp; omega)) _))⟩
set_option maxHeartbeats 400000 in
theorem c_toPointS (A : Option Addr) (cap : Nat) (ps : List Pt) (w : World) (h : Pts w A ps) (hl : ps.length ≤ 1048576) :
    Calls Tryz.prog 113 #[.slice A ps.length cap] w fun e w' => ∃ b, e = .returned (.slice (some ⟨b, 0, none⟩) ps.length ps.length) ∧ w.heap.size ≤ b ∧ Row w' b 45 (ps.flatMap ptC) ∧ Below w.heap.size w w' := by
  have hmk := fun W => run_make_fill ei_pt ptC ps (by omega) W
  go_enter Tryz.func113, Tryz.ntmps113
  go_wp2
  go_loopw [4] (fun i wr => ∃ k : Nat, k ≤ ps.length ∧ i = .int .i64 k ∧ Row wr w.heap.size 45 (fillC ptC [.int .i64 0, .int .i64 0] ps k) ∧ Below w.heap.size w wr) (fun i _ => ps.length - (intOf i).toNat)
  case atStart => exact ⟨0, Nat.zero_le _, rfl, Row.new _ _ _, (by repeat (first | exact Below.refl _ _ | assumption | refine Below.drew ?_ | refine Below.alloc ?_ (by first | exact Nat.le_refl _ | omega | (simp; done) | (simp; omega)) _ | refine Below.setCell ?_ (by first | exact Nat.le_refl _ | omega | (simp; done) | (simp; omega)) _))⟩
  case round =>
    obtain ⟨k, hk, rfl, hr, hbw⟩ := hrel
    clear hmk
    by_cases hlt : k < ps.length
    · obtain ⟨b, off, rfl, _hb, hc⟩ := (h.ext ptR_stab hbw).pts (by omega)
      obtain ⟨cx, cy⟩ := hc k hlt
      clear h hc
      go_wp2_with (go_at_call 75; refine (c_toPoint ps[k] _).mono ?_; rintro e w1 ⟨rfl, hb1⟩; have hr1 := hr.ext hb1; have e1 : w1.cell? ⟨w.heap.size, k * 2, none⟩ = some (.int .i64 0) := hr1.cell_of (fillC_get (j := 0) ptC_len rfl hlt (by decide)); have e2 : w1.cell? ⟨w.heap.size, k * 2 + 1, none⟩ = some (.int .i64 0) := hr1.cell_of (fillC_get (j := 1) ptC_len rfl hlt (by decide)); have e3 := hr1.frozen (k * 2); have e4 := hr1.frozen (k * 2 + 1); clear hr1)
      go_roundw
      case rel => exact ⟨k + 1, by omega, by go_num, by
        rw [← fillC_set ptC_len rfl hlt]
        exact ((hr.ext hb1).set_ _ _).set_ _ _, below_ext hbw hb1 |>.setCell (Nat.le_refl _) _ |>.setCell (Nat.le_refl _) _⟩
      case measure => simp [intOf]; omega
    · obtain rfl : k = ps.length := by omega
      clear h
      go_wp2
      go_ret
      exact ⟨_, rfl, Nat.le_refl _, by rw [← fillC_all (z := [.int .i64 0, .int .i64 0])]; exact hr, hbw⟩
set_option maxHeartbeats 400000 in
theorem c_toInt (b : Bool) (w : World) : Calls Tryz.prog 141 #[.bool b] w fun e w' => e = .returned (.int .i64 (if b then 1 else 0)) ∧ w = w' := by
  cases b
  all_goals
    go_enter Tryz.func141, Tryz.ntmps141
    go_wp2
    go_ret; exact ⟨rfl, rfl⟩
end Go.Proofs.YtagmnbphbakikaaGreat
namespace Go.Proofs.YtagmnbphbakikaaGreat
open Go Go.RowKit Reg

theorem tdiv_floor {a b : Int} (hb : 0 < b) : (Int.tmod a b < 0 → a / b = Int.tdiv a b - 1) ∧ (¬ Int.tmod a b < 0 → a / b = Int.tdiv a b) := by
  have h1 := Int.emod_nonneg a (show b ≠ 0 by omega)
  have h2 := Int.emod_lt_of_pos a hb
  have h3 : ((b.natAbs : Nat) : Int) = b := by omega
  have h4 : b.sign = 1 := Int.sign_eq_one_of_pos hb
  rw [Int.tdiv_eq_ediv, Int.tmod_eq_emod]
  by_cases h : 0 ≤ a ∨ b ∣ a
  · simp only [h, if_true]; constructor <;> intro hh <;> omega
  · simp only [h, if_false, h3, h4]; constructor <;> intro hh <;> omega
/-- Divided and rounded to the nearest. -/
def rndL (a b : Int) : Int := (2 * a + b) / (2 * b)
theorem tdiv_bd {a b : Int} (_hb : 0 < b) (h1 : -4611686018427387904 ≤ a) (h2 : a ≤ 4611686018427387904) : -4611686018427387904 ≤ Int.tdiv a b ∧ Int.tdiv a b ≤ 4611686018427387904 := by
  have h := Int.natAbs_tdiv_le_natAbs a b
  omega
set_option maxHeartbeats 1000000 in
theorem c_floor (a b : Int) (w : World) (hb : 0 < b) (hb2 : b ≤ 4611686018427387904) (h1 : -4611686018427387904 ≤ a) (h2 : a ≤ 4611686018427387904) :
    Calls Tryz.prog 167 #[.int .i64 a, .int .i64 b] w fun e w' => e = .returned (.int .i64 (a / b)) ∧ w = w' := by
  obtain ⟨k1, k2⟩ := tdiv_floor (a := a) hb
  obtain ⟨b1, b2⟩ := tdiv_bd hb h1 h2
  by_cases h0 : 0 ≤ a
  · have h3 : ¬ Int.tmod a b < 0 := by rw [Int.tmod_eq_emod_of_nonneg h0]; have := Int.emod_nonneg a (show b ≠ 0 by omega); omega
    have h4 : 0 ≤ a % b := Int.emod_nonneg a (by omega)
    clear k1 k2 b1 b2 h3
    go_enter Tryz.func167, Tryz.ntmps167
    go_wp2
    go_ret
    exact ⟨ret_i (by rfl), rfl⟩
  · by_cases hm : Int.tmod a b < 0
    · have K := Lib.hid (k1 hm)
      clear k1 k2
      go_enter Tryz.func167, Tryz.ntmps167
      go_wp2
      go_ret
      exact ⟨ret_i K.out.symm, rfl⟩
    · have K := Lib.hid (k2 hm)
      clear k1 k2
      go_enter Tryz.func167, Tryz.ntmps167
      go_wp2
      go_ret
      exact ⟨ret_i K.out.symm, rfl⟩
set_option maxHeartbeats 1000000 in
theorem c_floorDiv (a b : Int) (w : World) (hb : 0 < b) (hb2 : b ≤ 4611686018427387904) (h1 : -4611686018427387904 ≤ a) (h2 : a ≤ 4611686018427387904) :
    Calls Tryz.prog 147 #[.int .i64 a, .int .i64 b] w fun e w' => e = .returned (.int .i64 (a / b)) ∧ w = w' := by
  obtain ⟨k1, k2⟩ := tdiv_floor (a := a) hb
  obtain ⟨b1, b2⟩ := tdiv_bd hb h1 h2
  by_cases h0 : 0 ≤ a
  · have h3 : ¬ Int.tmod a b < 0 := by rw [Int.tmod_eq_emod_of_nonneg h0]; have := Int.emod_nonneg a (show b ≠ 0 by omega); omega
    have h4 : 0 ≤ a % b := Int.emod_nonneg a (by omega)
    clear k1 k2 b1 b2 h3
    go_enter Tryz.func147, Tryz.ntmps147
    go_wp2
    go_ret
    exact ⟨ret_i (by rfl), rfl⟩
  · by_cases hm : Int.tmod a b < 0
    · have K := Lib.hid (k1 hm)
      clear k1 k2
      go_enter Tryz.func147, Tryz.ntmps147
      go_wp2
      go_ret
      exact ⟨ret_i K.out.symm, rfl⟩
    · have K := Lib.hid (k2 hm)
      clear k1 k2
      go_enter Tryz.func147, Tryz.ntmps147
      go_wp2
      go_ret
      exact ⟨ret_i K.out.symm, rfl⟩
set_option maxHeartbeats 1000000 in
theorem c_round (a b : Int) (w : World) (hb : 0 < b) (hb2 : b ≤ 1000000000000000000) (h1 : -1000000000000000000 ≤ a) (h2 : a ≤ 1000000000000000000) :
    Calls Tryz.prog 158 #[.int .i64 a, .int .i64 b] w fun e w' => e = .returned (.int .i64 (rndL a b)) ∧ w = w' := by
  go_enter Tryz.func158, Tryz.ntmps158
  go_wp2_with fail
  refine (c_floor (2 * a + b) (2 * b) w (by omega) (by omega) (by omega) (by omega)).mono ?_; rintro e w' ⟨rfl, rfl⟩
  go_wp2
  go_ret
  exact ⟨rfl, rfl⟩
set_option maxHeartbeats 1000000 in
theorem c_nearest (a b : Int) (w : World) (hb : 0 < b) (hb2 : b ≤ 1000000000000000000) (h1 : -1000000000000000000 ≤ a) (h2 : a ≤ 1000000000000000000) :
    Calls Tryz.prog 144 #[.int .i64 a, .int .i64 b] w fun e w' => e = .returned (.int .i64 (rndL a b)) ∧ w = w' := by
  go_enter Tryz.func144, Tryz.ntmps144
  go_wp2_with fail
  refine (c_floorDiv (2 * a + b) (2 * b) w (by omega) (by omega) (by omega) (by omega)).mono ?_; rintro e w' ⟨rfl, rfl⟩
  go_wp2
  go_ret
  exact ⟨rfl, rfl⟩
end Go.Proofs.YtagmnbphbakikaaGreat
namespace Go.Proofs.YtagmnbphbakikaaGreat
open Go Go.RowKit Reg
attribute [local go_sem] calmAt calmUpon
def CrdP (p : Pt) : Prop := Crd p.1 ∧ Crd p.2
/-- The point between. -/
def midL (a b : Pt) : Pt := ((a.1 + b.1) / 2, (a.2 + b.2) / 2)
theorem midL_crd {a b : Pt} (h1 : CrdP a) (h2 : CrdP b) : CrdP (midL a b) := by unfold CrdP Crd midL at *; dsimp only; omega
set_option maxHeartbeats 2000000 in
theorem c_middle (a b : Pt) (w : World) (ha : CrdP a) (hb : CrdP b) :
    Calls Tryz.prog 172 #[.agg #[.int .i64 a.1, .int .i64 a.2], .agg #[.int .i64 b.1, .int .i64 b.2]] w fun e w' => e = .returned (.agg #[.int .i64 (midL a b).1, .int .i64 (midL a b).2]) ∧ Below w.heap.size w w' := by
  obtain ⟨x1, y1⟩ := a
  obtain ⟨x2, y2⟩ := b
  unfold CrdP Crd at ha hb
  dsimp only at ha hb
  obtain ⟨⟨p1, p2⟩, p3, p4⟩ := ha
  obtain ⟨⟨q1, q2⟩, q3, q4⟩ := hb
  go_enter Tryz.func172, Tryz.ntmps172
  go_wp2_with fail
  generalize hW : ((w.alloc (.cells #[.int .i64 x1, .int .i64 y1] 45)).alloc (.cells #[.int .i64 x2, .int .i64 y2] 45)).alloc (.cells #[.int .i64 0, .int .i64 0] 45) = wa
  have Ea : Ext w wa := by rw [← hW]; exact (by repeat (first | exact Below.refl _ _ | assumption | refine Below.drew ?_ | refine Below.alloc ?_ (by first | exact Nat.le_refl _ | omega | (simp; done) | (simp; omega)) _ | refine Below.setCell ?_ (by first | exact Nat.le_refl _ | omega | (simp; done) | (simp; omega)) _))
  have A1 : Row wa w.heap.size 45 [.int .i64 x1, .int .i64 y1] := by rw [← hW]; exact ((Row.new w 45 [.int .i64 x1, .int .i64 y1]).alloc _).alloc _
  have A2 : Row wa (w.heap.size + 1) 45 [.int .i64 x2, .int .i64 y2] := by rw [← hW]; exact row_mid w _ _ 45 [.int .i64 x2, .int .i64 y2]
  have A3 : Row wa (w.heap.size + 2) 45 [.int .i64 0, .int .i64 0] := by
    rw [← hW]
    have := Row.new ((w.alloc (.cells #[.int .i64 x1, .int .i64 y1] 45)).alloc (.cells #[.int .i64 x2, .int .i64 y2] 45)) 45 [.int .i64 0, .int .i64 0]
    simpa using this
  clear hW
  have c0 := A1.cell_of (i := 0) rfl
  have c1 := A1.cell_of (i := 1) rfl
  have d0 := A2.cell_of (i := 0) rfl
  have d1 := A2.cell_of (i := 1) rfl
  have f1 : IntKind.i64.wrap (x1 + x2) = x1 + x2 := IntWalk.i64_in _ (by omega)
  have f2 : IntKind.i64.wrap (y1 + y2) = y1 + y2 := IntWalk.i64_in _ (by omega)
  have H3 := Lib.hid A3
  clear A1 A2 A3
  refine wp_region_calm [0,1,2,3,4,5,6,7,8,9,10,11,12] [13] (by kernel_rfl) (by kernel_rfl) ?_
  iterate 5 ((refine calm_yes rfl rfl (fun w' hC => (by have c0 := hC.cell c0; have c1 := hC.cell c1; have d0 := hC.cell d0; have d1 := hC.cell d1; go_simp; rfl)) (fun K hK => ?_); go_simp; refine hK _ ?_; clear hK K))
  (apply calm_call rfl rfl rfl Tryz.func147 (by kernel_rfl) rfl (by go_simp; rfl); exact (fun w' hC => ext_of_same (c_floorDiv (x1 + x2) 2 w' (by decide) (by decide) (by omega) (by omega))); intro K hK; go_simp; refine hK _ ?_; clear hK K)
  iterate 5 ((refine calm_yes rfl rfl (fun w' hC => (by have c0 := hC.cell c0; have c1 := hC.cell c1; have d0 := hC.cell d0; have d1 := hC.cell d1; go_simp; rfl)) (fun K hK => ?_); go_simp; refine hK _ ?_; clear hK K))
  (apply calm_call rfl rfl rfl Tryz.func147 (by kernel_rfl) rfl (by go_simp; rfl); exact (fun w' hC => ext_of_same (c_floorDiv (y1 + y2) 2 w' (by decide) (by decide) (by omega) (by omega))); intro K hK; go_simp; refine hK _ ?_; clear hK K)
  (refine calm_yes rfl rfl (fun w' hC => (by go_simp; rfl)) (fun K hK => ?_); go_simp; refine hK _ ?_; clear hK K)
  refine calm_nil (fun w2 hC2 => ?_)
  refine late_free (by kernel_rfl) rfl rfl (fun w3 hx3 K hK => ?_)
  have E3 : Ext wa w3 := Ext.trans (ext_cls hC2) hx3
  have S3 := H3.out.ext E3
  have e0 := S3.cell_of (i := 0) rfl
  have e1 := S3.cell_of (i := 1) rfl
  have z0 := S3.frozen 0
  have z1 := S3.frozen 1
  go_simp
  refine hK _ _ ?_
  clear hK K
  refine late_nil (fun w4 hx4 => ?_)
  have S4 := ((S3.set_ 0 (.int .i64 ((x1 + x2) / 2))).set_ 1 (.int .i64 ((y1 + y2) / 2))).ext hx4
  have B4 : Ext w w4 := Ext.trans (((Ext.trans Ea E3).setCell (by simp; omega) _).setCell (by simp; omega) _) hx4
  have g0 := S4.cell_of (i := 0) rfl
  have g1 := S4.cell_of (i := 1) rfl
  clear e0 e1 z0 z1 S3 E3 hx3 hx4 hC2
  go_wp2_with fail
  exact bodyPost_ret (v := .agg #[.int .i64 ((x1 + x2) / 2), .int .i64 ((y1 + y2) / 2)]) (by simp [results, Tryz.results172, go_sem, g0, g1]) rfl ⟨rfl, B4⟩
end Go.Proofs.YtagmnbphbakikaaGreat
