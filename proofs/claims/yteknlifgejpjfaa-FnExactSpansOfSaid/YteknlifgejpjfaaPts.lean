/-
  The walks of the functions on numbers and points that the statements share.
-/
import Derived.Test.YteknlifgejpjfaaRows
import Derived.Test.YteknlifgejpjfaaVbL
namespace Go.Proofs.Yteknlifgejpjfaa
open Go Go.RowKit Reg

theorem ei_int : EI Try.prog 82 3 (.int .i64 0) [.int .i64 0] 8 := ei_mk Try.underlying82 (by kernel_rfl) rfl (by decide) (by decide)
theorem ei_pt : EI Try.prog 42 58 (.agg #[.int .i64 0, .int .i64 0]) [.int .i64 0, .int .i64 0] 16 := ei_mk Try.underlying42 (by kernel_rfl) rfl (by decide) (by decide)
set_option maxHeartbeats 400000 in
theorem c_in (n lo hi : Int) (w : World) : Calls Try.prog 41 #[.int .i64 n, .int .i64 lo, .int .i64 hi] w fun e w' => e = .returned (.bool (inB n lo hi)) ∧ w = w' := by
  go_enter Try.func41, Try.ntmps41
  go_wp2
  all_goals (go_ret; exact ⟨ret_b (by simp; omega), rfl⟩)
set_option maxHeartbeats 400000 in
theorem c_inRange (n lo hi : Int) (w : World) : Calls Try.prog 21 #[.int .i64 n, .int .i64 lo, .int .i64 hi] w fun e w' => e = .returned (.bool (inB n lo hi)) ∧ w = w' := by
  go_enter Try.func21, Try.ntmps21
  go_wp2
  all_goals (go_ret; exact ⟨ret_b (by simp; omega), rfl⟩)
set_option maxHeartbeats 400000 in
theorem c_isUnit (n : Int) (w : World) : Calls Try.prog 65 #[.int .i64 n] w fun e w' => e = .returned (.bool (inB n (-1000) 1000)) ∧ w = w' := by
  go_enter Try.func65, Try.ntmps65
  go_wp2_with (go_at_call 41; refine (c_in _ _ _ _).mono ?_; rintro e w' ⟨rfl, rfl⟩)
  go_ret; exact ⟨rfl, rfl⟩
set_option maxHeartbeats 400000 in
theorem c_ptvalid (p : Pt) (w : World) : Calls Try.prog 58 #[.agg #[.int .i64 p.1, .int .i64 p.2]] w fun e w' => e = .returned (.bool (vpB p)) ∧ Below w.heap.size w w' := by
  by_cases h : inB p.1 (-1000) 1000 = true
  all_goals
    go_enter Try.func58, Try.ntmps58
    go_wp2_with (go_at_call 65; refine (c_isUnit _ _).mono ?_; rintro e w' ⟨rfl, rfl⟩)
    go_ret; exact ⟨ret_bb (by simp [vpB, h]), (by repeat (first | exact Below.refl _ _ | assumption | refine Below.drew ?_ | refine Below.alloc ?_ (by first | exact Nat.le_refl _ | omega | (simp; done) | (simp; omega)) _ | refine Below.setCell ?_ (by first | exact Nat.le_refl _ | omega | (simp; done) | (simp; omega)) _))⟩
set_option maxHeartbeats 400000 in
theorem c_validPoint (p : Pt) (w : World) : Calls Try.prog 53 #[.agg #[.int .i64 p.1, .int .i64 p.2]] w fun e w' => e = .returned (.bool (vpB p)) ∧ Below w.heap.size w w' := by
  by_cases h : inB p.1 (-1000) 1000 = true
  all_goals
    go_enter Try.func53, Try.ntmps53
    go_wp2_with (go_at_call 21; refine (c_inRange _ _ _ _).mono ?_; rintro e w' ⟨rfl, rfl⟩)
    go_ret; exact ⟨ret_bb (by simp [vpB, h]), (by repeat (first | exact Below.refl _ _ | assumption | refine Below.drew ?_ | refine Below.alloc ?_ (by first | exact Nat.le_refl _ | omega | (simp; done) | (simp; omega)) _ | refine Below.setCell ?_ (by first | exact Nat.le_refl _ | omega | (simp; done) | (simp; omega)) _))⟩
set_option maxHeartbeats 400000 in
theorem c_eqPoint (p q : Pt) (w : World) : Calls Try.prog 51 #[.agg #[.int .i64 p.1, .int .i64 p.2], .agg #[.int .i64 q.1, .int .i64 q.2]] w fun e w' => e = .returned (.bool (decide (p = q))) ∧ Below w.heap.size w w' := by
  obtain ⟨p1, p2⟩ := p
  obtain ⟨q1, q2⟩ := q
  go_enter Try.func51, Try.ntmps51
  go_wp2
  all_goals (go_ret; exact ⟨ret_b (by simp_all), (by repeat (first | exact Below.refl _ _ | assumption | refine Below.drew ?_ | refine Below.alloc ?_ (by first | exact Nat.le_refl _ | omega | (simp; done) | (simp; omega)) _ | refine Below.setCell ?_ (by first | exact Nat.le_refl _ | omega | (simp; done) | (simp; omega)) _))⟩)
set_option maxHeartbeats 400000 in
theorem c_validPoints (A : Option Addr) (cap : Nat) (ps : List Pt) (w : World) (h : Pts w A ps) (hl : ps.length ≤ 4611686018427387904) :
    Calls Try.prog 35 #[.slice A ps.length cap] w fun e w' => e = .returned (.bool (psB ps)) ∧ Below w.heap.size w w' := by
  go_enter Try.func35, Try.ntmps35
  go_wp2
  go_loopw [3] (fun i wr => ∃ k : Nat, k ≤ ps.length ∧ i = .int .i64 k ∧ (ps.take k).all vpB = true ∧ Below w.heap.size w wr) (fun i _ => ps.length - (intOf i).toNat)
  case atStart => exact ⟨0, Nat.zero_le _, rfl, by simp, Below.refl _ _⟩
  case round =>
    obtain ⟨k, hk, rfl, hal, hbw⟩ := hrel
    have hal' := Lib.hid hal
    clear hal
    by_cases hlt : k < ps.length
    · obtain ⟨b, off, rfl, _hb, hc⟩ := (h.ext ptR_stab hbw).pts (by omega)
      obtain ⟨cx, cy⟩ := hc k hlt
      clear h hc
      by_cases hv : vpB ps[k] = true
      · go_wp2_with (go_at_call 53; refine (c_validPoint ps[k] _).mono ?_; rw [hv]; rintro e w1 ⟨rfl, hb1⟩)
        go_roundw
        case rel => exact ⟨k+1, by omega, by go_num, all_take_succ hal'.out hlt hv, below_ext hbw hb1⟩
        case measure => simp [intOf]; omega
      · simp only [Bool.not_eq_true] at hv
        go_wp2_with (go_at_call 53; refine (c_validPoint ps[k] _).mono ?_; rw [hv]; rintro e w1 ⟨rfl, hb1⟩)
        go_ret
        exact ⟨ret_bb (by simp [psB, all_false_of hlt hv]), below_ext hbw hb1⟩
    · have hk' : k = ps.length := by omega
      have hall := Lib.hid (all_of_take hal'.out hk')
      clear h hk'
      go_wp2
      go_ret
      exact ⟨ret_bb (by simp [psB, hall.out]; omega), hbw⟩
set_option maxHeartbeats 400000 in
theorem c_pv1 (p : Pt) (w : World) : Calls Try.prog 57 #[.agg #[.int .i64 p.1, .int .i64 p.2]] w fun e w' => e = .returned (.bool (!vpB p)) ∧ Below w.heap.size w w' := by
  go_enter Try.func57, Try.ntmps57
  go_wp2_with (go_at_call 58; refine (c_ptvalid p _).mono ?_; rintro e w1 ⟨rfl, hb1⟩)
  go_ret
  refine ⟨rfl, ?_⟩
  exact Ext.trans (Below.alloc (Below.refl _ _) (Nat.le_refl _) _) hb1
set_option maxHeartbeats 400000 in
theorem c_pvIndex (A : Option Addr) (cap : Nat) (ps : List Pt) (w : World) (h : Pts w A ps) (hl : ps.length ≤ 4611686018427387904) :
    Calls Try.prog 64 #[.slice A ps.length cap, .func (.func 57) #[] #[]] w fun e w' => ∃ n : Int, e = .returned (.int .i64 n) ∧ (0 ≤ n ↔ ps.all vpB = false) ∧ Below w.heap.size w w' := by
  go_enter Try.func64, Try.ntmps64
  go_wp2
  go_loopw [5, 8] (fun _ i wr => ∃ k : Nat, k ≤ ps.length ∧ i = .int .i64 k ∧ (ps.take k).all vpB = true ∧ Below w.heap.size w wr) (fun _ i _ => ps.length - (intOf i).toNat)
  case atStart => exact ⟨0, Nat.zero_le _, rfl, by simp, Below.refl _ _⟩
  case round =>
    obtain ⟨k, hk, rfl, hal, hbw⟩ := hrel
    have hal' := Lib.hid hal
    clear hal
    by_cases hlt : k < ps.length
    · obtain ⟨b, off, rfl, _hb, hc⟩ := (h.ext ptR_stab hbw).pts (by omega)
      obtain ⟨cx, cy⟩ := hc k hlt
      clear h hc
      by_cases hv : vpB ps[k] = true
      · go_wp2_with (go_at_call 57; refine (c_pv1 ps[k] _).mono ?_; rw [hv]; rintro e w1 ⟨rfl, hb1⟩)
        go_roundw
        case rel => exact ⟨k+1, by omega, by go_num, all_take_succ hal'.out hlt hv, below_ext hbw hb1⟩
        case measure => simp [intOf]; omega
      · simp only [Bool.not_eq_true] at hv
        go_wp2_with (go_at_call 57; refine (c_pv1 ps[k] _).mono ?_; rw [hv]; rintro e w1 ⟨rfl, hb1⟩)
        go_ret
        exact ⟨k, rfl, by simp [all_false_of hlt hv], below_ext hbw hb1⟩
    · have hk' : k = ps.length := by omega
      have hall := Lib.hid (all_of_take hal'.out hk')
      clear h hk'
      go_wp2
      go_ret
      exact ⟨-1, rfl, by simp [hall.out], hbw⟩
set_option maxHeartbeats 400000 in
theorem c_pvContains (A : Option Addr) (cap : Nat) (ps : List Pt) (w : World) (h : Pts w A ps) (hl : ps.length ≤ 4611686018427387904) :
    Calls Try.prog 56 #[.slice A ps.length cap, .func (.func 57) #[] #[]] w fun e w' => e = .returned (.bool (!ps.all vpB)) ∧ Below w.heap.size w w' := by
  go_enter Try.func56, Try.ntmps56
  go_wp2_with (go_at_call 64; refine (c_pvIndex A cap ps _ h hl).mono ?_; rintro e w1 ⟨n, rfl, hn, hb1⟩)
  go_ret
  exact ⟨ret_bb (by rw [Bool.eq_iff_iff]; simpa using hn), hb1⟩
set_option maxHeartbeats 400000 in
theorem c_pointsValid (A : Option Addr) (cap : Nat) (ps : List Pt) (w : World) (h : Pts w A ps) (hl : ps.length ≤ 4611686018427387904) :
    Calls Try.prog 40 #[.slice A ps.length cap] w fun e w' => e = .returned (.bool (psB ps)) ∧ Below w.heap.size w w' := by
  by_cases h40 : ps.length ≤ 40
  · have h40' : ((ps.length : Nat) : Int) ≤ 40 := by omega
    go_enter Try.func40, Try.ntmps40
    go_wp2_with (go_at_call 56; refine (c_pvContains A cap ps _ h hl).mono ?_; rintro e w1 ⟨rfl, hb1⟩)
    go_ret
    exact ⟨ret_bb (by simp [psB, h40]), hb1⟩
  · have h40' : ¬ ((ps.length : Nat) : Int) ≤ 40 := by omega
    go_enter Try.func40, Try.ntmps40
    go_wp2
    go_ret
    exact ⟨ret_bb (by simp [psB, h40]), Below.refl _ _⟩
attribute [local go_sem] calmAt calmUpon
set_option maxHeartbeats 400000 in
theorem c_eqPointS (A A' : Option Addr) (cap cap' : Nat) (ps qs : List Pt) (w : World) (h : Pts w A ps) (h' : Pts w A' qs) (hl : ps.length ≤ 4611686018427387904) (hl' : qs.length ≤ 4611686018427387904) :
    Calls Try.prog 28 #[.slice A ps.length cap, .slice A' qs.length cap'] w fun e w' => e = .returned (.bool (decide (ps = qs))) ∧ Below w.heap.size w w' := by
  by_cases hlen : ps.length = qs.length
  · go_enter Try.func28, Try.ntmps28
    have hne : (((ps.length : Nat) : Int) != ((qs.length : Nat) : Int)) = false := by simp [hlen]
    have Hlen := Lib.hid hlen
    clear hlen
    go_wp2
    go_loopw [5] (fun i wr => ∃ k : Nat, k ≤ ps.length ∧ i = .int .i64 k ∧ ps.take k = qs.take k ∧ Below w.heap.size w wr) (fun i _ => ps.length - (intOf i).toNat)
    case atStart => exact ⟨0, Nat.zero_le _, rfl, by simp, Below.refl _ _⟩
    case round =>
      obtain ⟨k, hk, rfl, hal, hbw⟩ := hrel
      have hal' := Lib.hid hal
      clear hal
      by_cases hlt : k < ps.length
      · have hlt' : k < qs.length := by have := Hlen.out; omega
        obtain ⟨b, off, rfl, _hb, hc⟩ := (h.ext ptR_stab hbw).pts (by omega)
        obtain ⟨b', off', rfl, _hb', hc'⟩ := (h'.ext ptR_stab hbw).pts (by omega)
        obtain ⟨cx, cy⟩ := hc k hlt
        obtain ⟨cx', cy'⟩ := hc' k hlt'
        have hk1 : ps[k] = qs[k] → ps.take (k + 1) = qs.take (k + 1) := take_eq_succ hal'.out hlt hlt'
        have hk2 : ps[k] ≠ qs[k] → ps ≠ qs := ne_of_at hlt hlt'
        have Hk1 := Lib.hid hk1
        have Hk2 := Lib.hid hk2
        clear h hc h' hc' hk1 hk2
        generalize ps[k] = p at *
        generalize qs[k] = q at *
        go_wp2_with fail
        refine wp_region_calm [0,1,2,3,4,5,6,7,8,9] [] (by kernel_rfl) (by kernel_rfl) ?_
        iterate 8 ((refine calm_yes rfl rfl (fun w' hC => (by have cx := hC.cell cx; have cy := hC.cell cy;  have cx' := hC.cell cx'; have cy' := hC.cell cy'; go_simp; rfl)) (fun K hK => ?_); go_simp; refine hK _ ?_; clear hK K))
        (apply calm_call rfl rfl rfl Try.func51 (by kernel_rfl) rfl (by go_simp; rfl); exact (fun w' hC => c_eqPoint p q w'); intro K hK; go_simp; refine hK _ ?_; clear hK K)
        (refine calm_yes rfl rfl (fun w' hC => (by go_simp; rfl)) (fun K hK => ?_); go_simp; refine hK _ ?_; clear hK K)
        refine calm_done (fun w1 hb1 => ?_)
        obtain ⟨d, hd⟩ : ∃ d, d = decide (p = q) := ⟨_, rfl⟩
        rw [← hd]
        have Hd := Lib.hid hd
        clear hd
        cases d
        · have hpq : ps ≠ qs := Hk2.out (by have := Hd.out; simpa using this.symm)
          go_wp2
          go_ret
          exact ⟨ret_b (by simp [hpq]), below_ext hbw hb1⟩
        · go_wp2
          go_roundw
          case rel => exact ⟨k + 1, by omega, by go_num, Hk1.out (by have := Hd.out; simpa using this.symm), below_ext hbw hb1⟩
          case measure => simp [intOf]; omega
      · have hk' : ps = qs := eq_of_take hal'.out (by omega) (by have := Hlen.out; omega)
        have Hk' := Lib.hid hk'
        clear h h' hk'
        go_wp2
        go_ret
        exact ⟨ret_b (by simp [Hk'.out]), hbw⟩
  · have hne : (((ps.length : Nat) : Int) != ((qs.length : Nat) : Int)) = true := by simp; omega
    have hpq : ps ≠ qs := fun h => hlen (by rw [h])
    go_enter Try.func28, Try.ntmps28
    go_wp2
    go_ret
    exact ⟨ret_b (by simp [hpq]), Below.refl _ _⟩
set_option maxHeartbeats 400000 in
theorem c_szPointS (A : Option Addr) (n cap : Nat) (left : Int) (w : World) (h0 : 0 ≤ left) (h1 : left ≤ 4611686018427387904) (hn : n ≤ 9223372036854775807) :
    Calls Try.prog 19 #[.slice A n cap, .int .i64 left] w fun e w' => e = .returned (.int .i64 (if left - n < 0 then -1 else left - n)) ∧ w = w' := by
  by_cases h : left - n < 0
  all_goals
    go_enter Try.func19, Try.ntmps19
    go_wp2
    go_ret
    exact ⟨ret_i (by simp), rfl⟩
set_option maxHeartbeats 400000 in
theorem c_toPoint (p : Pt) (w : World) : Calls Try.prog 39 #[.agg #[.int .i64 p.1, .int .i64 p.2]] w fun e w' => e = .returned (.agg #[.int .i64 p.1, .int .i64 p.2]) ∧ Below w.heap.size w w' := by
  go_enter Try.func39, Try.ntmps39
  go_wp2
  exact bodyPost_ret (v := .agg #[.int .i64 p.1, .int .i64 p.2]) (by simp [results, Try.results39, go_sem]) rfl ⟨rfl, (by repeat (first | exact Below.refl _ _ | assumption | refine Below.drew ?_ | refine Below.alloc ?_ (by first | exact Nat.le_refl _ | omega | (simp; done) | (simp; omega)) _ | refine Below.setCell ?_ (by first | exact Nat.le_refl _ | omega | (simp; done) | (simp; omega)) _))⟩
set_option maxHeartbeats 400000 in
theorem c_toPointS (A : Option Addr) (cap : Nat) (ps : List Pt) (w : World) (h : Pts w A ps) (hl : ps.length ≤ 1048576) :
    Calls Try.prog 23 #[.slice A ps.length cap] w fun e w' => ∃ b, e = .returned (.slice (some ⟨b, 0, none⟩) ps.length ps.length) ∧ w.heap.size ≤ b ∧ Row w' b 58 (ps.flatMap ptC) ∧ Below w.heap.size w w' := by
  have hmk := fun W => run_make_fill ei_pt ptC ps (by omega) W
  go_enter Try.func23, Try.ntmps23
  go_wp2
  go_loopw [4] (fun i wr => ∃ k : Nat, k ≤ ps.length ∧ i = .int .i64 k ∧ Row wr w.heap.size 58 (fillC ptC [.int .i64 0, .int .i64 0] ps k) ∧ Below w.heap.size w wr) (fun i _ => ps.length - (intOf i).toNat)
  case atStart => exact ⟨0, Nat.zero_le _, rfl, Row.new _ _ _, (by repeat (first | exact Below.refl _ _ | assumption | refine Below.drew ?_ | refine Below.alloc ?_ (by first | exact Nat.le_refl _ | omega | (simp; done) | (simp; omega)) _ | refine Below.setCell ?_ (by first | exact Nat.le_refl _ | omega | (simp; done) | (simp; omega)) _))⟩
  case round =>
    obtain ⟨k, hk, rfl, hr, hbw⟩ := hrel
    clear hmk
    by_cases hlt : k < ps.length
    · obtain ⟨b, off, rfl, _hb, hc⟩ := (h.ext ptR_stab hbw).pts (by omega)
      obtain ⟨cx, cy⟩ := hc k hlt
      clear h hc
      go_wp2_with (go_at_call 39; refine (c_toPoint ps[k] _).mono ?_; rintro e w1 ⟨rfl, hb1⟩; have hr1 := hr.ext hb1; have e1 : w1.cell? ⟨w.heap.size, k * 2, none⟩ = some (.int .i64 0) := hr1.cell_of (fillC_get (j := 0) ptC_len rfl hlt (by decide)); have e2 : w1.cell? ⟨w.heap.size, k * 2 + 1, none⟩ = some (.int .i64 0) := hr1.cell_of (fillC_get (j := 1) ptC_len rfl hlt (by decide)); have e3 := hr1.frozen (k * 2); have e4 := hr1.frozen (k * 2 + 1); clear hr1)
      go_roundw
      case rel => exact ⟨k + 1, by omega, by go_num, by
        rw [← fillC_set ptC_len rfl hlt]
        exact ((hr.ext hb1).set_ _ _).set_ _ _, below_ext hbw hb1 |>.setCell (Nat.le_refl _) _ |>.setCell (Nat.le_refl _) _⟩
      case measure => simp [intOf]; omega
    · obtain rfl : k = ps.length := by omega
      clear h
      go_wp2
      go_ret
      exact ⟨_, rfl, Nat.le_refl _, by rw [← fillC_all (z := [.int .i64 0, .int .i64 0])]; exact hr, hbw⟩
set_option maxHeartbeats 400000 in
theorem c_toInt (b : Bool) (w : World) : Calls Try.prog 38 #[.bool b] w fun e w' => e = .returned (.int .i64 (if b then 1 else 0)) ∧ w = w' := by
  cases b
  all_goals
    go_enter Try.func38, Try.ntmps38
    go_wp2
    go_ret; exact ⟨rfl, rfl⟩
end Go.Proofs.Yteknlifgejpjfaa
