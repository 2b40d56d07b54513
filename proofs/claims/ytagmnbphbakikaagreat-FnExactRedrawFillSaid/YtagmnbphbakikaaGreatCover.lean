/-
  How much of a pixel is covered: the walks.
-/
import Derived.Test.YtagmnbphbakikaaGreatWindA
import Derived.Test.YtagmnbphbakikaaGreatMg5
namespace Go.Proofs.YtagmnbphbakikaaGreat
open Go Go.RowKit Reg
attribute [local go_sem] calmAt calmUpon
def insB (n rule : Int) : Bool := if rule = 1 then decide (n % 2 ≠ 0) else decide (n ≠ 0)
/-- How many of the first i rows of four, and of the first k of the next row. -/
def cnt (f : Nat → Nat → Bool) (i k : Nat) : Nat := ((List.range i).map fun a => (List.range 4).countP (f a)).sum + (List.range k).countP (f i)
theorem cnt_succ (f : Nat → Nat → Bool) (i k : Nat) : cnt f i (k + 1) = cnt f i k + (if f i k then 1 else 0) := by
  unfold cnt; rw [List.range_succ (n := k), List.countP_append]; simp [List.countP_cons]; omega
theorem cnt_row (f : Nat → Nat → Bool) (i : Nat) : cnt f i 4 = cnt f (i + 1) 0 := by
  unfold cnt; rw [List.range_succ (n := i), List.map_append, List.sum_append]; simp
theorem cnt_bd (f : Nat → Nat → Bool) (i k : Nat) : cnt f i k ≤ 4 * i + k := by
  unfold cnt
  have h1 : (List.range k).countP (f i) ≤ k := by have := List.countP_le_length (p := f i) (l := List.range k); simpa using this
  have h2 : ((List.range i).map fun a => (List.range 4).countP (f a)).sum ≤ 4 * i := by
    induction i with
    | zero => simp
    | succ i ih =>
      rw [List.range_succ (n := i), List.map_append, List.sum_append]
      have h3 : (List.range 4).countP (f i) ≤ 4 := by have := List.countP_le_length (p := f i) (l := List.range 4); simpa using this
      have h4 : (List.range k).countP (f i) ≤ k := by have := List.countP_le_length (p := f i) (l := List.range k); simpa using this
      have := ih h4
      simp; omega
  omega
theorem cnt_flip (f : Nat → Nat → Bool) : cnt (fun i k => f k i) 4 0 = cnt f 4 0 := by
  simp only [cnt, show List.range 4 = [0, 1, 2, 3] from rfl, show List.range 0 = [] from rfl, List.map_cons, List.map_nil, List.sum_cons, List.sum_nil, List.countP_cons, List.countP_nil]
  omega
/-- The samples of a pixel, row by row. -/
def smpS (rs : List Rg) (rule c r : Int) (i k : Nat) : Bool := insB (windL rs (16 * c + 4 * (k : Int) + 2) (16 * r + 4 * (i : Int) + 2)) rule
def coverL (rs : List Rg) (rule c r : Int) : Int := (cnt (smpS rs rule c r) 4 0 : Nat)
def coverR (rs : List Rg) (rule c r : Int) : Int := if rgsB rs && inB rule 0 1 && inB c 0 11 && inB r 0 11 then coverL rs rule c r else -1
theorem windL_bd {rs : List Rg} (h : rgsB rs = true) (x y : Int) : -320 ≤ windL rs x y ∧ windL rs x y ≤ 320 := by
  have hr := rgsB_iff.1 h
  have := sumS_bd (f := stepL x y) (rs := rs) (B := 40) (fun r hq => by have := sumE_bd40 (f := stepL x y) (B := 1) (fun a _ b _ => stepL_bd x y a b) (by omega) (hr.1 r hq).2; omega) (by omega) (k := rs.length) hr.2.1
  rw [List.take_length] at this
  unfold windL; omega
set_option maxHeartbeats 1000000 in
theorem c_distance' (n : Int) (w : World) (h : -1000000 ≤ n ∧ n ≤ 1000000) : Calls Tryz.prog 171 #[.int .i64 n] w fun e w' => e = .returned (.int .i64 (absI n)) ∧ w = w' := by
  obtain ⟨h1, h2⟩ := h
  by_cases hn : n < 0
  all_goals
    go_enter Tryz.func171, Tryz.ntmps171
    go_wp2
    go_ret
    exact ⟨ret_i (by unfold absI; omega), rfl⟩
set_option maxHeartbeats 1000000 in
theorem c_sinside (n rule : Int) (w : World) (h : -1000000 ≤ n ∧ n ≤ 1000000) : Calls Tryz.prog 142 #[.int .i64 n, .int .i64 rule] w fun e w' => e = .returned (.bool (insB n rule)) ∧ w = w' := by
  by_cases hr : rule = 1
  · have hb : (rule == 1) = true := by simp [hr]
    have hI : Hid (insB n rule = decide (absI n % 2 = 1)) := Lib.hid (by unfold insB; rw [if_pos hr]; unfold absI; rw [decide_eq_decide]; split <;> omega)
    have hn0 : 0 ≤ absI n ∧ absI n ≤ 1000000 := by unfold absI; split <;> omega
    have K := Lib.hid (c_distance' n w h)
    obtain ⟨q1, q2⟩ := hn0
    clear hr h
    generalize absI n = m at *
    go_enter Tryz.func142, Tryz.ntmps142
    go_wp2_with fail
    refine (K.out).mono ?_
    rintro e w' ⟨rfl, rfl⟩
    go_wp2
    go_ret
    exact ⟨ret_bb (by rw [hI.out, Bool.eq_iff_iff]; simp), rfl⟩
  · have hb : (rule == 1) = false := by simp [hr]
    have hI : Hid (insB n rule = decide (n ≠ 0)) := Lib.hid (by unfold insB; rw [if_neg hr])
    clear hr
    go_enter Tryz.func142, Tryz.ntmps142
    go_wp2
    go_ret
    exact ⟨ret_bb (by rw [hI.out, Bool.eq_iff_iff]; simp), rfl⟩
set_option maxHeartbeats 1000000 in
theorem c_iinside (n rule : Int) (w : World) (h : -1000000 ≤ n ∧ n ≤ 1000000) : Calls Tryz.prog 162 #[.int .i64 n, .int .i64 rule] w fun e w' => e = .returned (.bool (insB n rule)) ∧ w = w' := by
  obtain ⟨h1, h2⟩ := h
  by_cases hr : rule = 1
  · have hb : (rule == 1) = true := by simp [hr]
    obtain ⟨m, hm⟩ : ∃ m, m = n.tmod 2 := ⟨_, rfl⟩
    obtain ⟨hm2, hmb⟩ : ((n % 2 ≠ 0) ↔ m ≠ 0) ∧ (-1 ≤ m ∧ m ≤ 1) := by
      rcases Int.le_total 0 n with h | h
      · rw [Int.tmod_eq_emod_of_nonneg h] at hm; omega
      · obtain ⟨k, rfl⟩ : ∃ k, n = -k := ⟨-n, by omega⟩
        rw [Int.neg_tmod, Int.tmod_eq_emod_of_nonneg (by omega)] at hm; omega
    have hI : Hid (insB n rule = decide (m ≠ 0)) := Lib.hid (by unfold insB; rw [if_pos hr, decide_eq_decide]; exact hm2)
    have hmt : n.tmod 2 = m := hm.symm
    clear hr hm hm2
    go_enter Tryz.func162, Tryz.ntmps162
    go_wp2
    go_ret
    exact ⟨ret_bb (by rw [hI.out, Bool.eq_iff_iff]; simp), rfl⟩
  · have hb : (rule == 1) = false := by simp [hr]
    have hI : Hid (insB n rule = decide (n ≠ 0)) := Lib.hid (by unfold insB; rw [if_neg hr])
    clear hr
    go_enter Tryz.func162, Tryz.ntmps162
    go_wp2
    go_ret
    exact ⟨ret_bb (by rw [hI.out, Bool.eq_iff_iff]; simp), rfl⟩
set_option maxHeartbeats 1000000 in
theorem c_isRule (n : Int) (w : World) : Calls Tryz.prog 118 #[.int .i64 n] w fun e w' => e = .returned (.bool (inB n 0 1)) ∧ w = w' := by
  by_cases h0 : n = 0
  · have hb : (n == 0) = true := by simp [h0]
    have hI : Hid (inB n 0 1 = true) := Lib.hid (by rw [inB_iff]; omega)
    clear h0
    go_enter Tryz.func118, Tryz.ntmps118
    go_wp2
    go_ret
    exact ⟨ret_bb (by rw [hI.out]), rfl⟩
  · have hb : (n == 0) = false := by simp [h0]
    have hI : Hid (inB n 0 1 = (n == 1)) := Lib.hid (by rw [Bool.eq_iff_iff, inB_iff]; simp; omega)
    clear h0
    go_enter Tryz.func118, Tryz.ntmps118
    go_wp2
    go_ret
    exact ⟨ret_bb (by rw [hI.out]), rfl⟩
set_option maxRecDepth 100000 in
set_option maxHeartbeats 2000000 in
theorem c_scover (A : Option Addr) (cap : Nat) (rs : List Rg) (rule c r : Int) (w : World) (h : Rgs w A rs) (hv : rgsB rs = true) (hc : -20 ≤ c ∧ c ≤ 20) (hr : -20 ≤ r ∧ r ≤ 20) :
    Calls Tryz.prog 104 #[.slice A rs.length cap, .int .i64 rule, .int .i64 c, .int .i64 r] w fun e w' => e = .returned (.int .i64 (coverL rs rule c r)) ∧ Below w.heap.size w w' := by
  obtain ⟨S, hS⟩ : ∃ S, coverL rs rule c r = S := ⟨_, rfl⟩
  rw [hS]
  have HS : Hid (((cnt (smpS rs rule c r) 4 0 : Nat) : Int) = S) := Lib.hid hS
  have H := Lib.hid h
  have Hv := Lib.hid hv
  obtain ⟨c1, c2⟩ := hc
  obtain ⟨r1, r2⟩ := hr
  clear h hv hS
  go_enter Tryz.func104, Tryz.ntmps104
  go_wp2_with fail
  go_loopw [9, 10, 11] (fun n i _ wr => ∃ (a m : Nat), a ≤ 4 ∧ i = .int .i64 a ∧ n = .int .i64 (m : Int) ∧ m = cnt (smpS rs rule c r) a 0 ∧ Ext w wr) (fun _ i _ _ => 4 - (intOf i).toNat)
  case atStart => exact ⟨0, 0, by omega, rfl, rfl, rfl, Below.refl _ _⟩
  case round =>
    obtain ⟨a, m, ha, rfl, rfl, hm, hbw⟩ := hrel
    have E := Lib.hid hbw
    have Hm := Lib.hid hm
    clear hbw hm
    by_cases hlt : a < 4
    · obtain ⟨wo, hwo⟩ : ∃ wo : World, wo = wr := ⟨_, rfl⟩
      subst hwo
      have hltI : decide ((a : Int) < 4) = true := by simp; omega
      go_wp2_with fail
      go_loopw [9, 11] (fun n i wr => ∃ (b m : Nat), b ≤ 4 ∧ i = .int .i64 b ∧ n = .int .i64 (m : Int) ∧ m = cnt (smpS rs rule c r) a b ∧ Ext w wr) (fun _ i _ => 4 - (intOf i).toNat)
      case atStart => exact ⟨0, m, by omega, rfl, rfl, Hm.out, E.out⟩
      case round =>
        obtain ⟨b, m2, hb, rfl, rfl, hm2, hbw⟩ := hrel
        clear E
        have E := Lib.hid hbw
        have hmb : m2 ≤ 4 * a + b := by rw [hm2]; exact cnt_bd _ _ _
        have Hm2 := Lib.hid hm2
        clear hbw hm2
        by_cases hlb : b < 4
        · have Hs := Lib.hid (cnt_succ (smpS rs rule c r) a b)
          have KW := Lib.hid (fun W (hW : Rgs W A rs) => c_swinding A cap rs (16 * c + 4 * (b : Int) + 2) (16 * r + 4 * (a : Int) + 2) W hW Hv.out (by omega) (by omega))
          have hwb := windL_bd Hv.out (16 * c + 4 * (b : Int) + 2) (16 * r + 4 * (a : Int) + 2)
          have Hsm : Hid (smpS rs rule c r a b = insB (windL rs (16 * c + 4 * (b : Int) + 2) (16 * r + 4 * (a : Int) + 2)) rule) := Lib.hid rfl
          generalize windL rs (16 * c + 4 * (b : Int) + 2) (16 * r + 4 * (a : Int) + 2) = n at *
          have KI := Lib.hid (fun W => c_sinside n rule W (by omega))
          rw [← Hsm.out] at KI
          generalize smpS rs rule c r a b = d at *
          go_wp2_with fail
          refine (KW.out _ (H.out.ext rgR_stab E.out)).mono ?_
          rintro e w2 ⟨rfl, hb⟩
          replace E := Lib.hid (Ext.trans E.out hb)
          clear hb
          go_wp2_with fail
          refine (KI.out _).mono ?_
          rintro e w' ⟨rfl, rfl⟩
          go_wp2_with fail
          refine (c_toInt d _).mono ?_
          rintro e w' ⟨rfl, rfl⟩
          cases d
          · go_wp2
            go_roundw
            case rel => exact ⟨b + 1, m2, by omega, by go_num, by simp, by rw [Hs.out, Hm2.out]; simp, E.out⟩
            case measure => simp [intOf]; omega
          · go_wp2
            go_roundw
            case rel => exact ⟨b + 1, m2 + 1, by omega, by go_num, by simp, by rw [Hs.out, Hm2.out]; simp, E.out⟩
            case measure => simp [intOf]; omega
        · have hb4 : b = 4 := by omega
          have Hr := Lib.hid (cnt_row (smpS rs rule c r) a)
          have Hm3 : Hid (m2 = cnt (smpS rs rule c r) (a + 1) 0) := Lib.hid (by rw [Hm2.out, hb4, Hr.out])
          clear hb4
          go_wp2
          go_roundw
          case rel => exact ⟨a + 1, m2, by omega, by go_num, rfl, Hm3.out, E.out⟩
          case measure => simp [intOf]; omega
    · have ha4 : a = 4 := by omega
      have Hf : Hid ((m : Int) = S) := Lib.hid (by rw [← HS.out, Hm.out, ha4])
      clear ha4
      go_wp2
      go_ret
      exact ⟨ret_i (by rw [Hf.out]), E.out⟩
set_option maxRecDepth 100000 in
set_option maxHeartbeats 2000000 in
theorem c_icover (A : Option Addr) (cap : Nat) (rs : List Rg) (rule c r : Int) (w : World) (h : Rgs w A rs) (hv : rgsB rs = true) (hc : -20 ≤ c ∧ c ≤ 20) (hr : -20 ≤ r ∧ r ≤ 20) :
    Calls Tryz.prog 123 #[.slice A rs.length cap, .int .i64 rule, .int .i64 c, .int .i64 r] w fun e w' => e = .returned (.int .i64 (coverL rs rule c r)) ∧ Below w.heap.size w w' := by
  obtain ⟨S, hS⟩ : ∃ S, coverL rs rule c r = S := ⟨_, rfl⟩
  rw [hS]
  have HS : Hid (((cnt (fun i k => smpS rs rule c r k i) 4 0 : Nat) : Int) = S) := Lib.hid (by rw [cnt_flip]; exact hS)
  have H := Lib.hid h
  have Hv := Lib.hid hv
  obtain ⟨c1, c2⟩ := hc
  obtain ⟨r1, r2⟩ := hr
  clear h hv hS
  go_enter Tryz.func123, Tryz.ntmps123
  go_wp2_with fail
  go_loopw [9, 10, 11, 12, 15] (fun n _ _ i _ wr => ∃ (a m : Nat), a ≤ 4 ∧ i = .int .i64 a ∧ n = .int .i64 (m : Int) ∧ m = cnt (fun i k => smpS rs rule c r k i) a 0 ∧ Ext w wr) (fun _ _ _ i _ _ => 4 - (intOf i).toNat)
  case atStart => exact ⟨0, 0, by omega, rfl, rfl, rfl, Below.refl _ _⟩
  case round =>
    obtain ⟨a, m, ha, rfl, rfl, hm, hbw⟩ := hrel
    have E := Lib.hid hbw
    have Hm := Lib.hid hm
    clear hbw hm
    by_cases hlt : a < 4
    · obtain ⟨wo, hwo⟩ : ∃ wo : World, wo = wr := ⟨_, rfl⟩
      subst hwo
      have hltI : decide ((a : Int) < 4) = true := by simp; omega
      go_wp2_with fail
      go_loopw [9, 11, 15] (fun n _ i wr => ∃ (b m : Nat), b ≤ 4 ∧ i = .int .i64 b ∧ n = .int .i64 (m : Int) ∧ m = cnt (fun i k => smpS rs rule c r k i) a b ∧ Ext w wr) (fun _ _ i _ => 4 - (intOf i).toNat)
      case atStart => exact ⟨0, m, by omega, rfl, rfl, Hm.out, E.out⟩
      case round =>
        obtain ⟨b, m2, hb, rfl, rfl, hm2, hbw⟩ := hrel
        clear E
        have E := Lib.hid hbw
        have hmb : m2 ≤ 4 * a + b := by rw [hm2]; exact cnt_bd _ _ _
        have Hm2 := Lib.hid hm2
        clear hbw hm2
        by_cases hlb : b < 4
        · have Hs := Lib.hid (cnt_succ (fun i k => smpS rs rule c r k i) a b)
          have ex : 4 * (c * 4 + (a : Int)) + 2 = 16 * c + 4 * (a : Int) + 2 := by omega
          have ey : 4 * (r * 4 + (b : Int)) + 2 = 16 * r + 4 * (b : Int) + 2 := by omega
          have KX := Lib.hid (fun W => c_sampleAt (c * 4 + (a : Int)) W (by omega))
          have KY := Lib.hid (fun W => c_sampleAt (r * 4 + (b : Int)) W (by omega))
          rw [ex] at KX
          rw [ey] at KY
          clear ex ey
          have KW := Lib.hid (fun W (hW : Rgs W A rs) => c_iwinding A cap rs (16 * c + 4 * (a : Int) + 2) (16 * r + 4 * (b : Int) + 2) W hW Hv.out (by omega) (by omega))
          have hwb := windL_bd Hv.out (16 * c + 4 * (a : Int) + 2) (16 * r + 4 * (b : Int) + 2)
          have Hsm : Hid (smpS rs rule c r b a = insB (windL rs (16 * c + 4 * (a : Int) + 2) (16 * r + 4 * (b : Int) + 2)) rule) := Lib.hid rfl
          generalize windL rs (16 * c + 4 * (a : Int) + 2) (16 * r + 4 * (b : Int) + 2) = n at *
          have KI := Lib.hid (fun W => c_iinside n rule W (by omega))
          rw [← Hsm.out] at KI
          try dsimp only at Hs
          generalize smpS rs rule c r b a = d at *
          go_wp2_with fail
          refine (KX.out _).mono ?_
          rintro e w' ⟨rfl, rfl⟩
          go_wp2_with fail
          refine (KY.out _).mono ?_
          rintro e w' ⟨rfl, rfl⟩
          go_wp2_with fail
          refine (KW.out _ (H.out.ext rgR_stab E.out)).mono ?_
          rintro e w2 ⟨rfl, hb⟩
          replace E := Lib.hid (Ext.trans E.out hb)
          clear hb
          go_wp2_with fail
          refine (KI.out _).mono ?_
          rintro e w' ⟨rfl, rfl⟩
          cases d
          · go_wp2
            go_roundw
            case rel => exact ⟨b + 1, m2, by omega, by go_num, by simp, by rw [Hs.out, Hm2.out]; simp, E.out⟩
            case measure => simp [intOf]; omega
          · go_wp2
            go_roundw
            case rel => exact ⟨b + 1, m2 + 1, by omega, by go_num, by simp, by rw [Hs.out, Hm2.out]; simp, E.out⟩
            case measure => simp [intOf]; omega
        · have hb4 : b = 4 := by omega
          have Hr := Lib.hid (cnt_row (fun i k => smpS rs rule c r k i) a)
          have Hm3 : Hid (m2 = cnt (fun i k => smpS rs rule c r k i) (a + 1) 0) := Lib.hid (by rw [Hm2.out, hb4, Hr.out])
          clear hb4
          go_wp2
          go_roundw
          case rel => exact ⟨a + 1, m2, by omega, by go_num, rfl, Hm3.out, E.out⟩
          case measure => simp [intOf]; omega
    · have ha4 : a = 4 := by omega
      have Hf : Hid ((m : Int) = S) := Lib.hid (by rw [← HS.out, Hm.out, ha4])
      clear ha4
      go_wp2
      go_ret
      exact ⟨ret_i (by rw [Hf.out]), E.out⟩
end Go.Proofs.YtagmnbphbakikaaGreat
