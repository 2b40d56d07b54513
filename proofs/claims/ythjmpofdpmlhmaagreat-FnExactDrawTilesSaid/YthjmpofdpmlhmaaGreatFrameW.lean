/-
  Pictures copied, compared, marked; which are valid: the walks.
-/
import Derived.Test.YthjmpofdpmlhmaaGreatFrameL
import Derived.Test.YthjmpofdpmlhmaaGreatDrawW
import Derived.Test.YthjmpofdpmlhmaaGreatMg10
import Derived.Test.YthjmpofdpmlhmaaGreatMg11
import Derived.Test.YthjmpofdpmlhmaaGreatQuad
namespace Go.Proofs.YthjmpofdpmlhmaaGreat
open Go Go.RowKit Reg
attribute [local go_sem] calmAt calmUpon
/-- A picture. -/
abbrev frV (W H : Int) (A : Option Addr) (n cap : Nat) : Value := .agg #[.int .i64 W, .int .i64 H, .slice A n cap]
set_option maxHeartbeats 400000 in
theorem c_szColorS (A : Option Addr) (n cap : Nat) (left : Int) (w : World) (h0 : 0 ≤ left) (h1 : left ≤ 4611686018427387904) (hn : n ≤ 9223372036854775807) :
    Calls Tryz.prog 21 #[.slice A n cap, .int .i64 left] w fun e w' => e = .returned (.int .i64 (if left - n < 0 then -1 else left - n)) ∧ w = w' := by
  by_cases h : left - n < 0
  all_goals
    go_enter Tryz.func21, Tryz.ntmps21
    go_wp2
    go_ret
    exact ⟨ret_i (by simp), rfl⟩
set_option maxHeartbeats 1000000 in
theorem c_szFrame (W H : Int) (A : Option Addr) (n cap : Nat) (left : Int) (w : World) (h0 : 0 ≤ left) (h1 : left ≤ 1048576) (hn : n ≤ 9223372036854775807) :
    Calls Tryz.prog 5 #[frV W H A n cap, .int .i64 left] w fun e w' => ∃ m : Int, e = .returned (.int .i64 m) ∧ (0 ≤ m → m = left - n) ∧ Below w.heap.size w w' := by
  have E := Lib.hid (Below.refl w.heap.size w)
  have KS := Lib.hid (fun Wd => c_szColorS A n cap left Wd h0 (by omega) hn)
  obtain ⟨m, hm⟩ : ∃ m, (if left - n < 0 then -1 else left - (n : Int)) = m := ⟨_, rfl⟩
  rw [hm] at KS
  have Hm := Lib.hid hm
  clear hm
  go_enter Tryz.func5, Tryz.ntmps5
  go_wp2_with fail
  first | refine gen_calls ?_ | refine gen_code ?_ | refine gen_list ?_
  intro w0 hW
  obtain ⟨hb, hR0⟩ := new1 hW
  clear hW
  replace E := Lib.hid (Ext.trans E.out hb)
  clear hb
  have R0 := Lib.hid hR0
  have lR0 := R0.out.lt
  clear hR0
  have c0 := R0.out.cell_of (i := 0) rfl
  have c1 := R0.out.cell_of (i := 1) rfl
  have c2 := R0.out.cell_of (i := 2) rfl
  go_wp2_with fail
  refine (KS.out _).mono ?_
  rintro e w' ⟨rfl, rfl⟩
  by_cases hneg : m < 0
  · go_wp2
    go_ret
    exact ⟨-1, rfl, fun h => by omega, E.out⟩
  · go_wp2
    go_ret
    refine ⟨m, rfl, fun h => ?_, E.out⟩
    have := Hm.out
    split at this <;> omega
set_option maxRecDepth 100000 in
set_option maxHeartbeats 2000000 in
theorem c_toColorS (A : Option Addr) (cap : Nat) (ss : List Bx4) (w : World) (h : Cos w A ss) (hl : ss.length ≤ 1048576) :
    Calls Tryz.prog 28 #[.slice A ss.length cap] w fun e w' => ∃ b, e = .returned (.slice (some ⟨b, 0, none⟩) ss.length ss.length) ∧ w.heap.size ≤ b ∧ Row w' b 63 (ss.flatMap bxC) ∧ Below w.heap.size w w' := by
  have hmk := fun W => run_make_fill ei_co bxC ss (by omega) W
  have H := Lib.hid h
  clear h
  go_enter Tryz.func28, Tryz.ntmps28
  go_wp2_with fail
  go_loopw [4] (fun i wr => ∃ k : Nat, k ≤ ss.length ∧ i = .int .i64 k ∧ Row wr w.heap.size 63 (fillC bxC [.int .i64 0, .int .i64 0, .int .i64 0, .int .i64 0] ss k) ∧ Below w.heap.size w wr) (fun i _ => ss.length - (intOf i).toNat)
  case atStart => exact ⟨0, Nat.zero_le _, rfl, Row.new _ _ _, ext_alloc _ _⟩
  case round =>
    obtain ⟨k, hk, rfl, hr, hbw⟩ := hrel
    have R := Lib.hid hr
    have E := Lib.hid hbw
    clear hmk hr hbw
    by_cases hlt : k < ss.length
    · obtain ⟨b, off, hA, _hb, hc⟩ := (H.out.ext coR_stab E.out).cos (by omega)
      subst hA
      obtain ⟨x0, x1, x2, x3⟩ := hc k hlt
      have Hn : Hid (setAll (fillC bxC [.int .i64 0, .int .i64 0, .int .i64 0, .int .i64 0] ss k) (k * 4) (bxC ss[k]) = fillC bxC [.int .i64 0, .int .i64 0, .int .i64 0, .int .i64 0] ss (k + 1)) := Lib.hid (fillC_set bxC_len rfl hlt)
      have z0 := fillC_get (enc := bxC) (z := [.int .i64 0, .int .i64 0, .int .i64 0, .int .i64 0]) (j := 0) bxC_len rfl hlt (by decide)
      have z1 := fillC_get (enc := bxC) (z := [.int .i64 0, .int .i64 0, .int .i64 0, .int .i64 0]) (j := 1) bxC_len rfl hlt (by decide)
      have z2 := fillC_get (enc := bxC) (z := [.int .i64 0, .int .i64 0, .int .i64 0, .int .i64 0]) (j := 2) bxC_len rfl hlt (by decide)
      have z3 := fillC_get (enc := bxC) (z := [.int .i64 0, .int .i64 0, .int .i64 0, .int .i64 0]) (j := 3) bxC_len rfl hlt (by decide)
      generalize fillC bxC [.int .i64 0, .int .i64 0, .int .i64 0, .int .i64 0] ss k = cs at *
      generalize ss[k] = s at *
      clear hc
      go_wp2_with fail
      refine (c_toColor s _).mono ?_
      rintro e w1 ⟨rfl, hb1⟩
      have R1 := Lib.hid (R.out.ext hb1)
      have E1 := Lib.hid (Ext.trans E.out hb1)
      have y0 := R1.out.cell_of (i := k * 4) z0
      have y1 := R1.out.cell_of (i := k * 4 + 1) z1
      have y2 := R1.out.cell_of (i := k * 4 + 2) z2
      have y3 := R1.out.cell_of (i := k * 4 + 3) z3
      have f0 := R1.out.frozen (k * 4)
      have f1 := R1.out.frozen (k * 4 + 1)
      have f2 := R1.out.frozen (k * 4 + 2)
      have f3 := R1.out.frozen (k * 4 + 3)
      have R2 : Hid (Row ((((w1.setCell ⟨w.heap.size, k * 4, none⟩ (.int .i64 s.1)).setCell ⟨w.heap.size, k * 4 + 1, none⟩ (.int .i64 s.2.1)).setCell ⟨w.heap.size, k * 4 + 2, none⟩ (.int .i64 s.2.2.1)).setCell ⟨w.heap.size, k * 4 + 3, none⟩ (.int .i64 s.2.2.2)) w.heap.size 63 (fillC bxC [.int .i64 0, .int .i64 0, .int .i64 0, .int .i64 0] ss (k + 1))) := Lib.hid (by
        rw [← Hn.out]
        exact (((R1.out.set_ (k * 4) _).set_ (k * 4 + 1) _).set_ (k * 4 + 2) _).set_ (k * 4 + 3) _)
      clear hb1 z0 z1 z2 z3
      go_wp2
      go_roundw
      case rel => exact ⟨k + 1, by omega, by go_num, R2.out, (((E1.out.setCell (Nat.le_refl _) _).setCell (Nat.le_refl _) _).setCell (Nat.le_refl _) _).setCell (Nat.le_refl _) _⟩
      case measure => simp [intOf]; omega
    · obtain rfl : k = ss.length := by omega
      have R2 : Hid (Row wr w.heap.size 63 (ss.flatMap bxC)) := Lib.hid (by have := R.out; rw [fillC_all] at this; exact this)
      go_wp2
      go_ret
      exact ⟨_, rfl, Nat.le_refl _, R2.out, E.out⟩
theorem cos_row {w : World} {b : Nat} {e : TypeId} {ss : List Bx4} (h : Row w b e (ss.flatMap bxC)) : Cos w (some ⟨b, 0, none⟩) ss := Row.in_ (rest := []) (enc := bxC) bxC_len (by simpa using h) (fun _ _ => rfl)
set_option maxRecDepth 100000 in
set_option maxHeartbeats 4000000 in
theorem c_toFrame (W H : Int) (A : Option Addr) (cap : Nat) (cs : List Bx4) (w : World) (h : Cos w A cs) (hl : cs.length ≤ 1048576) :
    Calls Tryz.prog 8 #[frV W H A cs.length cap] w fun e w' => ∃ b, e = .returned (frV W H (some ⟨b, 0, none⟩) cs.length cs.length) ∧ w.heap.size ≤ b ∧ Row w' b 63 (cs.flatMap bxC) ∧ Below w.heap.size w w' := by
  have HW := Lib.hid h
  have E := Lib.hid (Below.refl w.heap.size w)
  clear h
  go_enter Tryz.func8, Tryz.ntmps8
  go_wp2_with fail
  first | refine gen_calls ?_ | refine gen_code ?_ | refine gen_list ?_
  intro w0 hW
  obtain ⟨hb, hR1, hR2, hR3⟩ := new3 hW
  clear hW
  replace E := Lib.hid (Ext.trans E.out hb)
  clear hb
  have R1 := Lib.hid hR1
  have lR1 := R1.out.lt
  clear hR1
  have R2 := Lib.hid hR2
  have lR2 := R2.out.lt
  clear hR2
  have R3 := Lib.hid hR3
  have lR3 := R3.out.lt
  clear hR3
  have hl0 := R3.out.lt
  refine (c_toColorS A cap cs w0 (HW.out.ext coR_stab E.out) hl).mono ?_
  rintro e w1 ⟨b, rfl, hb0, hr, hb⟩
  replace E := Lib.hid (Ext.trans E.out hb)
  replace R1 := Lib.hid (R1.out.ext hb)
  have lR1 := R1.out.lt
  replace R2 := Lib.hid (R2.out.ext hb)
  have lR2 := R2.out.lt
  replace R3 := Lib.hid (R3.out.ext hb)
  have lR3 := R3.out.lt
  clear hb
  have RB := Lib.hid hr
  clear hr
  have d0 := R3.out.cell_of (i := 0) rfl
  have zd0 := R3.out.frozen 0
  have d1 := R3.out.cell_of (i := 1) rfl
  have zd1 := R3.out.frozen 1
  have d2 := R3.out.cell_of (i := 2) rfl
  have zd2 := R3.out.frozen 2
  have x0 := R2.out.cell_of (i := 0) rfl
  have zx0 := R2.out.frozen 0
  have x1 := R2.out.cell_of (i := 1) rfl
  have zx1 := R2.out.frozen 1
  have x2 := R2.out.cell_of (i := 2) rfl
  have zx2 := R2.out.frozen 2
  go_wp2
  clear d0 zd0 d1 zd1 d2 zd2 x0 zx0 x1 zx1 x2 zx2
  refine gen_post (fun Wd hW => ?_)
  obtain ⟨Wm, hWm⟩ : ∃ Wm, w1.setCell ⟨w.heap.size + 1 + 1, 2, none⟩ (.slice (some ⟨b, 0, none⟩) cs.length cs.length) = Wm := ⟨_, rfl⟩
  rw [hWm] at hW
  have hg1 : w1.grownBy Wm (some (w.heap.size + 1 + 1)) := by rw [← hWm]; exact set_grown w1 _ 2 _
  have hg2 : Wm.grownBy Wd (some (w.heap.size + 1)) := by rw [hW]; exact sets3 Wm _ 0 _ _ _
  have C2 := R2.out.keptG hg1 (by omega)
  have D2 : Row Wd (w.heap.size + 1) 32 [.int .i64 W, .int .i64 H, .slice (some ⟨b, 0, none⟩) cs.length cs.length] := by
    rw [hW]; exact ((C2.set_ 0 _).set_ 1 _).set_ 2 _
  have RB3 := (RB.out.keptG hg1 (by omega)).keptG hg2 (by omega)
  have E3 := below_set (below_set E.out hg1 (by omega) E.out.size) hg2 (by omega) (by have := hg1.size; have := E.out.size; omega)
  have y0 := D2.cell_of (i := 0) rfl
  have y1 := D2.cell_of (i := 1) rfl
  have y2 := D2.cell_of (i := 2) rfl
  exact bodyPost_ret (v := frV W H (some ⟨b, 0, none⟩) cs.length cs.length) (by simp [results, Tryz.results8, go_sem, y0, y1, y2]) rfl
    ⟨b, rfl, by omega, RB3, E3⟩
set_option maxRecDepth 100000 in
set_option maxHeartbeats 4000000 in
theorem c_eqFrame (W H : Int) (A1 A2 : Option Addr) (cap1 cap2 : Nat) (cs : List Bx4) (w : World) (h1 : Cos w A1 cs) (h2 : Cos w A2 cs) (hl : cs.length ≤ 1048576) :
    Calls Tryz.prog 11 #[frV W H A1 cs.length cap1, frV W H A2 cs.length cap2] w fun e w' => e = .returned (.bool true) ∧ Below w.heap.size w w' := by
  have P1 := Lib.hid h1
  have P2 := Lib.hid h2
  have E := Lib.hid (Below.refl w.heap.size w)
  clear h1 h2
  go_enter Tryz.func11, Tryz.ntmps11
  go_wp2_with fail
  first | refine gen_calls ?_ | refine gen_code ?_ | refine gen_list ?_
  intro w0 hW
  obtain ⟨hb, hR1, hR2⟩ := new2 hW
  clear hW
  replace E := Lib.hid (Ext.trans E.out hb)
  replace P1 := Lib.hid (P1.out.ext coR_stab hb)
  replace P2 := Lib.hid (P2.out.ext coR_stab hb)
  clear hb
  have R1 := Lib.hid hR1
  have lR1 := R1.out.lt
  clear hR1
  have R2 := Lib.hid hR2
  have lR2 := R2.out.lt
  clear hR2
  have k0 := R1.out.cell_of (i := 0) rfl
  have k1 := R1.out.cell_of (i := 1) rfl
  have k2 := R1.out.cell_of (i := 2) rfl
  have m0 := R2.out.cell_of (i := 0) rfl
  have m1 := R2.out.cell_of (i := 1) rfl
  have m2 := R2.out.cell_of (i := 2) rfl
  go_wp2_with fail
  clear k0 k1 k2 m0 m1 m2
  refine (c_eqColorS A1 A2 _ _ cs _ P1.out P2.out hl).mono ?_
  rintro e w1 ⟨rfl, hb⟩
  replace E := Lib.hid (Ext.trans E.out hb)
  replace P1 := Lib.hid (P1.out.ext coR_stab hb)
  replace P2 := Lib.hid (P2.out.ext coR_stab hb)
  replace R1 := Lib.hid (R1.out.ext hb)
  have lR1 := R1.out.lt
  replace R2 := Lib.hid (R2.out.ext hb)
  have lR2 := R2.out.lt
  clear hb
  have k0 := R1.out.cell_of (i := 0) rfl
  have k1 := R1.out.cell_of (i := 1) rfl
  have k2 := R1.out.cell_of (i := 2) rfl
  have m0 := R2.out.cell_of (i := 0) rfl
  have m1 := R2.out.cell_of (i := 1) rfl
  have m2 := R2.out.cell_of (i := 2) rfl
  go_wp2
  go_ret
  exact ⟨rfl, E.out⟩
set_option maxRecDepth 100000 in
set_option maxHeartbeats 4000000 in
theorem c_markFrame {w : World} {B : Nat} {A : Option Addr} {n cap : Nat} {xs : List Value} (W H : Int) (hown : Has w B 63 4 (.slice A n cap) n xs) (k : Int) (h0 : 0 ≤ k) (h1 : k ≤ 1000000000) (hn : n ≤ 1000000000) :
    Calls Tryz.prog 13 #[frV W H A n cap, .int .i64 k] w fun e w' => e = .returned (.int .i64 (k + 4 * n)) ∧ Has w' B 63 4 (.slice A n cap) n (mk k (4 * n)) ∧ w.grownBy w' (Value.slice A n cap).ownBlock := by
  have O := Lib.hid hown
  have E := Lib.hid (Below.refl w.heap.size w)
  clear hown
  go_enter Tryz.func13, Tryz.ntmps13
  go_wp2_with fail
  first | refine gen_calls ?_ | refine gen_code ?_ | refine gen_list ?_
  intro w0 hW
  obtain ⟨hb, hR0⟩ := new1 hW
  clear hW
  replace E := Lib.hid (Ext.trans E.out hb)
  replace O := Lib.hid (own_ext O.out hb)
  clear hb
  have R0 := Lib.hid hR0
  have lR0 := R0.out.lt
  clear hR0
  have c0 := R0.out.cell_of (i := 0) rfl
  have c1 := R0.out.cell_of (i := 1) rfl
  have c2 := R0.out.cell_of (i := 2) rfl
  go_wp2_with fail
  clear c0 c1 c2
  refine (c_markColorS O.out k h0 (by omega) hn).mono ?_
  rintro e w1 ⟨rfl, ho, hg⟩
  have O1 := Lib.hid ho
  have G := Lib.hid (only_trans (only_ext (only_refl w (Value.slice A n cap).ownBlock) E.out) hg)
  clear ho hg
  go_wp2
  go_ret
  exact ⟨rfl, O1.out, G.out⟩
set_option maxRecDepth 100000 in
set_option maxHeartbeats 4000000 in
theorem c_heldFrame {w : World} {B : Nat} {A : Option Addr} {n cap : Nat} (W H : Int) (k : Int) (hown : Has w B 63 4 (.slice A n cap) n (mk k (4 * n))) (h0 : 0 ≤ k) (h1 : k ≤ 1000000000) (hn : n ≤ 1000000000) :
    Calls Tryz.prog 15 #[frV W H A n cap, .int .i64 k] w fun e w' => e = .returned (.int .i64 (k + 4 * n)) ∧ Below w.heap.size w w' := by
  have O := Lib.hid hown
  have E := Lib.hid (Below.refl w.heap.size w)
  clear hown
  go_enter Tryz.func15, Tryz.ntmps15
  go_wp2_with fail
  first | refine gen_calls ?_ | refine gen_code ?_ | refine gen_list ?_
  intro w0 hW
  obtain ⟨hb, hR0⟩ := new1 hW
  clear hW
  replace E := Lib.hid (Ext.trans E.out hb)
  replace O := Lib.hid (own_ext O.out hb)
  clear hb
  have R0 := Lib.hid hR0
  have lR0 := R0.out.lt
  clear hR0
  have c0 := R0.out.cell_of (i := 0) rfl
  have c1 := R0.out.cell_of (i := 1) rfl
  have c2 := R0.out.cell_of (i := 2) rfl
  go_wp2_with fail
  clear c0 c1 c2
  refine (c_heldColorS k O.out h0 (by omega) hn).mono ?_
  rintro e w1 ⟨rfl, hb⟩
  replace E := Lib.hid (Ext.trans E.out hb)
  replace O := Lib.hid (own_ext O.out hb)
  replace R0 := Lib.hid (R0.out.ext hb)
  have lR0 := R0.out.lt
  clear hb
  have c0 := R0.out.cell_of (i := 0) rfl
  have c1 := R0.out.cell_of (i := 1) rfl
  have c2 := R0.out.cell_of (i := 2) rfl
  go_wp2
  go_ret
  exact ⟨rfl, E.out⟩
set_option maxRecDepth 100000 in
set_option maxHeartbeats 4000000 in
theorem c_fv1 (q : Bx4) (w : World) :
    Calls Tryz.prog 52 #[bx4V q] w fun e w' => e = .returned (.bool (!coB q)) ∧ Below w.heap.size w w' := by
  obtain ⟨q0, q1, q2, q3⟩ := q
  have KT := Lib.hid (fun Wd => c_ValidColor (q0, q1, q2, q3) Wd)
  generalize coB (q0, q1, q2, q3) = d at *
  have E := Lib.hid (Below.refl w.heap.size w)
  go_enter Tryz.func52, Tryz.ntmps52
  go_wp2_with fail
  first | refine gen_calls ?_ | refine gen_code ?_ | refine gen_list ?_
  intro w0 hW
  obtain ⟨hb, hR0⟩ := new1 hW
  clear hW
  replace E := Lib.hid (Ext.trans E.out hb)
  clear hb
  have R0 := Lib.hid hR0
  have lR0 := R0.out.lt
  clear hR0
  have k0 := R0.out.cell_of (i := 0) rfl
  have k1 := R0.out.cell_of (i := 1) rfl
  have k2 := R0.out.cell_of (i := 2) rfl
  have k3 := R0.out.cell_of (i := 3) rfl
  go_wp2_with fail
  clear k0 k1 k2 k3
  refine (KT.out _).mono ?_
  rintro e w1 ⟨rfl, hb⟩
  replace E := Lib.hid (Ext.trans E.out hb)
  replace R0 := Lib.hid (R0.out.ext hb)
  have lR0 := R0.out.lt
  clear hb
  have k0 := R0.out.cell_of (i := 0) rfl
  have k1 := R0.out.cell_of (i := 1) rfl
  have k2 := R0.out.cell_of (i := 2) rfl
  have k3 := R0.out.cell_of (i := 3) rfl
  go_wp2
  go_ret
  exact ⟨rfl, E.out⟩
set_option maxRecDepth 100000 in
set_option maxHeartbeats 4000000 in
theorem c_fvIndex (A : Option Addr) (cap : Nat) (fs : List Bx4) (w : World) (h : Cos w A fs) (hl : fs.length ≤ 1048576) :
    Calls Tryz.prog 78 #[.slice A fs.length cap, .func (.func 52) #[] #[]] w fun e w' => ∃ n : Int, e = .returned (.int .i64 n) ∧ (0 ≤ n ↔ fs.all coB = false) ∧ Below w.heap.size w w' := by
  have H := Lib.hid h
  clear h
  go_enter Tryz.func78, Tryz.ntmps78
  go_wp2
  go_loopw [5, 8] (fun _ i wr => ∃ k : Nat, k ≤ fs.length ∧ i = .int .i64 k ∧ (fs.take k).all coB = true ∧ Below w.heap.size w wr) (fun _ i _ => fs.length - (intOf i).toNat)
  case atStart => exact ⟨0, Nat.zero_le _, rfl, by simp, Below.refl _ _⟩
  case round =>
    obtain ⟨k, hk, rfl, hal, hbw⟩ := hrel
    have Hal := Lib.hid hal
    have E := Lib.hid hbw
    clear hal hbw
    by_cases hlt : k < fs.length
    · obtain ⟨b, off, hA, _, hc⟩ := (H.out.ext coR_stab E.out).cos (by omega)
      obtain ⟨x0, x1, x2, x3⟩ := hc k hlt
      have KT := Lib.hid (c_fv1 fs[k] wr)
      have Hy : Hid (coB fs[k] = true → (fs.take (k + 1)).all coB = true) := Lib.hid (fun h => all_take_succ Hal.out hlt h)
      have Hno : Hid (coB fs[k] = false → fs.all coB = false) := Lib.hid (fun h => all_false_of hlt h)
      have hkI : (k : Int) < (fs.length : Int) := by omega
      have hkI2 : decide ((k : Int) < (fs.length : Int)) = true := by simp; omega
      obtain ⟨d, hd⟩ : ∃ d, coB fs[k] = d := ⟨_, rfl⟩
      rw [hd] at KT Hy Hno
      clear hc hd
      subst hA
      generalize fs[k] = x at *
      go_wp2_with fail
      refine (KT.out).mono ?_
      rintro e w1 ⟨rfl, hb⟩
      replace E := Lib.hid (Ext.trans E.out hb)
      clear hb
      clear x0 x1 x2 x3
      cases d
      · have Hf := Lib.hid (Hno.out rfl)
        go_wp2
        go_ret
        exact ⟨k, rfl, by simp [Hf.out], E.out⟩
      · have Hf := Lib.hid (Hy.out rfl)
        go_wp2
        go_roundw
        case rel => exact ⟨k + 1, by omega, by go_num, Hf.out, E.out⟩
        case measure => simp [intOf]; omega
    · have hk' : k = fs.length := by omega
      have hall := Lib.hid (all_of_take Hal.out hk')
      have hge : decide ((k : Int) < (fs.length : Int)) = false := by simp; omega
      clear hk'
      go_wp2
      go_ret
      exact ⟨-1, rfl, by simp [hall.out], E.out⟩
set_option maxHeartbeats 400000 in
theorem c_fvContains (A : Option Addr) (cap : Nat) (fs : List Bx4) (w : World) (h : Cos w A fs) (hl : fs.length ≤ 1048576) :
    Calls Tryz.prog 51 #[.slice A fs.length cap, .func (.func 52) #[] #[]] w fun e w' => e = .returned (.bool (!fs.all coB)) ∧ Below w.heap.size w w' := by
  go_enter Tryz.func51, Tryz.ntmps51
  go_wp2_with (go_at_call 78; refine (c_fvIndex A cap fs _ h hl).mono ?_; rintro e w1 ⟨n, rfl, hn, hb1⟩)
  go_ret
  exact ⟨ret_bb (by rw [Bool.eq_iff_iff]; simpa using hn), hb1⟩
set_option maxRecDepth 100000 in
set_option maxHeartbeats 4000000 in
theorem c_iframeValid (W H : Int) (A : Option Addr) (cap : Nat) (cs : List Bx4) (w : World) (h : Cos w A cs) (hl : cs.length ≤ 1048576) :
    Calls Tryz.prog 30 #[frV W H A cs.length cap] w fun e w' => e = .returned (.bool (frB W H cs)) ∧ Below w.heap.size w w' := by
  have P := Lib.hid h
  have E := Lib.hid (Below.refl w.heap.size w)
  obtain ⟨d1, hd1⟩ : ∃ d, sizeB W H = d := ⟨_, rfl⟩
  obtain ⟨p, hp⟩ : ∃ p, W * H = p := ⟨_, rfl⟩
  have HR : Hid (frB W H cs = (d1 && (decide ((cs.length : Int) = p) && cs.all coB))) := Lib.hid (by unfold frB; rw [hd1, hp])
  have HP := Lib.hid hp
  rw [HR.out]
  have H1 := Lib.hid hd1
  clear h hd1 HR hp
  go_enter Tryz.func30, Tryz.ntmps30
  go_wp2_with fail
  first | refine gen_calls ?_ | refine gen_code ?_ | refine gen_list ?_
  intro w0 hW
  obtain ⟨hb, hR0⟩ := new1 hW
  clear hW
  replace E := Lib.hid (Ext.trans E.out hb)
  replace P := Lib.hid (P.out.ext coR_stab hb)
  clear hb
  have R0 := Lib.hid hR0
  have lR0 := R0.out.lt
  clear hR0
  have k0 := R0.out.cell_of (i := 0) rfl
  have k1 := R0.out.cell_of (i := 1) rfl
  have k2 := R0.out.cell_of (i := 2) rfl
  go_wp2_with fail
  refine (c_sizedF W H _).mono ?_
  rw [H1.out]
  rintro e w' ⟨rfl, rfl⟩
  cases d1
  · go_wp2
    go_ret
    exact ⟨rfl, E.out⟩
  · have hs := H1.out
    unfold sizeB at hs
    simp only [Bool.and_eq_true, inB_iff] at hs
    have hp := HP.out
    have hpb : 1 ≤ p ∧ p ≤ 144 := by rw [← hp]; exact mul_12 hs.1 hs.2
    have g1 : IntKind.i64.wrap (W * H) = p := by rw [hp]; exact IntWalk.i64_in _ (by omega)
    clear hs hp
    by_cases he : (cs.length : Int) = p
    · have hd : decide ((cs.length : Int) = p) = true := by simp [he]
      have hbq : ((cs.length : Int) == p) = true := by simp [he]
      clear he
      go_wp2_with fail
      clear k0 k1 k2
      refine (c_fvContains A cap cs _ P.out hl).mono ?_
      rintro e w1 ⟨rfl, hb⟩
      replace E := Lib.hid (Ext.trans E.out hb)
      replace P := Lib.hid (P.out.ext coR_stab hb)
      replace R0 := Lib.hid (R0.out.ext hb)
      have lR0 := R0.out.lt
      clear hb
      have k0 := R0.out.cell_of (i := 0) rfl
      have k1 := R0.out.cell_of (i := 1) rfl
      have k2 := R0.out.cell_of (i := 2) rfl
      go_wp2
      go_ret
      exact ⟨ret_bb (by simp [hd]), E.out⟩
    · have hd : decide ((cs.length : Int) = p) = false := by simp [he]
      have hbq : ((cs.length : Int) == p) = false := by simp [he]
      clear he
      go_wp2
      go_ret
      exact ⟨ret_bb (by simp [hd]), E.out⟩
set_option maxRecDepth 100000 in
set_option maxHeartbeats 4000000 in
theorem c_sframeValid (W H : Int) (A : Option Addr) (cap : Nat) (cs : List Bx4) (w : World) (h : Cos w A cs) (hl : cs.length ≤ 1048576) :
    Calls Tryz.prog 23 #[frV W H A cs.length cap] w fun e w' => e = .returned (.bool (frB W H cs)) ∧ Below w.heap.size w w' := by
  have PW := Lib.hid h
  have E := Lib.hid (Below.refl w.heap.size w)
  obtain ⟨d1, hd1⟩ : ∃ d, sizeB W H = d := ⟨_, rfl⟩
  have HR : Hid (frB W H cs = (d1 && (decide ((cs.length : Int) = W * H) && cs.all coB))) := Lib.hid (by unfold frB; rw [hd1])
  obtain ⟨M, hM⟩ : ∃ M, frB W H cs = M := ⟨_, rfl⟩
  rw [hM] at HR ⊢
  have H1 := Lib.hid hd1
  clear h hd1 hM
  go_enter Tryz.func23, Tryz.ntmps23
  go_wp2_with fail
  refine gen_code (fun w0 hW => ?_)
  obtain ⟨hb, hR0⟩ := new1 hW
  have E0 := Lib.hid (Ext.trans E.out hb)
  have R0 := Lib.hid hR0
  clear hW hb hR0
  go_loopw [3] (fun i wr => ∃ k : Nat, k ≤ cs.length ∧ i = .int .i64 k ∧ (cs.take k).all coB = true ∧ Ext w0 wr) (fun i _ => cs.length - (intOf i).toNat)
  case atStart => exact ⟨0, Nat.zero_le _, rfl, by simp, Below.refl _ _⟩
  case round =>
    obtain ⟨k, hk, rfl, hal, hbw⟩ := hrel
    have Hal := Lib.hid hal
    have X := Lib.hid (Ext.trans E0.out hbw)
    have Q := Lib.hid hbw
    have R := Lib.hid (R0.out.ext hbw)
    clear hal hbw
    have c0 := R.out.cell_of (i := 0) rfl
    have c1 := R.out.cell_of (i := 1) rfl
    have c2 := R.out.cell_of (i := 2) rfl
    by_cases hlt : k < cs.length
    · obtain ⟨b, off, hA, _, hc⟩ := (PW.out.ext coR_stab X.out).cos (by omega)
      obtain ⟨x0, x1, x2, x3⟩ := hc k hlt
      have KT := Lib.hid (c_validColor cs[k] wr)
      have Hy : Hid (coB cs[k] = true → (cs.take (k + 1)).all coB = true) := Lib.hid (fun h => all_take_succ Hal.out hlt h)
      have Hno : Hid (coB cs[k] = false → cs.all coB = false) := Lib.hid (fun h => all_false_of hlt h)
      have hkI : (k : Int) < (cs.length : Int) := by omega
      have hkI2 : decide ((k : Int) < (cs.length : Int)) = true := by simp; omega
      obtain ⟨d, hd⟩ : ∃ d, coB cs[k] = d := ⟨_, rfl⟩
      rw [hd] at KT Hy Hno
      clear hc hd
      subst hA
      generalize cs[k] = x at *
      go_wp2_with fail
      refine (KT.out).mono ?_
      rintro e w1 ⟨rfl, hb⟩
      replace X := Lib.hid (Ext.trans X.out hb)
      replace Q := Lib.hid (Ext.trans Q.out hb)
      clear hb
      clear x0 x1 x2 x3
      cases d
      · have Hf : Hid (M = false) := Lib.hid (by rw [HR.out, Hno.out rfl]; simp)
        go_wp2
        go_ret
        exact ⟨ret_bb Hf.out.symm, X.out⟩
      · have Hf := Lib.hid (Hy.out rfl)
        go_wp2
        go_roundw
        case rel => exact ⟨k + 1, by omega, by go_num, Hf.out, Q.out⟩
        case measure => simp [intOf]; omega
    · have hk' : k = cs.length := by omega
      have hall := Lib.hid (all_of_take Hal.out hk')
      have hge : decide ((k : Int) < (cs.length : Int)) = false := by simp; omega
      clear hk'
      have m0 := R.out.cell_of (i := 0) rfl
      have m1 := R.out.cell_of (i := 1) rfl
      have m2 := R.out.cell_of (i := 2) rfl
      clear c0 c1 c2
      go_wp2_with fail
      refine (c_validSizeF W H _).mono ?_
      rw [H1.out]
      rintro e w' ⟨rfl, rfl⟩
      cases d1
      · have Hf : Hid (M = false) := Lib.hid (by rw [HR.out]; simp)
        go_wp2
        go_ret
        exact ⟨ret_bb Hf.out.symm, X.out⟩
      · have hs := H1.out
        unfold sizeB at hs
        simp only [Bool.and_eq_true, inB_iff] at hs
        obtain ⟨p, hp⟩ : ∃ p, W * H = p := ⟨_, rfl⟩
        have hpb : 1 ≤ p ∧ p ≤ 144 := by rw [← hp]; exact mul_12 hs.1 hs.2
        have g1 : IntKind.i64.wrap (W * H) = p := by rw [hp]; exact IntWalk.i64_in _ (by omega)
        have Hf : Hid (M = decide ((cs.length : Int) = p)) := Lib.hid (by rw [HR.out, hall.out, hp]; simp)
        clear hs hp
        go_wp2
        go_ret
        exact ⟨ret_bb (by rw [Hf.out]; first | rfl | simp), X.out⟩
end Go.Proofs.YthjmpofdpmlhmaaGreat
