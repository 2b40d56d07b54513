/-
  Fills and scenes compared: the walks.
-/
import Derived.Test.YtagmnbphbakikaaGreatMg10
import Derived.Test.YtagmnbphbakikaaGreatPaintQ
import Derived.Test.YtagmnbphbakikaaGreatMg3
namespace Go.Proofs.YtagmnbphbakikaaGreat
open Go Go.RowKit Reg
attribute [local go_sem] calmAt calmUpon
set_option maxRecDepth 100000 in
set_option maxHeartbeats 4000000 in
theorem c_eqFill (A1 A3 : Option Addr) (c1 c3 : Nat) (x : FlD) (A2 A4 : Option Addr) (c2 c4 : Nat) (w : World) (h1 : VbK w A1 x.1) (h2 : Sts w A2 x.2.2.2.2) (h3 : VbK w A3 x.1) (h4 : Sts w A4 x.2.2.2.2) (hsm : flSm x) :
    Calls Tryz.prog 13 #[flV A1 x.1.length c1 x.2.1 x.2.2.1 x.2.2.2.1 A2 x.2.2.2.2.length c2, flV A3 x.1.length c3 x.2.1 x.2.2.1 x.2.2.2.1 A4 x.2.2.2.2.length c4] w fun e w' => e = .returned (.bool true) ∧ Below w.heap.size w w' := by
  obtain ⟨vs, q, f, t, ss⟩ := x
  obtain ⟨fx, fy⟩ := f
  obtain ⟨tx, ty⟩ := t
  obtain ⟨m1, _, m3, m4⟩ := hsm
  dsimp only at m1 m3 m4 h1 h2 h3 h4
  have P1 := Lib.hid h1.toV
  have P2 := Lib.hid h2
  have P3 := Lib.hid h3.toV
  have P4 := Lib.hid h4
  have E := Lib.hid (Below.refl w.heap.size w)
  have M3 : Hid (∀ v ∈ vs, v.2.length ≤ 1000000000000) := Lib.hid (fun v hv => by have := m3 v hv; omega)
  clear h1 h2 h3 h4 m3
  go_enter Tryz.func13, Tryz.ntmps13
  go_wp2_with fail
  first | refine gen_calls ?_ | refine gen_code ?_ | refine gen_list ?_
  intro w0 hW
  obtain ⟨hb, hR1, hR2⟩ := new2 hW
  clear hW
  replace E := Lib.hid (Ext.trans E.out hb)
  replace P1 := Lib.hid (P1.out.ext verbR_stab hb)
  replace P2 := Lib.hid (P2.out.ext stR_stab hb)
  replace P3 := Lib.hid (P3.out.ext verbR_stab hb)
  replace P4 := Lib.hid (P4.out.ext stR_stab hb)
  clear hb
  have R1 := Lib.hid hR1
  have lR1 := R1.out.lt
  clear hR1
  have R2 := Lib.hid hR2
  have lR2 := R2.out.lt
  clear hR2
  have k0 := R1.out.cell_of (i := 0) rfl
  have k1 := R1.out.cell_of (i := 1) rfl
  have k2 := R1.out.cell_of (i := 2) rfl
  have k3 := R1.out.cell_of (i := 3) rfl
  have k4 := R1.out.cell_of (i := 4) rfl
  have k5 := R1.out.cell_of (i := 5) rfl
  have k6 := R1.out.cell_of (i := 6) rfl
  have m0 := R2.out.cell_of (i := 0) rfl
  have m1 := R2.out.cell_of (i := 1) rfl
  have m2 := R2.out.cell_of (i := 2) rfl
  have m3 := R2.out.cell_of (i := 3) rfl
  have m4 := R2.out.cell_of (i := 4) rfl
  have m5 := R2.out.cell_of (i := 5) rfl
  have m6 := R2.out.cell_of (i := 6) rfl
  go_wp2_with fail
  clear k0 k1 k2 k3 k4 k5 k6 m0 m1 m2 m3 m4 m5 m6
  refine (c_eqVerbS A1 A3 _ _ vs vs _ P1.out P3.out (by omega) (by omega) M3.out M3.out).mono ?_
  rw [(decide_eq_true (rfl : vs = vs))]
  rintro e w1 ⟨rfl, hb⟩
  replace E := Lib.hid (Ext.trans E.out hb)
  replace P1 := Lib.hid (P1.out.ext verbR_stab hb)
  replace P2 := Lib.hid (P2.out.ext stR_stab hb)
  replace P3 := Lib.hid (P3.out.ext verbR_stab hb)
  replace P4 := Lib.hid (P4.out.ext stR_stab hb)
  replace R1 := Lib.hid (R1.out.ext hb)
  have lR1 := R1.out.lt
  replace R2 := Lib.hid (R2.out.ext hb)
  have lR2 := R2.out.lt
  clear hb
  have k0 := R1.out.cell_of (i := 0) rfl
  have k1 := R1.out.cell_of (i := 1) rfl
  have k2 := R1.out.cell_of (i := 2) rfl
  have k3 := R1.out.cell_of (i := 3) rfl
  have k4 := R1.out.cell_of (i := 4) rfl
  have k5 := R1.out.cell_of (i := 5) rfl
  have k6 := R1.out.cell_of (i := 6) rfl
  have m0 := R2.out.cell_of (i := 0) rfl
  have m1 := R2.out.cell_of (i := 1) rfl
  have m2 := R2.out.cell_of (i := 2) rfl
  have m3 := R2.out.cell_of (i := 3) rfl
  have m4 := R2.out.cell_of (i := 4) rfl
  have m5 := R2.out.cell_of (i := 5) rfl
  have m6 := R2.out.cell_of (i := 6) rfl
  go_wp2_with fail
  clear k0 k1 k2 k3 k4 k5 k6 m0 m1 m2 m3 m4 m5 m6
  refine (c_eqPaint (fx, fy) (tx, ty) A2 A4 _ _ ss _ P2.out P4.out m4).mono ?_
  rintro e w2 ⟨rfl, hb⟩
  replace E := Lib.hid (Ext.trans E.out hb)
  replace P1 := Lib.hid (P1.out.ext verbR_stab hb)
  replace P2 := Lib.hid (P2.out.ext stR_stab hb)
  replace P3 := Lib.hid (P3.out.ext verbR_stab hb)
  replace P4 := Lib.hid (P4.out.ext stR_stab hb)
  replace R1 := Lib.hid (R1.out.ext hb)
  have lR1 := R1.out.lt
  replace R2 := Lib.hid (R2.out.ext hb)
  have lR2 := R2.out.lt
  clear hb
  have k0 := R1.out.cell_of (i := 0) rfl
  have k1 := R1.out.cell_of (i := 1) rfl
  have k2 := R1.out.cell_of (i := 2) rfl
  have k3 := R1.out.cell_of (i := 3) rfl
  have k4 := R1.out.cell_of (i := 4) rfl
  have k5 := R1.out.cell_of (i := 5) rfl
  have k6 := R1.out.cell_of (i := 6) rfl
  have m0 := R2.out.cell_of (i := 0) rfl
  have m1 := R2.out.cell_of (i := 1) rfl
  have m2 := R2.out.cell_of (i := 2) rfl
  have m3 := R2.out.cell_of (i := 3) rfl
  have m4 := R2.out.cell_of (i := 4) rfl
  have m5 := R2.out.cell_of (i := 5) rfl
  have m6 := R2.out.cell_of (i := 6) rfl
  go_wp2
  go_ret
  exact ⟨rfl, E.out⟩
set_option maxRecDepth 100000 in
set_option maxHeartbeats 4000000 in
theorem c_eqFillS (A1 A2 : Option Addr) (cap1 cap2 : Nat) (fs : List FlD) (w : World) (h1 : Fls w A1 fs) (h2 : Fls w A2 fs) (hsm : flsSm fs) :
    Calls Tryz.prog 43 #[.slice A1 fs.length cap1, .slice A2 fs.length cap2] w fun e w' => e = .returned (.bool true) ∧ Below w.heap.size w w' := by
  obtain ⟨hl, hsm2⟩ := hsm
  have H := Lib.hid h1
  have H2 := Lib.hid h2
  have Hsm := Lib.hid hsm2
  clear h1 h2 hsm2
  go_enter Tryz.func43, Tryz.ntmps43
  go_wp2_with fail
  go_loopw [5] (fun i wr => ∃ k : Nat, k ≤ fs.length ∧ i = .int .i64 k ∧ Ext w wr) (fun i _ => fs.length - (intOf i).toNat)
  case atStart => exact ⟨0, Nat.zero_le _, rfl, Below.refl _ _⟩
  case round =>
    obtain ⟨k, hk, rfl, hbw⟩ := hrel
    have E := Lib.hid hbw
    clear hbw
    by_cases hlt : k < fs.length
    · obtain ⟨b, off, hA, _, hc⟩ := (H.out.ext flR_stab E.out).fls (by omega)
      obtain ⟨A3, c3, A4, c4, hp, x0, x1, x2, x3, x4, x5, x6⟩ := hc k hlt
      obtain ⟨b', off', hA', _, hc'⟩ := (H2.out.ext flR_stab E.out).fls (by omega)
      obtain ⟨A5, c5, A6, c6, hp', y0, y1, y2, y3, y4, y5, y6⟩ := hc' k hlt
      have hkI : (k : Int) < (fs.length : Int) := by omega
      have hkI2 : decide ((k : Int) < (fs.length : Int)) = true := by simp; omega
      have hkI3 : (0 : Int) ≤ (k : Int) := by omega
      have hs := Hsm.out _ (List.getElem_mem hlt)
      have Hs := Lib.hid hs
      have Hp := Lib.hid hp
      have Hp' := Lib.hid hp'
      clear hc hc' hp hp' hs
      subst hA hA'
      generalize fs[k] = x at *
      have X0 := Lib.hid x0; have X1 := Lib.hid x1; have X2 := Lib.hid x2; have X3 := Lib.hid x3; have X4 := Lib.hid x4; have X5 := Lib.hid x5; have X6 := Lib.hid x6
      have Y0 := Lib.hid y0; have Y1 := Lib.hid y1; have Y2 := Lib.hid y2; have Y3 := Lib.hid y3; have Y4 := Lib.hid y4; have Y5 := Lib.hid y5; have Y6 := Lib.hid y6
      have P1 := Lib.hid Hp.out.1
      have P2 := Lib.hid Hp.out.2.2.1
      have P3 := Lib.hid Hp'.out.1
      have P4 := Lib.hid Hp'.out.2.2.1
      clear x0 x1 x2 x3 x4 x5 x6 y0 y1 y2 y3 y4 y5 y6
      have cX0 := X0.out
      have cX1 := X1.out
      have cX2 := X2.out
      have cX3 := X3.out
      have cX4 := X4.out
      have cX5 := X5.out
      have cX6 := X6.out
      have cY0 := Y0.out
      have cY1 := Y1.out
      have cY2 := Y2.out
      have cY3 := Y3.out
      have cY4 := Y4.out
      have cY5 := Y5.out
      have cY6 := Y6.out
      go_wp2_with fail
      refine wp_region_calm [0,1,2,3,4,5,6,7,8,9] [] (by kernel_rfl) (by kernel_rfl) ?_
      (refine calm_yes rfl rfl (fun w' hC => (by have cX0 := hC.cell cX0; have cX1 := hC.cell cX1; have cX2 := hC.cell cX2; have cX3 := hC.cell cX3; have cX4 := hC.cell cX4; have cX5 := hC.cell cX5; have cX6 := hC.cell cX6; have cY0 := hC.cell cY0; have cY1 := hC.cell cY1; have cY2 := hC.cell cY2; have cY3 := hC.cell cY3; have cY4 := hC.cell cY4; have cY5 := hC.cell cY5; have cY6 := hC.cell cY6; go_simp; rfl)) (fun K hK => ?_); go_simp; refine hK _ ?_; clear hK K)
      (refine calm_yes rfl rfl (fun w' hC => (by have cX0 := hC.cell cX0; have cX1 := hC.cell cX1; have cX2 := hC.cell cX2; have cX3 := hC.cell cX3; have cX4 := hC.cell cX4; have cX5 := hC.cell cX5; have cX6 := hC.cell cX6; have cY0 := hC.cell cY0; have cY1 := hC.cell cY1; have cY2 := hC.cell cY2; have cY3 := hC.cell cY3; have cY4 := hC.cell cY4; have cY5 := hC.cell cY5; have cY6 := hC.cell cY6; go_simp; rfl)) (fun K hK => ?_); go_simp; refine hK _ ?_; clear hK K)
      (refine calm_yes rfl rfl (fun w' hC => (by have cX0 := hC.cell cX0; have cX1 := hC.cell cX1; have cX2 := hC.cell cX2; have cX3 := hC.cell cX3; have cX4 := hC.cell cX4; have cX5 := hC.cell cX5; have cX6 := hC.cell cX6; have cY0 := hC.cell cY0; have cY1 := hC.cell cY1; have cY2 := hC.cell cY2; have cY3 := hC.cell cY3; have cY4 := hC.cell cY4; have cY5 := hC.cell cY5; have cY6 := hC.cell cY6; go_simp; rfl)) (fun K hK => ?_); go_simp; refine hK _ ?_; clear hK K)
      (refine calm_yes rfl rfl (fun w' hC => (by have cX0 := hC.cell cX0; have cX1 := hC.cell cX1; have cX2 := hC.cell cX2; have cX3 := hC.cell cX3; have cX4 := hC.cell cX4; have cX5 := hC.cell cX5; have cX6 := hC.cell cX6; have cY0 := hC.cell cY0; have cY1 := hC.cell cY1; have cY2 := hC.cell cY2; have cY3 := hC.cell cY3; have cY4 := hC.cell cY4; have cY5 := hC.cell cY5; have cY6 := hC.cell cY6; go_simp; rfl)) (fun K hK => ?_); go_simp; refine hK _ ?_; clear hK K)
      (refine calm_yes rfl rfl (fun w' hC => (by have cX0 := hC.cell cX0; have cX1 := hC.cell cX1; have cX2 := hC.cell cX2; have cX3 := hC.cell cX3; have cX4 := hC.cell cX4; have cX5 := hC.cell cX5; have cX6 := hC.cell cX6; have cY0 := hC.cell cY0; have cY1 := hC.cell cY1; have cY2 := hC.cell cY2; have cY3 := hC.cell cY3; have cY4 := hC.cell cY4; have cY5 := hC.cell cY5; have cY6 := hC.cell cY6; go_simp; rfl)) (fun K hK => ?_); go_simp; refine hK _ ?_; clear hK K)
      (refine calm_yes rfl rfl (fun w' hC => (by have cX0 := hC.cell cX0; have cX1 := hC.cell cX1; have cX2 := hC.cell cX2; have cX3 := hC.cell cX3; have cX4 := hC.cell cX4; have cX5 := hC.cell cX5; have cX6 := hC.cell cX6; have cY0 := hC.cell cY0; have cY1 := hC.cell cY1; have cY2 := hC.cell cY2; have cY3 := hC.cell cY3; have cY4 := hC.cell cY4; have cY5 := hC.cell cY5; have cY6 := hC.cell cY6; go_simp; rfl)) (fun K hK => ?_); go_simp; refine hK _ ?_; clear hK K)
      (refine calm_yes rfl rfl (fun w' hC => (by have cX0 := hC.cell cX0; have cX1 := hC.cell cX1; have cX2 := hC.cell cX2; have cX3 := hC.cell cX3; have cX4 := hC.cell cX4; have cX5 := hC.cell cX5; have cX6 := hC.cell cX6; have cY0 := hC.cell cY0; have cY1 := hC.cell cY1; have cY2 := hC.cell cY2; have cY3 := hC.cell cY3; have cY4 := hC.cell cY4; have cY5 := hC.cell cY5; have cY6 := hC.cell cY6; go_simp; rfl)) (fun K hK => ?_); go_simp; refine hK _ ?_; clear hK K)
      (refine calm_yes rfl rfl (fun w' hC => (by have cX0 := hC.cell cX0; have cX1 := hC.cell cX1; have cX2 := hC.cell cX2; have cX3 := hC.cell cX3; have cX4 := hC.cell cX4; have cX5 := hC.cell cX5; have cX6 := hC.cell cX6; have cY0 := hC.cell cY0; have cY1 := hC.cell cY1; have cY2 := hC.cell cY2; have cY3 := hC.cell cY3; have cY4 := hC.cell cY4; have cY5 := hC.cell cY5; have cY6 := hC.cell cY6; go_simp; rfl)) (fun K hK => ?_); go_simp; refine hK _ ?_; clear hK K)
      (apply calm_call rfl rfl rfl Tryz.func13 (by kernel_rfl) rfl (by go_simp; rfl); exact (fun w' hC => c_eqFill A3 A5 c3 c5 x A4 A6 c4 c6 w' (P1.out.ext verbK_stab (ext_cls hC)) (P2.out.ext stR_stab (ext_cls hC)) (P3.out.ext verbK_stab (ext_cls hC)) (P4.out.ext stR_stab (ext_cls hC)) Hs.out); intro K hK; go_simp; refine hK _ ?_; clear hK K)
      (refine calm_yes rfl rfl (fun w' hC => (by have cX0 := hC.cell cX0; have cX1 := hC.cell cX1; have cX2 := hC.cell cX2; have cX3 := hC.cell cX3; have cX4 := hC.cell cX4; have cX5 := hC.cell cX5; have cX6 := hC.cell cX6; have cY0 := hC.cell cY0; have cY1 := hC.cell cY1; have cY2 := hC.cell cY2; have cY3 := hC.cell cY3; have cY4 := hC.cell cY4; have cY5 := hC.cell cY5; have cY6 := hC.cell cY6; go_simp; rfl)) (fun K hK => ?_); go_simp; refine hK _ ?_; clear hK K)
      refine calm_done (fun w3 hb => ?_)
      clear cX0 cX1 cX2 cX3 cX4 cX5 cX6 cY0 cY1 cY2 cY3 cY4 cY5 cY6
      replace E := Lib.hid (Ext.trans E.out hb)
      replace P1 := Lib.hid (P1.out.ext verbK_stab hb)
      replace P2 := Lib.hid (P2.out.ext stR_stab hb)
      replace P3 := Lib.hid (P3.out.ext verbK_stab hb)
      replace P4 := Lib.hid (P4.out.ext stR_stab hb)
      replace X0 := Lib.hid (Cls.cell hb X0.out)
      replace X1 := Lib.hid (Cls.cell hb X1.out)
      replace X2 := Lib.hid (Cls.cell hb X2.out)
      replace X3 := Lib.hid (Cls.cell hb X3.out)
      replace X4 := Lib.hid (Cls.cell hb X4.out)
      replace X5 := Lib.hid (Cls.cell hb X5.out)
      replace X6 := Lib.hid (Cls.cell hb X6.out)
      replace Y0 := Lib.hid (Cls.cell hb Y0.out)
      replace Y1 := Lib.hid (Cls.cell hb Y1.out)
      replace Y2 := Lib.hid (Cls.cell hb Y2.out)
      replace Y3 := Lib.hid (Cls.cell hb Y3.out)
      replace Y4 := Lib.hid (Cls.cell hb Y4.out)
      replace Y5 := Lib.hid (Cls.cell hb Y5.out)
      replace Y6 := Lib.hid (Cls.cell hb Y6.out)
      clear hb
      have cX0 := X0.out
      have cX1 := X1.out
      have cX2 := X2.out
      have cX3 := X3.out
      have cX4 := X4.out
      have cX5 := X5.out
      have cX6 := X6.out
      have cY0 := Y0.out
      have cY1 := Y1.out
      have cY2 := Y2.out
      have cY3 := Y3.out
      have cY4 := Y4.out
      have cY5 := Y5.out
      have cY6 := Y6.out
      go_wp2
      go_roundw
      case rel => exact ⟨k + 1, by omega, by go_num, E.out⟩
      case measure => simp [intOf]; omega
    · have hge : decide ((k : Int) < (fs.length : Int)) = false := by simp; omega
      go_wp2
      go_ret
      exact ⟨rfl, E.out⟩
set_option maxRecDepth 100000 in
set_option maxHeartbeats 4000000 in
theorem c_eqScene (W H : Int) (A1 A2 : Option Addr) (cap1 cap2 : Nat) (fs : List FlD) (w : World) (h1 : Fls w A1 fs) (h2 : Fls w A2 fs) (hsm : flsSm fs) :
    Calls Tryz.prog 12 #[.agg #[.int .i64 W, .int .i64 H, .slice A1 fs.length cap1], .agg #[.int .i64 W, .int .i64 H, .slice A2 fs.length cap2]] w fun e w' => e = .returned (.bool true) ∧ Below w.heap.size w w' := by
  have P1 := Lib.hid h1
  have P2 := Lib.hid h2
  have E := Lib.hid (Below.refl w.heap.size w)
  clear h1 h2
  go_enter Tryz.func12, Tryz.ntmps12
  go_wp2_with fail
  first | refine gen_calls ?_ | refine gen_code ?_ | refine gen_list ?_
  intro w0 hW
  obtain ⟨hb, hR1, hR2⟩ := new2 hW
  clear hW
  replace E := Lib.hid (Ext.trans E.out hb)
  replace P1 := Lib.hid (P1.out.ext flR_stab hb)
  replace P2 := Lib.hid (P2.out.ext flR_stab hb)
  clear hb
  have R1 := Lib.hid hR1
  have lR1 := R1.out.lt
  clear hR1
  have R2 := Lib.hid hR2
  have lR2 := R2.out.lt
  clear hR2
  have k0 := R1.out.cell_of (i := 0) rfl
  have k1 := R1.out.cell_of (i := 1) rfl
  have k2 := R1.out.cell_of (i := 2) rfl
  have m0 := R2.out.cell_of (i := 0) rfl
  have m1 := R2.out.cell_of (i := 1) rfl
  have m2 := R2.out.cell_of (i := 2) rfl
  go_wp2_with fail
  clear k0 k1 k2 m0 m1 m2
  refine (c_eqFillS A1 A2 _ _ fs _ P1.out P2.out hsm).mono ?_
  rintro e w1 ⟨rfl, hb⟩
  replace E := Lib.hid (Ext.trans E.out hb)
  replace P1 := Lib.hid (P1.out.ext flR_stab hb)
  replace P2 := Lib.hid (P2.out.ext flR_stab hb)
  replace R1 := Lib.hid (R1.out.ext hb)
  have lR1 := R1.out.lt
  replace R2 := Lib.hid (R2.out.ext hb)
  have lR2 := R2.out.lt
  clear hb
  have k0 := R1.out.cell_of (i := 0) rfl
  have k1 := R1.out.cell_of (i := 1) rfl
  have k2 := R1.out.cell_of (i := 2) rfl
  have m0 := R2.out.cell_of (i := 0) rfl
  have m1 := R2.out.cell_of (i := 1) rfl
  have m2 := R2.out.cell_of (i := 2) rfl
  go_wp2
  go_ret
  exact ⟨rfl, E.out⟩
end Go.Proofs.YtagmnbphbakikaaGreat
