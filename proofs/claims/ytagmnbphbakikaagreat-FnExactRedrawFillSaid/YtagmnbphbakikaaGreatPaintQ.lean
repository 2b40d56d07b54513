/-
  Paints that are the same are found to be.
-/
import Derived.Test.YtagmnbphbakikaaGreatMg18
namespace Go.Proofs.YtagmnbphbakikaaGreat
open Go Go.RowKit Reg
attribute [local go_sem] Reg.calmAt Reg.calmUpon
set_option maxHeartbeats 1000000 in
theorem c_eqColor (b : Bx4) (w : World) : Calls Tryz.prog 84 #[bx4V b, bx4V b] w fun e w' => e = .returned (.bool true) ∧ Below w.heap.size w w' := by
  go_enter Tryz.func84, Tryz.ntmps84
  go_wp2
  go_ret
  exact ⟨rfl, (by repeat (first | exact Below.refl _ _ | assumption | refine Below.drew ?_ | refine Below.alloc ?_ (by first | exact Nat.le_refl _ | omega | (simp; done) | (simp; omega)) _ | refine Below.setCell ?_ (by first | exact Nat.le_refl _ | omega | (simp; done) | (simp; omega)) _))⟩
abbrev stV (s : St) : Value := .agg #[.int .i64 s.1, .int .i64 s.2.1, .int .i64 s.2.2.1, .int .i64 s.2.2.2.1, .int .i64 s.2.2.2.2]
set_option maxHeartbeats 1000000 in
theorem c_eqStop (s : St) (w : World) : Calls Tryz.prog 131 #[stV s, stV s] w fun e w' => e = .returned (.bool true) ∧ Below w.heap.size w w' := by
  go_enter Tryz.func131, Tryz.ntmps131
  go_wp2_with fail
  refine (c_eqColor s.2 _).mono ?_
  rintro e w1 ⟨rfl, hx⟩
  have E := Lib.hid (Ext.trans ((by repeat (first | exact Below.refl _ _ | assumption | refine Below.drew ?_ | refine Below.alloc ?_ (by first | exact Nat.le_refl _ | omega | (simp; done) | (simp; omega)) _ | refine Below.setCell ?_ (by first | exact Nat.le_refl _ | omega | (simp; done) | (simp; omega)) _)) : Below w.heap.size w _) hx)
  clear hx
  go_wp2
  go_ret
  exact ⟨rfl, E.out⟩
set_option maxRecDepth 100000 in
set_option maxHeartbeats 2000000 in
theorem c_eqStopS (A1 A2 : Option Addr) (cap1 cap2 : Nat) (ss : List St) (w : World) (h1 : Sts w A1 ss) (h2 : Sts w A2 ss) (hl : ss.length ≤ 1048576) :
    Calls Tryz.prog 87 #[.slice A1 ss.length cap1, .slice A2 ss.length cap2] w fun e w' => e = .returned (.bool true) ∧ Below w.heap.size w w' := by
  have H := Lib.hid h1
  have H2 := Lib.hid h2
  clear h1 h2
  go_enter Tryz.func87, Tryz.ntmps87
  go_wp2_with fail
  go_loopw [5] (fun i wr => ∃ (k : Nat), k ≤ ss.length ∧ i = .int .i64 k ∧ Ext w wr) (fun i _ => ss.length - (intOf i).toNat)
  case atStart => exact ⟨0, Nat.zero_le _, rfl, Below.refl _ _⟩
  case round =>
    obtain ⟨k, hk, rfl, hbw⟩ := hrel
    have E := Lib.hid hbw
    clear hbw
    by_cases hlt : k < ss.length
    · obtain ⟨b, off, hA, _, hc⟩ := (H.out.ext stR_stab E.out).sts (by omega)
      obtain ⟨b2, off2, hA2, _, hc2⟩ := (H2.out.ext stR_stab E.out).sts (by omega)
      obtain ⟨x0, x1, x2, x3, x4⟩ := hc k hlt
      obtain ⟨y0, y1, y2, y3, y4⟩ := hc2 k hlt
      have hkI : decide ((k : Int) < (ss.length : Int)) = true := by simp; omega
      have hkI2 : (k : Int) < (ss.length : Int) := by omega
      generalize ss[k] = s at *
      clear hc hc2
      have X0 := Lib.hid x0; have X1 := Lib.hid x1; have X2 := Lib.hid x2; have X3 := Lib.hid x3; have X4 := Lib.hid x4
      have Y0 := Lib.hid y0; have Y1 := Lib.hid y1; have Y2 := Lib.hid y2; have Y3 := Lib.hid y3; have Y4 := Lib.hid y4
      clear x0 x1 x2 x3 x4 y0 y1 y2 y3 y4
      have K := Lib.hid (fun W => c_eqStop s W)
      subst hA hA2
      have cX0 := X0.out
      have cX1 := X1.out
      have cX2 := X2.out
      have cX3 := X3.out
      have cX4 := X4.out
      have cY0 := Y0.out
      have cY1 := Y1.out
      have cY2 := Y2.out
      have cY3 := Y3.out
      have cY4 := Y4.out
      go_wp2_with fail
      refine wp_region_calm [0,1,2,3,4,5,6,7,8,9] [] (by kernel_rfl) (by kernel_rfl) ?_
      (refine calm_yes rfl rfl (fun w' hC => (by have cX0 := hC.cell cX0; have cX1 := hC.cell cX1; have cX2 := hC.cell cX2; have cX3 := hC.cell cX3; have cX4 := hC.cell cX4; have cY0 := hC.cell cY0; have cY1 := hC.cell cY1; have cY2 := hC.cell cY2; have cY3 := hC.cell cY3; have cY4 := hC.cell cY4; go_simp; rfl)) (fun K hK => ?_); go_simp; refine hK _ ?_; clear hK K)
      (refine calm_yes rfl rfl (fun w' hC => (by have cX0 := hC.cell cX0; have cX1 := hC.cell cX1; have cX2 := hC.cell cX2; have cX3 := hC.cell cX3; have cX4 := hC.cell cX4; have cY0 := hC.cell cY0; have cY1 := hC.cell cY1; have cY2 := hC.cell cY2; have cY3 := hC.cell cY3; have cY4 := hC.cell cY4; go_simp; rfl)) (fun K hK => ?_); go_simp; refine hK _ ?_; clear hK K)
      (refine calm_yes rfl rfl (fun w' hC => (by have cX0 := hC.cell cX0; have cX1 := hC.cell cX1; have cX2 := hC.cell cX2; have cX3 := hC.cell cX3; have cX4 := hC.cell cX4; have cY0 := hC.cell cY0; have cY1 := hC.cell cY1; have cY2 := hC.cell cY2; have cY3 := hC.cell cY3; have cY4 := hC.cell cY4; go_simp; rfl)) (fun K hK => ?_); go_simp; refine hK _ ?_; clear hK K)
      (refine calm_yes rfl rfl (fun w' hC => (by have cX0 := hC.cell cX0; have cX1 := hC.cell cX1; have cX2 := hC.cell cX2; have cX3 := hC.cell cX3; have cX4 := hC.cell cX4; have cY0 := hC.cell cY0; have cY1 := hC.cell cY1; have cY2 := hC.cell cY2; have cY3 := hC.cell cY3; have cY4 := hC.cell cY4; go_simp; rfl)) (fun K hK => ?_); go_simp; refine hK _ ?_; clear hK K)
      (refine calm_yes rfl rfl (fun w' hC => (by have cX0 := hC.cell cX0; have cX1 := hC.cell cX1; have cX2 := hC.cell cX2; have cX3 := hC.cell cX3; have cX4 := hC.cell cX4; have cY0 := hC.cell cY0; have cY1 := hC.cell cY1; have cY2 := hC.cell cY2; have cY3 := hC.cell cY3; have cY4 := hC.cell cY4; go_simp; rfl)) (fun K hK => ?_); go_simp; refine hK _ ?_; clear hK K)
      (refine calm_yes rfl rfl (fun w' hC => (by have cX0 := hC.cell cX0; have cX1 := hC.cell cX1; have cX2 := hC.cell cX2; have cX3 := hC.cell cX3; have cX4 := hC.cell cX4; have cY0 := hC.cell cY0; have cY1 := hC.cell cY1; have cY2 := hC.cell cY2; have cY3 := hC.cell cY3; have cY4 := hC.cell cY4; go_simp; rfl)) (fun K hK => ?_); go_simp; refine hK _ ?_; clear hK K)
      (refine calm_yes rfl rfl (fun w' hC => (by have cX0 := hC.cell cX0; have cX1 := hC.cell cX1; have cX2 := hC.cell cX2; have cX3 := hC.cell cX3; have cX4 := hC.cell cX4; have cY0 := hC.cell cY0; have cY1 := hC.cell cY1; have cY2 := hC.cell cY2; have cY3 := hC.cell cY3; have cY4 := hC.cell cY4; go_simp; rfl)) (fun K hK => ?_); go_simp; refine hK _ ?_; clear hK K)
      (refine calm_yes rfl rfl (fun w' hC => (by have cX0 := hC.cell cX0; have cX1 := hC.cell cX1; have cX2 := hC.cell cX2; have cX3 := hC.cell cX3; have cX4 := hC.cell cX4; have cY0 := hC.cell cY0; have cY1 := hC.cell cY1; have cY2 := hC.cell cY2; have cY3 := hC.cell cY3; have cY4 := hC.cell cY4; go_simp; rfl)) (fun K hK => ?_); go_simp; refine hK _ ?_; clear hK K)
      (apply calm_call rfl rfl rfl Tryz.func131 (by kernel_rfl) rfl (by go_simp; rfl); exact (fun w' hC => K.out w'); intro K hK; go_simp; refine hK _ ?_; clear hK K)
      (refine calm_yes rfl rfl (fun w' hC => (by have cX0 := hC.cell cX0; have cX1 := hC.cell cX1; have cX2 := hC.cell cX2; have cX3 := hC.cell cX3; have cX4 := hC.cell cX4; have cY0 := hC.cell cY0; have cY1 := hC.cell cY1; have cY2 := hC.cell cY2; have cY3 := hC.cell cY3; have cY4 := hC.cell cY4; go_simp; rfl)) (fun K hK => ?_); go_simp; refine hK _ ?_; clear hK K)
      refine calm_done (fun w1 hb => ?_)
      clear cX0 cX1 cX2 cX3 cX4 cY0 cY1 cY2 cY3 cY4
      replace E := Lib.hid (Ext.trans E.out hb)
      replace X0 := Lib.hid (Cls.cell hb X0.out)
      replace X1 := Lib.hid (Cls.cell hb X1.out)
      replace X2 := Lib.hid (Cls.cell hb X2.out)
      replace X3 := Lib.hid (Cls.cell hb X3.out)
      replace X4 := Lib.hid (Cls.cell hb X4.out)
      replace Y0 := Lib.hid (Cls.cell hb Y0.out)
      replace Y1 := Lib.hid (Cls.cell hb Y1.out)
      replace Y2 := Lib.hid (Cls.cell hb Y2.out)
      replace Y3 := Lib.hid (Cls.cell hb Y3.out)
      replace Y4 := Lib.hid (Cls.cell hb Y4.out)
      clear hb
      have cX0 := X0.out
      have cX1 := X1.out
      have cX2 := X2.out
      have cX3 := X3.out
      have cX4 := X4.out
      have cY0 := Y0.out
      have cY1 := Y1.out
      have cY2 := Y2.out
      have cY3 := Y3.out
      have cY4 := Y4.out
      clear cX0 cX1 cX2 cX3 cX4 cY0 cY1 cY2 cY3 cY4
      go_wp2
      go_roundw
      case rel => exact ⟨k + 1, by omega, by go_num, E.out⟩
      case measure => simp [intOf]; omega
    · have hk' : ¬ ((k : Int) < (ss.length : Int)) := by omega
      go_wp2
      go_ret
      exact ⟨rfl, E.out⟩
set_option maxRecDepth 100000 in
set_option maxHeartbeats 2000000 in
theorem c_eqPaint (f t : Pt) (A1 A2 : Option Addr) (cap1 cap2 : Nat) (ss : List St) (w : World) (h1 : Sts w A1 ss) (h2 : Sts w A2 ss) (hl : ss.length ≤ 1048576) :
    Calls Tryz.prog 45 #[paV f t A1 ss.length cap1, paV f t A2 ss.length cap2] w fun e w' => e = .returned (.bool true) ∧ Below w.heap.size w w' := by
  have H := Lib.hid h1
  have H2 := Lib.hid h2
  have E := Lib.hid (Below.refl w.heap.size w)
  clear h1 h2
  go_enter Tryz.func45, Tryz.ntmps45
  go_wp2_with fail
  first | refine gen_calls ?_ | refine gen_code ?_ | refine gen_list ?_
  intro w0 hW
  obtain ⟨hb, hR1, hR2⟩ := new2 hW
  clear hW
  replace E := Lib.hid (Ext.trans E.out hb)
  replace H := Lib.hid (H.out.ext stR_stab hb)
  replace H2 := Lib.hid (H2.out.ext stR_stab hb)
  clear hb
  have R1 := Lib.hid hR1
  have lR1 := R1.out.lt
  clear hR1
  have R2 := Lib.hid hR2
  have lR2 := R2.out.lt
  clear hR2
  have c0 := R1.out.cell_of (i := 0) rfl
  have c1 := R1.out.cell_of (i := 1) rfl
  have c2 := R1.out.cell_of (i := 2) rfl
  have c3 := R1.out.cell_of (i := 3) rfl
  have c4 := R1.out.cell_of (i := 4) rfl
  have d0 := R2.out.cell_of (i := 0) rfl
  have d1 := R2.out.cell_of (i := 1) rfl
  have d2 := R2.out.cell_of (i := 2) rfl
  have d3 := R2.out.cell_of (i := 3) rfl
  have d4 := R2.out.cell_of (i := 4) rfl
  go_wp2_with fail
  clear c0 c1 c2 c3 c4 d0 d1 d2 d3 d4
  refine (c_eqPoint f f _).mono ?_
  rw [(decide_eq_true (rfl : f = f))]
  rintro e w1 ⟨rfl, hb⟩
  replace E := Lib.hid (Ext.trans E.out hb)
  replace H := Lib.hid (H.out.ext stR_stab hb)
  replace H2 := Lib.hid (H2.out.ext stR_stab hb)
  replace R1 := Lib.hid (R1.out.ext hb)
  have lR1 := R1.out.lt
  replace R2 := Lib.hid (R2.out.ext hb)
  have lR2 := R2.out.lt
  clear hb
  have c0 := R1.out.cell_of (i := 0) rfl
  have c1 := R1.out.cell_of (i := 1) rfl
  have c2 := R1.out.cell_of (i := 2) rfl
  have c3 := R1.out.cell_of (i := 3) rfl
  have c4 := R1.out.cell_of (i := 4) rfl
  have d0 := R2.out.cell_of (i := 0) rfl
  have d1 := R2.out.cell_of (i := 1) rfl
  have d2 := R2.out.cell_of (i := 2) rfl
  have d3 := R2.out.cell_of (i := 3) rfl
  have d4 := R2.out.cell_of (i := 4) rfl
  go_wp2_with fail
  clear c0 c1 c2 c3 c4 d0 d1 d2 d3 d4
  refine (c_eqPoint t t _).mono ?_
  rw [(decide_eq_true (rfl : t = t))]
  rintro e w2 ⟨rfl, hb⟩
  replace E := Lib.hid (Ext.trans E.out hb)
  replace H := Lib.hid (H.out.ext stR_stab hb)
  replace H2 := Lib.hid (H2.out.ext stR_stab hb)
  replace R1 := Lib.hid (R1.out.ext hb)
  have lR1 := R1.out.lt
  replace R2 := Lib.hid (R2.out.ext hb)
  have lR2 := R2.out.lt
  clear hb
  have c0 := R1.out.cell_of (i := 0) rfl
  have c1 := R1.out.cell_of (i := 1) rfl
  have c2 := R1.out.cell_of (i := 2) rfl
  have c3 := R1.out.cell_of (i := 3) rfl
  have c4 := R1.out.cell_of (i := 4) rfl
  have d0 := R2.out.cell_of (i := 0) rfl
  have d1 := R2.out.cell_of (i := 1) rfl
  have d2 := R2.out.cell_of (i := 2) rfl
  have d3 := R2.out.cell_of (i := 3) rfl
  have d4 := R2.out.cell_of (i := 4) rfl
  go_wp2_with fail
  clear c0 c1 c2 c3 c4 d0 d1 d2 d3 d4
  refine (c_eqStopS A1 A2 cap1 cap2 ss _ H.out H2.out hl).mono ?_
  rintro e w3 ⟨rfl, hb⟩
  replace E := Lib.hid (Ext.trans E.out hb)
  replace H := Lib.hid (H.out.ext stR_stab hb)
  replace H2 := Lib.hid (H2.out.ext stR_stab hb)
  replace R1 := Lib.hid (R1.out.ext hb)
  have lR1 := R1.out.lt
  replace R2 := Lib.hid (R2.out.ext hb)
  have lR2 := R2.out.lt
  clear hb
  have c0 := R1.out.cell_of (i := 0) rfl
  have c1 := R1.out.cell_of (i := 1) rfl
  have c2 := R1.out.cell_of (i := 2) rfl
  have c3 := R1.out.cell_of (i := 3) rfl
  have c4 := R1.out.cell_of (i := 4) rfl
  have d0 := R2.out.cell_of (i := 0) rfl
  have d1 := R2.out.cell_of (i := 1) rfl
  have d2 := R2.out.cell_of (i := 2) rfl
  have d3 := R2.out.cell_of (i := 3) rfl
  have d4 := R2.out.cell_of (i := 4) rfl
  go_wp2
  go_ret
  exact ⟨rfl, E.out⟩
end Go.Proofs.YtagmnbphbakikaaGreat
