/- PaintAt of the program and PaintAt of the reference return the same color for every paint, column and row; the argument is left as it was. -/
import Derived.Test.YtnclnmciaehgeaaPaintQ
import Derived.Test.YtnclnmciaehgeaaJoin
namespace Go.Proofs.Ytnclnmciaehgeaa.fnExactPaintAt
open Go Go.RowKit Go.ChangeShapes Go.WideShapes Go.ChangeAt Go.Deep Reg
attribute [local go_sem] calmAt calmUpon

theorem own : ownKnob Try.prog.godebug = none := by kernel_rfl
theorem laidOut : laidOutB Try.prog = true := by kernel_rfl

set_option maxRecDepth 100000 in
set_option maxHeartbeats 4000000 in
theorem walk (x : Pt × Pt × List St) (us : List Value) (c r : Int) (w : World) (hu : paR4 w x us) :
    Calls Try.prog 15 #[.agg us.toArray, .int .i64 c, .int .i64 r] w fun e w' => e = .returned (.bool true) ∧ Below w.heap.size w w' := by
  obtain ⟨f, t, ss⟩ := x
  obtain ⟨A, cap, rfl, hs, hlc, hcm⟩ := hu
  dsimp only at hs hlc ⊢
  have hl := Nat.le_trans hlc hcm
  unfold maxLen at hl hcm
  have H := Lib.hid hs
  have E := Lib.hid (Below.refl w.heap.size w)
  clear hs
  obtain ⟨M, hM⟩ : ∃ M, paR f t ss c r = M := ⟨_, rfl⟩
  have HM := Lib.hid hM
  clear hM
  obtain ⟨m1, m2, m3, m4⟩ := M
  have KZ := Lib.hid (fun W => c_szPaint f t A ss.length cap W hl)
  by_cases hneg : (1048576 : Int) - (ss.length : Int) < 0
  · have hv : (if (1048576 : Int) - (ss.length : Int) < 0 then (-1 : Int) else 1048576 - ss.length) = -1 := if_pos hneg
    rw [hv] at KZ
    clear hv
    go_enter Try.func15, Try.ntmps15
    go_wp2_with fail
    first | refine gen_calls ?_ | refine gen_code ?_ | refine gen_list ?_
    intro w0 hW
    obtain ⟨hb, hR0⟩ := new1 hW
    clear hW
    replace E := Lib.hid (Ext.trans E.out hb)
    replace H := Lib.hid (H.out.ext stR_stab hb)
    clear hb
    have R0 := Lib.hid hR0
    have lR0 := R0.out.lt
    clear hR0
    have c0 := R0.out.cell_of (i := 0) rfl
    have c1 := R0.out.cell_of (i := 1) rfl
    have c2 := R0.out.cell_of (i := 2) rfl
    have c3 := R0.out.cell_of (i := 3) rfl
    have c4 := R0.out.cell_of (i := 4) rfl
    go_wp2_with fail
    clear c0 c1 c2 c3 c4
    refine (KZ.out _).mono ?_
    rintro e w1 ⟨rfl, hb⟩
    replace E := Lib.hid (Ext.trans E.out hb)
    replace H := Lib.hid (H.out.ext stR_stab hb)
    replace R0 := Lib.hid (R0.out.ext hb)
    have lR0 := R0.out.lt
    clear hb
    have c0 := R0.out.cell_of (i := 0) rfl
    have c1 := R0.out.cell_of (i := 1) rfl
    have c2 := R0.out.cell_of (i := 2) rfl
    have c3 := R0.out.cell_of (i := 3) rfl
    have c4 := R0.out.cell_of (i := 4) rfl
    go_wp2
    go_ret
    exact ⟨rfl, E.out⟩
  · have hv : (if (1048576 : Int) - (ss.length : Int) < 0 then (-1 : Int) else 1048576 - ss.length) = 1048576 - ss.length := if_neg hneg
    rw [hv] at KZ
    clear hv
    have hl1 : ss.length ≤ 1048576 := by omega
    go_enter Try.func15, Try.ntmps15
    go_wp2_with fail
    first | refine gen_calls ?_ | refine gen_code ?_ | refine gen_list ?_
    intro w0 hW
    obtain ⟨hb, hR0⟩ := new1 hW
    clear hW
    replace E := Lib.hid (Ext.trans E.out hb)
    replace H := Lib.hid (H.out.ext stR_stab hb)
    clear hb
    have R0 := Lib.hid hR0
    have lR0 := R0.out.lt
    clear hR0
    have c0 := R0.out.cell_of (i := 0) rfl
    have c1 := R0.out.cell_of (i := 1) rfl
    have c2 := R0.out.cell_of (i := 2) rfl
    have c3 := R0.out.cell_of (i := 3) rfl
    have c4 := R0.out.cell_of (i := 4) rfl
    go_wp2_with fail
    clear c0 c1 c2 c3 c4
    refine (KZ.out _).mono ?_
    rintro e w1 ⟨rfl, hb⟩
    replace E := Lib.hid (Ext.trans E.out hb)
    replace H := Lib.hid (H.out.ext stR_stab hb)
    replace R0 := Lib.hid (R0.out.ext hb)
    have lR0 := R0.out.lt
    clear hb
    have c0 := R0.out.cell_of (i := 0) rfl
    have c1 := R0.out.cell_of (i := 1) rfl
    have c2 := R0.out.cell_of (i := 2) rfl
    have c3 := R0.out.cell_of (i := 3) rfl
    have c4 := R0.out.cell_of (i := 4) rfl
    go_wp2_with fail
    clear c0 c1 c2 c3 c4
    refine (c_toPaint f t A cap ss _ H.out hl1).mono ?_
    rintro e w2 ⟨b2, rfl, hc2, hb⟩
    replace E := Lib.hid (Ext.trans E.out hb)
    replace H := Lib.hid (H.out.ext stR_stab hb)
    replace R0 := Lib.hid (R0.out.ext hb)
    have lR0 := R0.out.lt
    clear hb
    have C2 := Lib.hid (hc2)
    clear hc2
    have c0 := R0.out.cell_of (i := 0) rfl
    have c1 := R0.out.cell_of (i := 1) rfl
    have c2 := R0.out.cell_of (i := 2) rfl
    have c3 := R0.out.cell_of (i := 3) rfl
    have c4 := R0.out.cell_of (i := 4) rfl
    go_wp2_with fail
    clear c0 c1 c2 c3 c4
    refine (c_sPaintAt f t _ ss.length ss c r _ C2.out (Nat.le_refl _) (by omega)).mono ?_
    rw [HM.out]
    rintro e w3 ⟨rfl, hb⟩
    replace E := Lib.hid (Ext.trans E.out hb)
    replace H := Lib.hid (H.out.ext stR_stab hb)
    replace R0 := Lib.hid (R0.out.ext hb)
    have lR0 := R0.out.lt
    replace C2 := Lib.hid (C2.out.ext stR_stab hb)
    clear hb
    have c0 := R0.out.cell_of (i := 0) rfl
    have c1 := R0.out.cell_of (i := 1) rfl
    have c2 := R0.out.cell_of (i := 2) rfl
    have c3 := R0.out.cell_of (i := 3) rfl
    have c4 := R0.out.cell_of (i := 4) rfl
    go_wp2_with fail
    clear c0 c1 c2 c3 c4
    first | refine gen_calls ?_ | refine gen_code ?_ | refine gen_list ?_
    intro w4 hW
    obtain ⟨hb, hR4⟩ := new1 hW
    clear hW
    replace E := Lib.hid (Ext.trans E.out hb)
    replace H := Lib.hid (H.out.ext stR_stab hb)
    replace R0 := Lib.hid (R0.out.ext hb)
    have lR0 := R0.out.lt
    replace C2 := Lib.hid (C2.out.ext stR_stab hb)
    clear hb
    have R4 := Lib.hid hR4
    have lR4 := R4.out.lt
    clear hR4
    have c0 := R0.out.cell_of (i := 0) rfl
    have c1 := R0.out.cell_of (i := 1) rfl
    have c2 := R0.out.cell_of (i := 2) rfl
    have c3 := R0.out.cell_of (i := 3) rfl
    have c4 := R0.out.cell_of (i := 4) rfl
    clear c0 c1 c2 c3 c4
    have c0 := R0.out.cell_of (i := 0) rfl
    have c1 := R0.out.cell_of (i := 1) rfl
    have c2 := R0.out.cell_of (i := 2) rfl
    have c3 := R0.out.cell_of (i := 3) rfl
    have c4 := R0.out.cell_of (i := 4) rfl
    have d0 := R4.out.cell_of (i := 0) rfl
    have d1 := R4.out.cell_of (i := 1) rfl
    have d2 := R4.out.cell_of (i := 2) rfl
    have d3 := R4.out.cell_of (i := 3) rfl
    go_wp2_with fail
    clear c0 c1 c2 c3 c4 d0 d1 d2 d3
    refine (c_toPaint f t A cap ss _ H.out hl1).mono ?_
    rintro e w5 ⟨b5, rfl, hc5, hb⟩
    replace E := Lib.hid (Ext.trans E.out hb)
    replace H := Lib.hid (H.out.ext stR_stab hb)
    replace R0 := Lib.hid (R0.out.ext hb)
    have lR0 := R0.out.lt
    replace C2 := Lib.hid (C2.out.ext stR_stab hb)
    replace R4 := Lib.hid (R4.out.ext hb)
    have lR4 := R4.out.lt
    clear hb
    have C5 := Lib.hid (hc5)
    clear hc5
    have c0 := R0.out.cell_of (i := 0) rfl
    have c1 := R0.out.cell_of (i := 1) rfl
    have c2 := R0.out.cell_of (i := 2) rfl
    have c3 := R0.out.cell_of (i := 3) rfl
    have c4 := R0.out.cell_of (i := 4) rfl
    have d0 := R4.out.cell_of (i := 0) rfl
    have d1 := R4.out.cell_of (i := 1) rfl
    have d2 := R4.out.cell_of (i := 2) rfl
    have d3 := R4.out.cell_of (i := 3) rfl
    go_wp2_with fail
    clear c0 c1 c2 c3 c4 d0 d1 d2 d3
    first | refine gen_calls ?_ | refine gen_code ?_ | refine gen_list ?_
    intro w6 hW
    obtain ⟨hb, hR6⟩ := new1 hW
    clear hW
    replace E := Lib.hid (Ext.trans E.out hb)
    replace H := Lib.hid (H.out.ext stR_stab hb)
    replace R0 := Lib.hid (R0.out.ext hb)
    have lR0 := R0.out.lt
    replace C2 := Lib.hid (C2.out.ext stR_stab hb)
    replace R4 := Lib.hid (R4.out.ext hb)
    have lR4 := R4.out.lt
    replace C5 := Lib.hid (C5.out.ext stR_stab hb)
    clear hb
    have R6 := Lib.hid hR6
    have lR6 := R6.out.lt
    clear hR6
    have c0 := R0.out.cell_of (i := 0) rfl
    have c1 := R0.out.cell_of (i := 1) rfl
    have c2 := R0.out.cell_of (i := 2) rfl
    have c3 := R0.out.cell_of (i := 3) rfl
    have c4 := R0.out.cell_of (i := 4) rfl
    have d0 := R4.out.cell_of (i := 0) rfl
    have d1 := R4.out.cell_of (i := 1) rfl
    have d2 := R4.out.cell_of (i := 2) rfl
    have d3 := R4.out.cell_of (i := 3) rfl
    clear c0 c1 c2 c3 c4 d0 d1 d2 d3
    have c0 := R0.out.cell_of (i := 0) rfl
    have c1 := R0.out.cell_of (i := 1) rfl
    have c2 := R0.out.cell_of (i := 2) rfl
    have c3 := R0.out.cell_of (i := 3) rfl
    have c4 := R0.out.cell_of (i := 4) rfl
    have d0 := R4.out.cell_of (i := 0) rfl
    have d1 := R4.out.cell_of (i := 1) rfl
    have d2 := R4.out.cell_of (i := 2) rfl
    have d3 := R4.out.cell_of (i := 3) rfl
    have e0 := R6.out.cell_of (i := 0) rfl
    have e1 := R6.out.cell_of (i := 1) rfl
    have e2 := R6.out.cell_of (i := 2) rfl
    have e3 := R6.out.cell_of (i := 3) rfl
    have e4 := R6.out.cell_of (i := 4) rfl
    go_wp2_with fail
    clear c0 c1 c2 c3 c4 d0 d1 d2 d3 e0 e1 e2 e3 e4
    refine (c_iPaintAt f t _ ss.length ss c r _ C5.out (Nat.le_refl _) (by omega)).mono ?_
    rw [HM.out]
    rintro e w7 ⟨rfl, hb⟩
    replace E := Lib.hid (Ext.trans E.out hb)
    replace H := Lib.hid (H.out.ext stR_stab hb)
    replace R0 := Lib.hid (R0.out.ext hb)
    have lR0 := R0.out.lt
    replace C2 := Lib.hid (C2.out.ext stR_stab hb)
    replace R4 := Lib.hid (R4.out.ext hb)
    have lR4 := R4.out.lt
    replace C5 := Lib.hid (C5.out.ext stR_stab hb)
    replace R6 := Lib.hid (R6.out.ext hb)
    have lR6 := R6.out.lt
    clear hb
    have c0 := R0.out.cell_of (i := 0) rfl
    have c1 := R0.out.cell_of (i := 1) rfl
    have c2 := R0.out.cell_of (i := 2) rfl
    have c3 := R0.out.cell_of (i := 3) rfl
    have c4 := R0.out.cell_of (i := 4) rfl
    have d0 := R4.out.cell_of (i := 0) rfl
    have d1 := R4.out.cell_of (i := 1) rfl
    have d2 := R4.out.cell_of (i := 2) rfl
    have d3 := R4.out.cell_of (i := 3) rfl
    have e0 := R6.out.cell_of (i := 0) rfl
    have e1 := R6.out.cell_of (i := 1) rfl
    have e2 := R6.out.cell_of (i := 2) rfl
    have e3 := R6.out.cell_of (i := 3) rfl
    have e4 := R6.out.cell_of (i := 4) rfl
    go_wp2_with fail
    clear c0 c1 c2 c3 c4 d0 d1 d2 d3 e0 e1 e2 e3 e4
    first | refine gen_calls ?_ | refine gen_code ?_ | refine gen_list ?_
    intro w8 hW
    obtain ⟨hb, hR8⟩ := new1 hW
    clear hW
    replace E := Lib.hid (Ext.trans E.out hb)
    replace H := Lib.hid (H.out.ext stR_stab hb)
    replace R0 := Lib.hid (R0.out.ext hb)
    have lR0 := R0.out.lt
    replace C2 := Lib.hid (C2.out.ext stR_stab hb)
    replace R4 := Lib.hid (R4.out.ext hb)
    have lR4 := R4.out.lt
    replace C5 := Lib.hid (C5.out.ext stR_stab hb)
    replace R6 := Lib.hid (R6.out.ext hb)
    have lR6 := R6.out.lt
    clear hb
    have R8 := Lib.hid hR8
    have lR8 := R8.out.lt
    clear hR8
    have c0 := R0.out.cell_of (i := 0) rfl
    have c1 := R0.out.cell_of (i := 1) rfl
    have c2 := R0.out.cell_of (i := 2) rfl
    have c3 := R0.out.cell_of (i := 3) rfl
    have c4 := R0.out.cell_of (i := 4) rfl
    have d0 := R4.out.cell_of (i := 0) rfl
    have d1 := R4.out.cell_of (i := 1) rfl
    have d2 := R4.out.cell_of (i := 2) rfl
    have d3 := R4.out.cell_of (i := 3) rfl
    have e0 := R6.out.cell_of (i := 0) rfl
    have e1 := R6.out.cell_of (i := 1) rfl
    have e2 := R6.out.cell_of (i := 2) rfl
    have e3 := R6.out.cell_of (i := 3) rfl
    have e4 := R6.out.cell_of (i := 4) rfl
    clear c0 c1 c2 c3 c4 d0 d1 d2 d3 e0 e1 e2 e3 e4
    have c0 := R0.out.cell_of (i := 0) rfl
    have c1 := R0.out.cell_of (i := 1) rfl
    have c2 := R0.out.cell_of (i := 2) rfl
    have c3 := R0.out.cell_of (i := 3) rfl
    have c4 := R0.out.cell_of (i := 4) rfl
    have d0 := R4.out.cell_of (i := 0) rfl
    have d1 := R4.out.cell_of (i := 1) rfl
    have d2 := R4.out.cell_of (i := 2) rfl
    have d3 := R4.out.cell_of (i := 3) rfl
    have e0 := R6.out.cell_of (i := 0) rfl
    have e1 := R6.out.cell_of (i := 1) rfl
    have e2 := R6.out.cell_of (i := 2) rfl
    have e3 := R6.out.cell_of (i := 3) rfl
    have e4 := R6.out.cell_of (i := 4) rfl
    have g0 := R8.out.cell_of (i := 0) rfl
    have g1 := R8.out.cell_of (i := 1) rfl
    have g2 := R8.out.cell_of (i := 2) rfl
    have g3 := R8.out.cell_of (i := 3) rfl
    go_wp2_with fail
    clear c0 c1 c2 c3 c4 d0 d1 d2 d3 e0 e1 e2 e3 e4 g0 g1 g2 g3
    refine (c_eqColor (m1, m2, m3, m4) _).mono ?_
    rintro e w9 ⟨rfl, hb⟩
    replace E := Lib.hid (Ext.trans E.out hb)
    replace H := Lib.hid (H.out.ext stR_stab hb)
    replace R0 := Lib.hid (R0.out.ext hb)
    have lR0 := R0.out.lt
    replace C2 := Lib.hid (C2.out.ext stR_stab hb)
    replace R4 := Lib.hid (R4.out.ext hb)
    have lR4 := R4.out.lt
    replace C5 := Lib.hid (C5.out.ext stR_stab hb)
    replace R6 := Lib.hid (R6.out.ext hb)
    have lR6 := R6.out.lt
    replace R8 := Lib.hid (R8.out.ext hb)
    have lR8 := R8.out.lt
    clear hb
    have c0 := R0.out.cell_of (i := 0) rfl
    have c1 := R0.out.cell_of (i := 1) rfl
    have c2 := R0.out.cell_of (i := 2) rfl
    have c3 := R0.out.cell_of (i := 3) rfl
    have c4 := R0.out.cell_of (i := 4) rfl
    have d0 := R4.out.cell_of (i := 0) rfl
    have d1 := R4.out.cell_of (i := 1) rfl
    have d2 := R4.out.cell_of (i := 2) rfl
    have d3 := R4.out.cell_of (i := 3) rfl
    have e0 := R6.out.cell_of (i := 0) rfl
    have e1 := R6.out.cell_of (i := 1) rfl
    have e2 := R6.out.cell_of (i := 2) rfl
    have e3 := R6.out.cell_of (i := 3) rfl
    have e4 := R6.out.cell_of (i := 4) rfl
    have g0 := R8.out.cell_of (i := 0) rfl
    have g1 := R8.out.cell_of (i := 1) rfl
    have g2 := R8.out.cell_of (i := 2) rfl
    have g3 := R8.out.cell_of (i := 3) rfl
    go_wp2_with fail
    refine wp_region_calm [0,1] [2,3,4] (by kernel_rfl) (by kernel_rfl) ?_
    iterate 2 ((refine calm_yes rfl rfl (fun w' hC => (by have c0 := hC.cell c0; have c1 := hC.cell c1; have c2 := hC.cell c2; have c3 := hC.cell c3; have c4 := hC.cell c4; have e0 := hC.cell e0; have e1 := hC.cell e1; have e2 := hC.cell e2; have e3 := hC.cell e3; have e4 := hC.cell e4; go_simp; rfl)) (fun K hK => ?_); go_simp; refine hK _ ?_; clear hK K))
    refine calm_nil (fun wa hCa => ?_)
    refine late_keep rfl rfl hCa (fun wb hxb hCb K hK => ?_)
    have Eb := Ext.trans (ext_cls hCa) hxb
    clear c0 c1 c2 c3 c4 d0 d1 d2 d3 e0 e1 e2 e3 e4 g0 g1 g2 g3
    go_simp
    refine (c_toPaint f t A cap ss wb (H.out.ext stR_stab Eb) hl1).mono ?_
    rintro e w10 ⟨b10, rfl, hc10, hb10⟩
    go_simp
    refine hK _ _ (Cls.ext hCb hb10) (fun hCc => ?_)
    clear hK K
    refine late_keep rfl rfl hCc (fun w11 hx11 hCd K hK => ?_)
    have E11 := Ext.trans (Ext.trans Eb hb10) hx11
    go_simp
    refine (c_eqPaint f t _ _ ss.length ss.length ss w11 (C5.out.ext stR_stab E11) (hc10.ext stR_stab hx11) hl1).mono ?_
    rintro e w12 ⟨rfl, hb12⟩
    go_simp
    refine hK _ _ (Cls.ext hCd hb12) (fun hCe => ?_)
    clear hK K
    refine late_keep rfl rfl hCe (fun w13 hx13 hCf K hK => ?_)
    go_simp
    refine hK _ _ hCf (fun hCg => ?_)
    clear hK K
    refine late_nil (fun wz hxz => ?_)
    have EZ := Lib.hid (Ext.trans E.out (Ext.trans (Ext.trans (Ext.trans E11 hb12) hx13) hxz))
    clear hCa hCb hCc hCd hCe hCf hCg hxb hx11 hx13 hxz hb10 hb12 Eb E11 hc10
    go_wp2
    go_ret
    exact ⟨rfl, EZ.out⟩

theorem opens0 : Opens Try.prog 70 (paR4 ) :=  opens_pa Try.underlying70 (by kernel_rfl) (by kernel_rfl) (by kernel_rfl) (opens_pt Try.underlying67 (by kernel_rfl) (by kernel_rfl) (by kernel_rfl) (by kernel_rfl) (by kernel_rfl) (by kernel_rfl) (by kernel_rfl)) (opens_pt Try.underlying67 (by kernel_rfl) (by kernel_rfl) (by kernel_rfl) (by kernel_rfl) (by kernel_rfl) (by kernel_rfl) (by kernel_rfl)) (opens_slice Try.underlying68 (by kernel_rfl) (by decide) (opens_st Try.underlying150 (by kernel_rfl) (by kernel_rfl) (by kernel_rfl) (by kernel_rfl) (by kernel_rfl) (by kernel_rfl) (opens_bx Try.underlying148 (by kernel_rfl) (by kernel_rfl) (by kernel_rfl) (by kernel_rfl)))) 
set_option maxRecDepth 100000 in
theorem lifted (os : Os) (started : os.Started) (H : Type) (enc : TypeId × Value → H) :
    ReturnsInHanded {} Try.checked os 15 .any (Rows.fnExactPaintAtSpec.pre6 enc Try.prog Try.f15 Rows.fnExactPaintAtRow.domain false) (Rows.fnExactPaintAtSpec.post enc Try.prog Try.f15 false true false false) := by
  refine returnsInHanded_of_change (C := Try.checked) own started (by kernel_rfl) Try.func15
    (ChangeSpec.witness6 (enc := enc) (C := Try.checked) false ⟨#[], #[ .agg #[.int .i64 0, .int .i64 0, .int .i64 0, .int .i64 0, .slice none 0 0], .int .i64 0, .int .i64 0], []⟩ 8 (by kernel_rfl) (by kernel_rfl) (by kernel_rfl) (by kernel_rfl)) ?_
  intro W base args ds gs before hval0 hW hcnd _
  have hval : ∀ (j : Nat) t v, Try.f15.params[j]? = some t → args[j]? = some v → Value.okWide Try.prog W .any base t v := hval0
  have hW' := hW
  obtain ⟨p, q, hA0, hV, rfl, hfz, hnd⟩ := hW
  have hA : DataW.TrodAll enc Try.prog W 0 (fun _ => true) true Try.f15.params.toList args.toList ds p := hA0
  rw [Try.params15] at hA hval
  obtain ⟨v0, vs0, d0, ds0, p0, q0, hargs, rfl, rfl, h0, r0⟩ := trodAll_cons hA
  obtain ⟨v1, vs1, d1, ds1, p1, q1, rfl, rfl, rfl, h1, r1⟩ := trodAll_cons r0
  obtain ⟨v2, vs2, d2, ds2, p2, q2, rfl, rfl, rfl, h2, r2⟩ := trodAll_cons r1
  obtain ⟨rfl, rfl, rfl⟩ := trodAll_nil r2
  obtain rfl : args = #[v0, v1, v2] := by cases args; simp_all
  obtain ⟨rfl, rfl, rfl⟩ := trodVars_none hV
  obtain ⟨n1, rfl⟩ := okWide_int Try.underlying3 (hval 1 3 v1 rfl rfl)
  obtain ⟨n2, rfl⟩ := okWide_int Try.underlying3 (hval 2 3 v2 rfl rfl)
  have k0 := h0
  have lt0 : ∀ x ∈ p0, x.block < W.heap.size := by obtain ⟨m, hm⟩ := k0; exact DataW.trod_lt m _ _ _ hm
  have k1 := h1
  have lt1 : ∀ x ∈ p1, x.block < W.heap.size := by obtain ⟨m, hm⟩ := k1; exact DataW.trod_lt m _ _ _ hm
  have k2 := h2
  have lt2 : ∀ x ∈ p2, x.block < W.heap.size := by obtain ⟨m, hm⟩ := k2; exact DataW.trod_lt m _ _ _ hm
  obtain ⟨x0, us0, rfl, r0⟩ := open_struct_arg Try.underlying70 opens0 (hval 0 70 _ rfl rfl) h0
  clear hA0 hval0
  refine (walk x0 us0 n1 n2 W r0).mono fun e W' ⟨he, bel⟩ => ?_
  subst he
  exact ⟨_, rfl, _, _, _, [], _, [], hW', trodAll_mk1 (shut_bool Try.underlying4 _), (trodAll_cons_mk (Below.trod laidOut (by kernel_rfl) (of_decide_eq_true (by kernel_rfl)) k0 bel lt0) (trodAll_cons_mk (Below.trod laidOut (by kernel_rfl) (of_decide_eq_true (by kernel_rfl)) k1 bel lt1) (trodAll_cons_mk (Below.trod laidOut (by kernel_rfl) (of_decide_eq_true (by kernel_rfl)) k2 bel lt2) trodAll_mk0))), rfl, bel.frame _, fun h => by cases h⟩
theorem joinedA : joinA Try.pinned.checked.prog 15 Try.f15 Rows.fnExactPaintAtSpec Rows.fnExactPaintAtRow = true := by kernel_rfl
theorem joinedB : joinB Try.pinned.checked.prog Rows.fnExactPaintAtRow = true := by kernel_rfl
theorem over : Rows.fnExactPaintAtRow.holds Try.pinned (OpenSpec.ofChange Rows.fnExactPaintAtSpec) :=
  OpenClaim.holds_of_wide 15 Try.f15 rfl rfl rfl rfl rfl rfl rfl ⟨rfl, rfl, rfl, rfl, rfl⟩ rfl rfl rfl rfl rfl (by kernel_rfl) Try.func15 (joined_of joinedA joinedB)
    (of_decide_eq_true (by kernel_rfl)) (by unfold Func.isWrapper; first | (rw [if_pos (by decide +kernel)]; kernel_rfl) | (rw [if_neg (by decide +kernel)]; exact ⟨rfl, rfl⟩))
    (fun os started H enc _ => lifted os started H enc)

theorem proved : Rows.FnExactPaintAtSaid := over

end Go.Proofs.Ytnclnmciaehgeaa.fnExactPaintAt
