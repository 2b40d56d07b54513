/- FillBox of the program and FillBox of the reference return the same for every fill; the argument is left as it was. -/
import Derived.Test.YtjjnfjnoagfajaaFillT
import Derived.Test.YtjjnfjnoagfajaaFillE
import Derived.Test.YtjjnfjnoagfajaaFillO
import Derived.Test.YtjjnfjnoagfajaaFillB2
import Derived.Test.YtjjnfjnoagfajaaRegionL
namespace Go.Proofs.Ytjjnfjnoagfajaa.fnExactFillBox
open Go Go.RowKit Go.ChangeShapes Go.WideShapes Go.ChangeAt Go.Deep Reg
attribute [local go_sem] calmAt calmUpon

theorem own : ownKnob Try.prog.godebug = none := by kernel_rfl
theorem laidOut : laidOutB Try.prog = true := by kernel_rfl

set_option maxRecDepth 100000 in
set_option maxHeartbeats 8000000 in
theorem walk (x : FlD) (us : List Value) (w : World) (hu : flR w x us) :
    Calls Try.prog 4 #[.agg us.toArray] w fun e w' => e = .returned (.bool true) ∧ Below w.heap.size w w' := by
  obtain ⟨A1, c1, A2, c2, rfl, hv, s1, hs, s2⟩ := hu
  have H := Lib.hid hv
  have P := Lib.hid hs
  have E := Lib.hid (Below.refl w.heap.size w)
  obtain ⟨⟨l, t, r, b⟩, hM⟩ : ∃ M, fbR x = M := ⟨_, rfl⟩
  have HM := Lib.hid hM
  have KZ := Lib.hid (fun W (hW : VbK W A1 x.1) => c_szFill 1048576 A1 c1 x A2 c2 W (by omega) (by omega) hW s1 s2)
  have KT := Lib.hid (fun hsm W (hW : VbK W A1 x.1) (hP : Sts W A2 x.2.2.2.2) => c_toFill A1 c1 x A2 c2 W hW hP hsm)
  clear hv hs hM s1 s2
  show Calls Try.prog 4 #[flV A1 x.1.length c1 x.2.1 x.2.2.1 x.2.2.2.1 A2 x.2.2.2.2.length c2] w _
  go_enter Try.func4, Try.ntmps4
  go_wp2_with fail
  first | refine gen_calls ?_ | refine gen_code ?_ | refine gen_list ?_
  intro w0 hW
  obtain ⟨hb, hR0⟩ := new1 hW
  clear hW
  replace E := Lib.hid (Ext.trans E.out hb)
  replace H := Lib.hid (H.out.ext verbK_stab hb)
  replace P := Lib.hid (P.out.ext stR_stab hb)
  clear hb
  have R0 := Lib.hid hR0
  have lR0 := R0.out.lt
  clear hR0
  have k0 := R0.out.cell_of (i := 0) rfl
  have k1 := R0.out.cell_of (i := 1) rfl
  have k2 := R0.out.cell_of (i := 2) rfl
  have k3 := R0.out.cell_of (i := 3) rfl
  have k4 := R0.out.cell_of (i := 4) rfl
  have k5 := R0.out.cell_of (i := 5) rfl
  have k6 := R0.out.cell_of (i := 6) rfl
  go_wp2_with fail
  clear k0 k1 k2 k3 k4 k5 k6
  refine (KZ.out _ H.out).mono ?_
  rintro e w1 ⟨m, rfl, hm, hb⟩
  replace E := Lib.hid (Ext.trans E.out hb)
  replace H := Lib.hid (H.out.ext verbK_stab hb)
  replace P := Lib.hid (P.out.ext stR_stab hb)
  replace R0 := Lib.hid (R0.out.ext hb)
  have lR0 := R0.out.lt
  clear hb
  have k0 := R0.out.cell_of (i := 0) rfl
  have k1 := R0.out.cell_of (i := 1) rfl
  have k2 := R0.out.cell_of (i := 2) rfl
  have k3 := R0.out.cell_of (i := 3) rfl
  have k4 := R0.out.cell_of (i := 4) rfl
  have k5 := R0.out.cell_of (i := 5) rfl
  have k6 := R0.out.cell_of (i := 6) rfl
  have Hm := Lib.hid hm
  clear hm
  by_cases hneg : m < 0
  · go_wp2
    go_ret
    exact ⟨rfl, E.out⟩
  · have Hsm := Lib.hid (Hm.out (by omega)).2
    go_wp2_with fail
    clear k0 k1 k2 k3 k4 k5 k6
    refine (KT.out Hsm.out _ H.out P.out).mono ?_
    rintro e w2 ⟨us2, rfl, hu2, hb⟩
    obtain ⟨A3, c3, A4, c4, rfl, hv2, _, hs2, _⟩ := flO_R hu2
    replace E := Lib.hid (Ext.trans E.out hb)
    replace H := Lib.hid (H.out.ext verbK_stab hb)
    replace P := Lib.hid (P.out.ext stR_stab hb)
    replace R0 := Lib.hid (R0.out.ext hb)
    have lR0 := R0.out.lt
    clear hb
    have H2 := Lib.hid (hv2)
    clear hv2
    have P2 := Lib.hid (hs2)
    clear hs2
    have k0 := R0.out.cell_of (i := 0) rfl
    have k1 := R0.out.cell_of (i := 1) rfl
    have k2 := R0.out.cell_of (i := 2) rfl
    have k3 := R0.out.cell_of (i := 3) rfl
    have k4 := R0.out.cell_of (i := 4) rfl
    have k5 := R0.out.cell_of (i := 5) rfl
    have k6 := R0.out.cell_of (i := 6) rfl
    clear hu2
    go_wp2_with fail
    clear k0 k1 k2 k3 k4 k5 k6
    refine (c_sFillBox A3 c3 x A4 c4 _ H2.out P2.out Hsm.out).mono ?_
    rw [HM.out]
    rintro e w3 ⟨rfl, hb⟩
    replace E := Lib.hid (Ext.trans E.out hb)
    replace H := Lib.hid (H.out.ext verbK_stab hb)
    replace P := Lib.hid (P.out.ext stR_stab hb)
    replace R0 := Lib.hid (R0.out.ext hb)
    have lR0 := R0.out.lt
    replace H2 := Lib.hid (H2.out.ext verbK_stab hb)
    replace P2 := Lib.hid (P2.out.ext stR_stab hb)
    clear hb
    have k0 := R0.out.cell_of (i := 0) rfl
    have k1 := R0.out.cell_of (i := 1) rfl
    have k2 := R0.out.cell_of (i := 2) rfl
    have k3 := R0.out.cell_of (i := 3) rfl
    have k4 := R0.out.cell_of (i := 4) rfl
    have k5 := R0.out.cell_of (i := 5) rfl
    have k6 := R0.out.cell_of (i := 6) rfl
    go_wp2_with fail
    clear k0 k1 k2 k3 k4 k5 k6
    first | refine gen_calls ?_ | refine gen_code ?_ | refine gen_list ?_
    intro w4 hW
    obtain ⟨hb, hR4⟩ := new1 hW
    clear hW
    replace E := Lib.hid (Ext.trans E.out hb)
    replace H := Lib.hid (H.out.ext verbK_stab hb)
    replace P := Lib.hid (P.out.ext stR_stab hb)
    replace R0 := Lib.hid (R0.out.ext hb)
    have lR0 := R0.out.lt
    clear hb
    have R4 := Lib.hid hR4
    have lR4 := R4.out.lt
    clear hR4
    have k0 := R0.out.cell_of (i := 0) rfl
    have k1 := R0.out.cell_of (i := 1) rfl
    have k2 := R0.out.cell_of (i := 2) rfl
    have k3 := R0.out.cell_of (i := 3) rfl
    have k4 := R0.out.cell_of (i := 4) rfl
    have k5 := R0.out.cell_of (i := 5) rfl
    have k6 := R0.out.cell_of (i := 6) rfl
    clear k0 k1 k2 k3 k4 k5 k6
    have k0 := R0.out.cell_of (i := 0) rfl
    have k1 := R0.out.cell_of (i := 1) rfl
    have k2 := R0.out.cell_of (i := 2) rfl
    have k3 := R0.out.cell_of (i := 3) rfl
    have k4 := R0.out.cell_of (i := 4) rfl
    have k5 := R0.out.cell_of (i := 5) rfl
    have k6 := R0.out.cell_of (i := 6) rfl
    have d0 := R4.out.cell_of (i := 0) rfl
    have d1 := R4.out.cell_of (i := 1) rfl
    have d2 := R4.out.cell_of (i := 2) rfl
    have d3 := R4.out.cell_of (i := 3) rfl
    go_wp2_with fail
    clear k0 k1 k2 k3 k4 k5 k6 d0 d1 d2 d3
    refine (KT.out Hsm.out _ H.out P.out).mono ?_
    rintro e w5 ⟨us5, rfl, hu5, hb⟩
    obtain ⟨A5, c5, A6, c6, rfl, hv5, _, hs5, _⟩ := flO_R hu5
    replace E := Lib.hid (Ext.trans E.out hb)
    replace H := Lib.hid (H.out.ext verbK_stab hb)
    replace P := Lib.hid (P.out.ext stR_stab hb)
    replace R0 := Lib.hid (R0.out.ext hb)
    have lR0 := R0.out.lt
    replace R4 := Lib.hid (R4.out.ext hb)
    have lR4 := R4.out.lt
    clear hb
    have H5 := Lib.hid (hv5)
    clear hv5
    have P5 := Lib.hid (hs5)
    clear hs5
    have k0 := R0.out.cell_of (i := 0) rfl
    have k1 := R0.out.cell_of (i := 1) rfl
    have k2 := R0.out.cell_of (i := 2) rfl
    have k3 := R0.out.cell_of (i := 3) rfl
    have k4 := R0.out.cell_of (i := 4) rfl
    have k5 := R0.out.cell_of (i := 5) rfl
    have k6 := R0.out.cell_of (i := 6) rfl
    have d0 := R4.out.cell_of (i := 0) rfl
    have d1 := R4.out.cell_of (i := 1) rfl
    have d2 := R4.out.cell_of (i := 2) rfl
    have d3 := R4.out.cell_of (i := 3) rfl
    clear hu5
    go_wp2_with fail
    clear k0 k1 k2 k3 k4 k5 k6 d0 d1 d2 d3
    first | refine gen_calls ?_ | refine gen_code ?_ | refine gen_list ?_
    intro w6 hW
    obtain ⟨hb, hR6⟩ := new1 hW
    clear hW
    replace E := Lib.hid (Ext.trans E.out hb)
    replace H := Lib.hid (H.out.ext verbK_stab hb)
    replace P := Lib.hid (P.out.ext stR_stab hb)
    replace R0 := Lib.hid (R0.out.ext hb)
    have lR0 := R0.out.lt
    replace R4 := Lib.hid (R4.out.ext hb)
    have lR4 := R4.out.lt
    replace H5 := Lib.hid (H5.out.ext verbK_stab hb)
    replace P5 := Lib.hid (P5.out.ext stR_stab hb)
    clear hb
    have R6 := Lib.hid hR6
    have lR6 := R6.out.lt
    clear hR6
    have k0 := R0.out.cell_of (i := 0) rfl
    have k1 := R0.out.cell_of (i := 1) rfl
    have k2 := R0.out.cell_of (i := 2) rfl
    have k3 := R0.out.cell_of (i := 3) rfl
    have k4 := R0.out.cell_of (i := 4) rfl
    have k5 := R0.out.cell_of (i := 5) rfl
    have k6 := R0.out.cell_of (i := 6) rfl
    have d0 := R4.out.cell_of (i := 0) rfl
    have d1 := R4.out.cell_of (i := 1) rfl
    have d2 := R4.out.cell_of (i := 2) rfl
    have d3 := R4.out.cell_of (i := 3) rfl
    clear k0 k1 k2 k3 k4 k5 k6 d0 d1 d2 d3
    have k0 := R0.out.cell_of (i := 0) rfl
    have k1 := R0.out.cell_of (i := 1) rfl
    have k2 := R0.out.cell_of (i := 2) rfl
    have k3 := R0.out.cell_of (i := 3) rfl
    have k4 := R0.out.cell_of (i := 4) rfl
    have k5 := R0.out.cell_of (i := 5) rfl
    have k6 := R0.out.cell_of (i := 6) rfl
    have d0 := R4.out.cell_of (i := 0) rfl
    have d1 := R4.out.cell_of (i := 1) rfl
    have d2 := R4.out.cell_of (i := 2) rfl
    have d3 := R4.out.cell_of (i := 3) rfl
    have y0 := R6.out.cell_of (i := 0) rfl
    have y1 := R6.out.cell_of (i := 1) rfl
    have y2 := R6.out.cell_of (i := 2) rfl
    have y3 := R6.out.cell_of (i := 3) rfl
    have y4 := R6.out.cell_of (i := 4) rfl
    have y5 := R6.out.cell_of (i := 5) rfl
    have y6 := R6.out.cell_of (i := 6) rfl
    go_wp2_with fail
    clear k0 k1 k2 k3 k4 k5 k6 d0 d1 d2 d3 y0 y1 y2 y3 y4 y5 y6
    refine (c_iFillBox A5 c5 x A6 c6 _ H5.out P5.out Hsm.out).mono ?_
    rw [HM.out]
    rintro e w7 ⟨rfl, hb⟩
    replace E := Lib.hid (Ext.trans E.out hb)
    replace H := Lib.hid (H.out.ext verbK_stab hb)
    replace P := Lib.hid (P.out.ext stR_stab hb)
    replace R0 := Lib.hid (R0.out.ext hb)
    have lR0 := R0.out.lt
    replace R4 := Lib.hid (R4.out.ext hb)
    have lR4 := R4.out.lt
    replace H5 := Lib.hid (H5.out.ext verbK_stab hb)
    replace P5 := Lib.hid (P5.out.ext stR_stab hb)
    replace R6 := Lib.hid (R6.out.ext hb)
    have lR6 := R6.out.lt
    clear hb
    have k0 := R0.out.cell_of (i := 0) rfl
    have k1 := R0.out.cell_of (i := 1) rfl
    have k2 := R0.out.cell_of (i := 2) rfl
    have k3 := R0.out.cell_of (i := 3) rfl
    have k4 := R0.out.cell_of (i := 4) rfl
    have k5 := R0.out.cell_of (i := 5) rfl
    have k6 := R0.out.cell_of (i := 6) rfl
    have d0 := R4.out.cell_of (i := 0) rfl
    have d1 := R4.out.cell_of (i := 1) rfl
    have d2 := R4.out.cell_of (i := 2) rfl
    have d3 := R4.out.cell_of (i := 3) rfl
    have y0 := R6.out.cell_of (i := 0) rfl
    have y1 := R6.out.cell_of (i := 1) rfl
    have y2 := R6.out.cell_of (i := 2) rfl
    have y3 := R6.out.cell_of (i := 3) rfl
    have y4 := R6.out.cell_of (i := 4) rfl
    have y5 := R6.out.cell_of (i := 5) rfl
    have y6 := R6.out.cell_of (i := 6) rfl
    go_wp2_with fail
    clear k0 k1 k2 k3 k4 k5 k6 d0 d1 d2 d3 y0 y1 y2 y3 y4 y5 y6
    first | refine gen_calls ?_ | refine gen_code ?_ | refine gen_list ?_
    intro w8 hW
    obtain ⟨hb, hR8⟩ := new1 hW
    clear hW
    replace E := Lib.hid (Ext.trans E.out hb)
    replace H := Lib.hid (H.out.ext verbK_stab hb)
    replace P := Lib.hid (P.out.ext stR_stab hb)
    replace R0 := Lib.hid (R0.out.ext hb)
    have lR0 := R0.out.lt
    replace R4 := Lib.hid (R4.out.ext hb)
    have lR4 := R4.out.lt
    replace H5 := Lib.hid (H5.out.ext verbK_stab hb)
    replace P5 := Lib.hid (P5.out.ext stR_stab hb)
    replace R6 := Lib.hid (R6.out.ext hb)
    have lR6 := R6.out.lt
    clear hb
    have R8 := Lib.hid hR8
    have lR8 := R8.out.lt
    clear hR8
    have k0 := R0.out.cell_of (i := 0) rfl
    have k1 := R0.out.cell_of (i := 1) rfl
    have k2 := R0.out.cell_of (i := 2) rfl
    have k3 := R0.out.cell_of (i := 3) rfl
    have k4 := R0.out.cell_of (i := 4) rfl
    have k5 := R0.out.cell_of (i := 5) rfl
    have k6 := R0.out.cell_of (i := 6) rfl
    have d0 := R4.out.cell_of (i := 0) rfl
    have d1 := R4.out.cell_of (i := 1) rfl
    have d2 := R4.out.cell_of (i := 2) rfl
    have d3 := R4.out.cell_of (i := 3) rfl
    have y0 := R6.out.cell_of (i := 0) rfl
    have y1 := R6.out.cell_of (i := 1) rfl
    have y2 := R6.out.cell_of (i := 2) rfl
    have y3 := R6.out.cell_of (i := 3) rfl
    have y4 := R6.out.cell_of (i := 4) rfl
    have y5 := R6.out.cell_of (i := 5) rfl
    have y6 := R6.out.cell_of (i := 6) rfl
    clear k0 k1 k2 k3 k4 k5 k6 d0 d1 d2 d3 y0 y1 y2 y3 y4 y5 y6
    have k0 := R0.out.cell_of (i := 0) rfl
    have k1 := R0.out.cell_of (i := 1) rfl
    have k2 := R0.out.cell_of (i := 2) rfl
    have k3 := R0.out.cell_of (i := 3) rfl
    have k4 := R0.out.cell_of (i := 4) rfl
    have k5 := R0.out.cell_of (i := 5) rfl
    have k6 := R0.out.cell_of (i := 6) rfl
    have d0 := R4.out.cell_of (i := 0) rfl
    have d1 := R4.out.cell_of (i := 1) rfl
    have d2 := R4.out.cell_of (i := 2) rfl
    have d3 := R4.out.cell_of (i := 3) rfl
    have y0 := R6.out.cell_of (i := 0) rfl
    have y1 := R6.out.cell_of (i := 1) rfl
    have y2 := R6.out.cell_of (i := 2) rfl
    have y3 := R6.out.cell_of (i := 3) rfl
    have y4 := R6.out.cell_of (i := 4) rfl
    have y5 := R6.out.cell_of (i := 5) rfl
    have y6 := R6.out.cell_of (i := 6) rfl
    have z0 := R8.out.cell_of (i := 0) rfl
    have z1 := R8.out.cell_of (i := 1) rfl
    have z2 := R8.out.cell_of (i := 2) rfl
    have z3 := R8.out.cell_of (i := 3) rfl
    go_wp2_with fail
    clear k0 k1 k2 k3 k4 k5 k6 d0 d1 d2 d3 y0 y1 y2 y3 y4 y5 y6 z0 z1 z2 z3
    refine (c_eqBoxF (l, t, r, b) _).mono ?_
    rintro e w9 ⟨rfl, hb⟩
    replace E := Lib.hid (Ext.trans E.out hb)
    replace H := Lib.hid (H.out.ext verbK_stab hb)
    replace P := Lib.hid (P.out.ext stR_stab hb)
    replace R0 := Lib.hid (R0.out.ext hb)
    have lR0 := R0.out.lt
    replace R4 := Lib.hid (R4.out.ext hb)
    have lR4 := R4.out.lt
    replace H5 := Lib.hid (H5.out.ext verbK_stab hb)
    replace P5 := Lib.hid (P5.out.ext stR_stab hb)
    replace R6 := Lib.hid (R6.out.ext hb)
    have lR6 := R6.out.lt
    replace R8 := Lib.hid (R8.out.ext hb)
    have lR8 := R8.out.lt
    clear hb
    have k0 := R0.out.cell_of (i := 0) rfl
    have k1 := R0.out.cell_of (i := 1) rfl
    have k2 := R0.out.cell_of (i := 2) rfl
    have k3 := R0.out.cell_of (i := 3) rfl
    have k4 := R0.out.cell_of (i := 4) rfl
    have k5 := R0.out.cell_of (i := 5) rfl
    have k6 := R0.out.cell_of (i := 6) rfl
    have d0 := R4.out.cell_of (i := 0) rfl
    have d1 := R4.out.cell_of (i := 1) rfl
    have d2 := R4.out.cell_of (i := 2) rfl
    have d3 := R4.out.cell_of (i := 3) rfl
    have y0 := R6.out.cell_of (i := 0) rfl
    have y1 := R6.out.cell_of (i := 1) rfl
    have y2 := R6.out.cell_of (i := 2) rfl
    have y3 := R6.out.cell_of (i := 3) rfl
    have y4 := R6.out.cell_of (i := 4) rfl
    have y5 := R6.out.cell_of (i := 5) rfl
    have y6 := R6.out.cell_of (i := 6) rfl
    have z0 := R8.out.cell_of (i := 0) rfl
    have z1 := R8.out.cell_of (i := 1) rfl
    have z2 := R8.out.cell_of (i := 2) rfl
    have z3 := R8.out.cell_of (i := 3) rfl
    go_wp2_with fail
    clear k0 k1 k2 k3 k4 k5 k6 d0 d1 d2 d3 y0 y1 y2 y3 y4 y5 y6 z0 z1 z2 z3
    have k0 := R0.out.cell_of (i := 0) rfl
    have k1 := R0.out.cell_of (i := 1) rfl
    have k2 := R0.out.cell_of (i := 2) rfl
    have k3 := R0.out.cell_of (i := 3) rfl
    have k4 := R0.out.cell_of (i := 4) rfl
    have k5 := R0.out.cell_of (i := 5) rfl
    have k6 := R0.out.cell_of (i := 6) rfl
    have y0 := R6.out.cell_of (i := 0) rfl
    have y1 := R6.out.cell_of (i := 1) rfl
    have y2 := R6.out.cell_of (i := 2) rfl
    have y3 := R6.out.cell_of (i := 3) rfl
    have y4 := R6.out.cell_of (i := 4) rfl
    have y5 := R6.out.cell_of (i := 5) rfl
    have y6 := R6.out.cell_of (i := 6) rfl
    refine wp_region_calm [0,1] [2,3,4] (by kernel_rfl) (by kernel_rfl) ?_
    iterate 2 ((refine calm_yes rfl rfl (fun w' hC => (by have k0 := hC.cell k0; have k1 := hC.cell k1; have k2 := hC.cell k2; have k3 := hC.cell k3; have k4 := hC.cell k4; have k5 := hC.cell k5; have k6 := hC.cell k6; have y0 := hC.cell y0; have y1 := hC.cell y1; have y2 := hC.cell y2; have y3 := hC.cell y3; have y4 := hC.cell y4; have y5 := hC.cell y5; have y6 := hC.cell y6; go_simp; rfl)) (fun K hK => ?_); go_simp; refine hK _ ?_; clear hK K))
    refine calm_nil (fun wa hCa => ?_)
    clear k0 k1 k2 k3 k4 k5 k6 y0 y1 y2 y3 y4 y5 y6
    have Ea := ext_cls hCa
    refine late_fn rfl rfl rfl Try.func13 (by kernel_rfl) rfl (by go_simp) (fun wb hxb K hK => (KT.out Hsm.out wb (H.out.ext verbK_stab (Ext.trans Ea hxb)) (P.out.ext stR_stab (Ext.trans Ea hxb))).mono ?_)
    rintro e wc ⟨us7, rfl, hu7, hb⟩
    obtain ⟨A7, c7, A8, c8, rfl, hv7, _, hs7, _⟩ := flO_R hu7
    have Ec := Ext.trans (Ext.trans Ea hxb) hb
    have hCc := Cls.ext (Cls.ext hCa hxb) hb
    refine ⟨_, rfl, hK _ _ ⟨fun _ => hCc, ?_⟩⟩
    clear hK K
    refine late_fn rfl rfl rfl Try.func16 (by kernel_rfl) rfl (by go_simp) (fun wd hxd K hK => (c_eqFill A5 A7 c5 c7 x A6 A8 c6 c8 wd (H5.out.ext verbK_stab (Ext.trans Ec hxd)) (P5.out.ext stR_stab (Ext.trans Ec hxd)) (hv7.ext verbK_stab hxd) (hs7.ext stR_stab hxd) Hsm.out).mono ?_)
    rintro e we ⟨rfl, hbe⟩
    refine ⟨_, rfl, hK _ _ ⟨fun _ => Cls.ext (Cls.ext hCc hxd) hbe, ?_⟩⟩
    clear hK K
    have E8 := Lib.hid (Ext.trans E.out (Ext.trans Ec (Ext.trans hxd hbe)))
    clear hv7 hs7 hu7 hb hbe hxb hxd hCa hCc Ea Ec
    refine late_free (by kernel_rfl) rfl rfl (fun wf hxf K hK => ?_)
    go_simp
    refine hK _ _ ?_
    clear hK K
    refine late_nil (fun wz hxz => ?_)
    have E9 := Lib.hid (Ext.trans E8.out (Ext.trans hxf hxz))
    clear hxf hxz
    go_wp2
    go_ret
    exact ⟨rfl, E9.out⟩

theorem opens0 : Opens Try.prog 40 (flR ) :=  opens_fl (opens_struct3 (c0 := 1) (c1 := 1) (c2 := 5) Try.underlying40 (by kernel_rfl) (by kernel_rfl) (by kernel_rfl) (opens_slice Try.underlying33 (by kernel_rfl) (by decide) (opens_vb Try.underlying88 (by kernel_rfl) (by kernel_rfl) (by kernel_rfl) (by kernel_rfl) (by kernel_rfl) (by kernel_rfl) Try.underlying86 Try.underlying35 (by kernel_rfl) (by kernel_rfl) (by kernel_rfl) (by kernel_rfl) (by kernel_rfl) (by kernel_rfl) (by kernel_rfl))) (opens_int (by kernel_rfl)) (opens_struct3 (c0 := 2) (c1 := 2) (c2 := 1) Try.underlying38 (by kernel_rfl) (by kernel_rfl) (by kernel_rfl) (opens_pt Try.underlying35 (by kernel_rfl) (by kernel_rfl) (by kernel_rfl) (by kernel_rfl) (by kernel_rfl) (by kernel_rfl) (by kernel_rfl)) (opens_pt Try.underlying35 (by kernel_rfl) (by kernel_rfl) (by kernel_rfl) (by kernel_rfl) (by kernel_rfl) (by kernel_rfl) (by kernel_rfl)) (opens_slice Try.underlying36 (by kernel_rfl) (by decide) (opens_st Try.underlying126 (by kernel_rfl) (by kernel_rfl) (by kernel_rfl) (by kernel_rfl) (by kernel_rfl) (by kernel_rfl) (opens_bx Try.underlying124 (by kernel_rfl) (by kernel_rfl) (by kernel_rfl) (by kernel_rfl)))))) 
set_option maxRecDepth 100000 in
theorem lifted (os : Os) (started : os.Started) (H : Type) (enc : TypeId × Value → H) :
    ReturnsInHanded {} Try.checked os 4 .any (Rows.fnExactFillBoxSpec.pre6 enc Try.prog Try.f4 Rows.fnExactFillBoxRow.domain false) (Rows.fnExactFillBoxSpec.post enc Try.prog Try.f4 false true false false) := by
  refine returnsInHanded_of_change (C := Try.checked) own started (by kernel_rfl) Try.func4
    (ChangeSpec.witness6 (enc := enc) (C := Try.checked) false ⟨#[], #[ .agg #[.slice none 0 0, .int .i64 0, .int .i64 0, .int .i64 0, .int .i64 0, .int .i64 0, .slice none 0 0]], []⟩ 8 (by kernel_rfl) (by kernel_rfl) (by kernel_rfl) (by kernel_rfl)) ?_
  intro W base args ds gs before hval0 hW hcnd _
  have hval : ∀ (j : Nat) t v, Try.f4.params[j]? = some t → args[j]? = some v → Value.okWide Try.prog W .any base t v := hval0
  have hW' := hW
  obtain ⟨p, q, hA0, hV, rfl, hfz, hnd⟩ := hW
  have hA : DataW.TrodAll enc Try.prog W 0 (fun _ => true) true Try.f4.params.toList args.toList ds p := hA0
  rw [Try.params4] at hA hval
  obtain ⟨v0, vs0, d0, ds0, p0, q0, hargs, rfl, rfl, h0, r0⟩ := trodAll_cons hA
  obtain ⟨rfl, rfl, rfl⟩ := trodAll_nil r0
  obtain rfl : args = #[v0] := by cases args; simp_all
  obtain ⟨rfl, rfl, rfl⟩ := trodVars_none hV
  have k0 := h0
  have lt0 : ∀ x ∈ p0, x.block < W.heap.size := by obtain ⟨m, hm⟩ := k0; exact DataW.trod_lt m _ _ _ hm
  obtain ⟨x0, us0, rfl, r0⟩ := open_struct_arg Try.underlying40 opens0 (hval 0 40 _ rfl rfl) h0
  clear hA0 hval0
  refine (walk x0 us0 W r0).mono fun e W' ⟨he, bel⟩ => ?_
  subst he
  exact ⟨_, rfl, _, _, _, [], _, [], hW', trodAll_mk1 (shut_bool Try.underlying4 _), (trodAll_cons_mk (Below.trod laidOut (by kernel_rfl) (of_decide_eq_true (by kernel_rfl)) k0 bel lt0) trodAll_mk0), rfl, bel.frame _, fun h => by cases h⟩
theorem over : Rows.fnExactFillBoxRow.holds Try.pinned (OpenSpec.ofChange Rows.fnExactFillBoxSpec) :=
  OpenClaim.holds_of_wide 4 Try.f4 rfl rfl rfl rfl rfl rfl rfl ⟨rfl, rfl, rfl, rfl, rfl⟩ rfl rfl rfl rfl rfl (by kernel_rfl) Try.func4 (by kernel_rfl)
    (of_decide_eq_true (by kernel_rfl)) (by unfold Func.isWrapper; first | (rw [if_pos (by decide +kernel)]; kernel_rfl) | (rw [if_neg (by decide +kernel)]; exact ⟨rfl, rfl⟩))
    (fun os started H enc _ => lifted os started H enc)

theorem proved : Rows.FnExactFillBoxSaid := over

end Go.Proofs.Ytjjnfjnoagfajaa.fnExactFillBox
