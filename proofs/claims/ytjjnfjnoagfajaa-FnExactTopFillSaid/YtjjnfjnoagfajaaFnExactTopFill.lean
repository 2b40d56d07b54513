/- TopFill of the program and TopFill of the reference return the same for every scene and point; the argument is left as it was. -/
import Derived.Test.YtjjnfjnoagfajaaFillT
import Derived.Test.YtjjnfjnoagfajaaFillE
import Derived.Test.YtjjnfjnoagfajaaFillO
import Derived.Test.YtjjnfjnoagfajaaTopI
namespace Go.Proofs.Ytjjnfjnoagfajaa.fnExactTopFill
open Go Go.RowKit Go.ChangeShapes Go.WideShapes Go.ChangeAt Go.Deep Reg
attribute [local go_sem] calmAt calmUpon

theorem own : ownKnob Try.prog.godebug = none := by kernel_rfl
theorem laidOut : laidOutB Try.prog = true := by kernel_rfl

set_option maxRecDepth 100000 in
set_option maxHeartbeats 8000000 in
theorem walk (x : Int × Int × List FlD) (us : List Value) (pp : Pt) (vs : List Value) (w : World) (hu : scR w x us) (hv : ptR w pp vs) :
    Calls Try.prog 5 #[.agg us.toArray, .agg vs.toArray] w fun e w' => e = .returned (.bool true) ∧ Below w.heap.size w w' := by
  obtain ⟨W, H, fs⟩ := x
  obtain ⟨px, py⟩ := pp
  obtain ⟨A, cap, rfl, hF, hsl⟩ := hu
  obtain rfl : vs = [.int .i64 px, .int .i64 py] := hv
  dsimp only at hF hsl
  have hl9 : fs.length ≤ 9223372036854775807 := by have h := hsl.2; unfold maxLen at h; omega
  have P := Lib.hid hF
  have E := Lib.hid (Below.refl w.heap.size w)
  obtain ⟨M, hM⟩ : ∃ M, topR W H fs (px, py) = M := ⟨_, rfl⟩
  have HM := Lib.hid hM
  have hbb : (M != M) = false := by simp
  clear hM hF
  go_enter Try.func5, Try.ntmps5
  go_wp2_with fail
  first | refine gen_calls ?_ | refine gen_code ?_ | refine gen_list ?_
  intro w0 hW
  obtain ⟨hb, hR0, hR1⟩ := new2 hW
  clear hW
  replace E := Lib.hid (Ext.trans E.out hb)
  replace P := Lib.hid (P.out.ext flR_stab hb)
  clear hb
  have R0 := Lib.hid hR0
  have lR0 := R0.out.lt
  clear hR0
  have R1 := Lib.hid hR1
  have lR1 := R1.out.lt
  clear hR1
  have k0 := R0.out.cell_of (i := 0) rfl
  have k1 := R0.out.cell_of (i := 1) rfl
  have k2 := R0.out.cell_of (i := 2) rfl
  have m0 := R1.out.cell_of (i := 0) rfl
  have m1 := R1.out.cell_of (i := 1) rfl
  go_wp2_with fail
  clear k0 k1 k2 m0 m1
  refine (c_szScene 1048576 W H A cap fs _ (by omega) (by omega) P.out hl9).mono ?_
  rintro e w1 ⟨m, rfl, hm, hb⟩
  replace E := Lib.hid (Ext.trans E.out hb)
  replace P := Lib.hid (P.out.ext flR_stab hb)
  replace R0 := Lib.hid (R0.out.ext hb)
  have lR0 := R0.out.lt
  replace R1 := Lib.hid (R1.out.ext hb)
  have lR1 := R1.out.lt
  clear hb
  have k0 := R0.out.cell_of (i := 0) rfl
  have k1 := R0.out.cell_of (i := 1) rfl
  have k2 := R0.out.cell_of (i := 2) rfl
  have m0 := R1.out.cell_of (i := 0) rfl
  have m1 := R1.out.cell_of (i := 1) rfl
  have Hm := Lib.hid hm
  clear hm
  by_cases hneg : m < 0
  · go_wp2
    go_ret
    exact ⟨rfl, E.out⟩
  · have Hsm := Lib.hid (Hm.out (by omega)).2
    have hl := Hsm.out.1
    go_wp2_with fail
    refine wp_region_calm [0,2] [1,3,4,5] (by kernel_rfl) (by kernel_rfl) ?_
    iterate 2 ((refine calm_yes rfl rfl (fun w' hC => (by have k0 := hC.cell k0; have k1 := hC.cell k1; have k2 := hC.cell k2; have m0 := hC.cell m0; have m1 := hC.cell m1; go_simp; rfl)) (fun K hK => ?_); go_simp; refine hK _ ?_; clear hK K))
    refine calm_nil (fun wa hCa => ?_)
    clear k0 k1 k2 m0 m1
    have Ea := ext_cls hCa
    refine late_fn rfl rfl rfl Try.func8 (by kernel_rfl) rfl (by go_simp) (fun wb hxb K hK => (c_toScene W H A cap fs wb (P.out.ext flR_stab (Ext.trans Ea hxb)) Hsm.out).mono ?_)
    rintro e wc ⟨b2, cs2, rfl, _, hr2, hf2, hb⟩
    have Ec := Ext.trans (Ext.trans Ea hxb) hb
    have hCc := Cls.ext (Cls.ext hCa hxb) hb
    have Q2 := Lib.hid ((hf2.in_ hr2).imp (fun _ _ h => flO_R h))
    refine ⟨_, rfl, hK _ _ ⟨fun _ => hCc, ?_⟩⟩
    clear hK K hr2 hf2
    refine late_fn rfl rfl rfl Try.func18 (by kernel_rfl) rfl (by go_simp) (fun wd hxd K hK => (c_toPoint (px, py) wd).mono ?_)
    rintro e we ⟨rfl, hbe⟩
    have Ee := Ext.trans hxd hbe
    have hCe := Cls.ext hCc Ee
    refine ⟨_, rfl, hK _ _ ⟨fun _ => hCe, ?_⟩⟩
    clear hK K
    refine late_fn rfl rfl rfl Try.func17 (by kernel_rfl) rfl (by go_simp) (fun wf hxf K hK => (c_sTopFill W H _ fs.length fs (px, py) wf (Q2.out.ext flR_stab (Ext.trans Ee hxf)) Hsm.out).mono ?_)
    rw [HM.out]
    rintro e wg ⟨rfl, hbg⟩
    refine ⟨_, rfl, hK _ _ ⟨fun _ => Cls.ext hCe (Ext.trans hxf hbg), ?_⟩⟩
    clear hK K
    have E8 := Lib.hid (Ext.trans Ec (Ext.trans Ee (Ext.trans hxf hbg)))
    clear hb hbe hxb hxd hxf hbg hCa hCc hCe Ea Ec Ee
    refine late_free (by kernel_rfl) rfl rfl (fun wf hxf K hK => ?_)
    go_simp
    refine hK _ _ ?_
    clear hK K
    refine late_nil (fun wz hxz => ?_)
    have hb := Ext.trans E8.out (Ext.trans hxf hxz)
    clear hxf hxz
    replace E := Lib.hid (Ext.trans E.out hb)
    replace P := Lib.hid (P.out.ext flR_stab hb)
    replace R0 := Lib.hid (R0.out.ext hb)
    have lR0 := R0.out.lt
    replace R1 := Lib.hid (R1.out.ext hb)
    have lR1 := R1.out.lt
    clear hb
    have k0 := R0.out.cell_of (i := 0) rfl
    have k1 := R0.out.cell_of (i := 1) rfl
    have k2 := R0.out.cell_of (i := 2) rfl
    have m0 := R1.out.cell_of (i := 0) rfl
    have m1 := R1.out.cell_of (i := 1) rfl
    go_wp2_with fail
    clear k0 k1 k2 m0 m1
    refine (c_toScene W H A cap fs _ P.out Hsm.out).mono ?_
    rintro e w4 ⟨b4, cs4, rfl, _, hr4, hf4, hb⟩
    replace E := Lib.hid (Ext.trans E.out hb)
    replace P := Lib.hid (P.out.ext flR_stab hb)
    replace R0 := Lib.hid (R0.out.ext hb)
    have lR0 := R0.out.lt
    replace R1 := Lib.hid (R1.out.ext hb)
    have lR1 := R1.out.lt
    clear hb
    have Q4 := Lib.hid (((hf4.in_ hr4).imp (fun _ _ h => flO_R h)))
    have k0 := R0.out.cell_of (i := 0) rfl
    have k1 := R0.out.cell_of (i := 1) rfl
    have k2 := R0.out.cell_of (i := 2) rfl
    have m0 := R1.out.cell_of (i := 0) rfl
    have m1 := R1.out.cell_of (i := 1) rfl
    clear hr4 hf4
    go_wp2_with fail
    clear k0 k1 k2 m0 m1
    first | refine gen_calls ?_ | refine gen_code ?_ | refine gen_list ?_
    intro w5 hW
    obtain ⟨hb, hR5⟩ := new1 hW
    clear hW
    replace E := Lib.hid (Ext.trans E.out hb)
    replace P := Lib.hid (P.out.ext flR_stab hb)
    replace R0 := Lib.hid (R0.out.ext hb)
    have lR0 := R0.out.lt
    replace R1 := Lib.hid (R1.out.ext hb)
    have lR1 := R1.out.lt
    replace Q4 := Lib.hid (Q4.out.ext flR_stab hb)
    clear hb
    have R5 := Lib.hid hR5
    have lR5 := R5.out.lt
    clear hR5
    have k0 := R0.out.cell_of (i := 0) rfl
    have k1 := R0.out.cell_of (i := 1) rfl
    have k2 := R0.out.cell_of (i := 2) rfl
    have m0 := R1.out.cell_of (i := 0) rfl
    have m1 := R1.out.cell_of (i := 1) rfl
    clear k0 k1 k2 m0 m1
    have k0 := R0.out.cell_of (i := 0) rfl
    have k1 := R0.out.cell_of (i := 1) rfl
    have k2 := R0.out.cell_of (i := 2) rfl
    have m0 := R1.out.cell_of (i := 0) rfl
    have m1 := R1.out.cell_of (i := 1) rfl
    have d0 := R5.out.cell_of (i := 0) rfl
    have d1 := R5.out.cell_of (i := 1) rfl
    have d2 := R5.out.cell_of (i := 2) rfl
    go_wp2_with fail
    refine wp_region_calm [0,1] [2,3,4] (by kernel_rfl) (by kernel_rfl) ?_
    iterate 2 ((refine calm_yes rfl rfl (fun w' hC => (by have k0 := hC.cell k0; have k1 := hC.cell k1; have k2 := hC.cell k2; have m0 := hC.cell m0; have m1 := hC.cell m1; have d0 := hC.cell d0; have d1 := hC.cell d1; have d2 := hC.cell d2; go_simp; rfl)) (fun K hK => ?_); go_simp; refine hK _ ?_; clear hK K))
    refine calm_nil (fun wa hCa => ?_)
    clear k0 k1 k2 m0 m1 d0 d1 d2
    have Ea := ext_cls hCa
    refine late_fn rfl rfl rfl Try.func18 (by kernel_rfl) rfl (by go_simp) (fun wd hxd K hK => (c_toPoint (px, py) wd).mono ?_)
    rintro e we ⟨rfl, hbe⟩
    have Ee := Ext.trans Ea (Ext.trans hxd hbe)
    have hCe := Cls.ext hCa (Ext.trans hxd hbe)
    refine ⟨_, rfl, hK _ _ ⟨fun _ => hCe, ?_⟩⟩
    clear hK K
    refine late_fn rfl rfl rfl Try.func19 (by kernel_rfl) rfl (by go_simp) (fun wf hxf K hK => (c_iTopFill W H _ fs.length fs (px, py) wf (Q4.out.ext flR_stab (Ext.trans Ee hxf)) Hsm.out).mono ?_)
    rw [HM.out]
    rintro e wg ⟨rfl, hbg⟩
    refine ⟨_, rfl, hK _ _ ⟨fun _ => Cls.ext hCe (Ext.trans hxf hbg), ?_⟩⟩
    clear hK K
    have E8 := Lib.hid (Ext.trans Ee (Ext.trans hxf hbg))
    clear hbe hxd hxf hbg hCa hCe Ea Ee
    refine late_free (by kernel_rfl) rfl rfl (fun wf hxf K hK => ?_)
    go_simp
    refine hK _ _ ?_
    clear hK K
    refine late_nil (fun wz hxz => ?_)
    have hb := Ext.trans E8.out (Ext.trans hxf hxz)
    clear hxf hxz
    replace E := Lib.hid (Ext.trans E.out hb)
    replace P := Lib.hid (P.out.ext flR_stab hb)
    replace R0 := Lib.hid (R0.out.ext hb)
    have lR0 := R0.out.lt
    replace R1 := Lib.hid (R1.out.ext hb)
    have lR1 := R1.out.lt
    replace Q4 := Lib.hid (Q4.out.ext flR_stab hb)
    replace R5 := Lib.hid (R5.out.ext hb)
    have lR5 := R5.out.lt
    clear hb
    have k0 := R0.out.cell_of (i := 0) rfl
    have k1 := R0.out.cell_of (i := 1) rfl
    have k2 := R0.out.cell_of (i := 2) rfl
    have m0 := R1.out.cell_of (i := 0) rfl
    have m1 := R1.out.cell_of (i := 1) rfl
    have d0 := R5.out.cell_of (i := 0) rfl
    have d1 := R5.out.cell_of (i := 1) rfl
    have d2 := R5.out.cell_of (i := 2) rfl
    go_wp2_with fail
    refine wp_region_calm [0,1] [2,3,4] (by kernel_rfl) (by kernel_rfl) ?_
    iterate 2 ((refine calm_yes rfl rfl (fun w' hC => (by have k0 := hC.cell k0; have k1 := hC.cell k1; have k2 := hC.cell k2; have d0 := hC.cell d0; have d1 := hC.cell d1; have d2 := hC.cell d2; go_simp; rfl)) (fun K hK => ?_); go_simp; refine hK _ ?_; clear hK K))
    refine calm_nil (fun wa hCa => ?_)
    clear k0 k1 k2 m0 m1 d0 d1 d2
    have Ea := ext_cls hCa
    refine late_fn rfl rfl rfl Try.func8 (by kernel_rfl) rfl (by go_simp) (fun wb hxb K hK => (c_toScene W H A cap fs wb (P.out.ext flR_stab (Ext.trans Ea hxb)) Hsm.out).mono ?_)
    rintro e wc ⟨b7, cs7, rfl, _, hr7, hf7, hb⟩
    have Ec := Ext.trans (Ext.trans Ea hxb) hb
    have hCc := Cls.ext (Cls.ext hCa hxb) hb
    have Q7 := Lib.hid ((hf7.in_ hr7).imp (fun _ _ h => flO_R h))
    refine ⟨_, rfl, hK _ _ ⟨fun _ => hCc, ?_⟩⟩
    clear hK K
    refine late_fn rfl rfl rfl Try.func10 (by kernel_rfl) rfl (by go_simp) (fun wd hxd K hK => (c_eqScene W H _ _ fs.length fs.length fs wd (Q4.out.ext flR_stab (Ext.trans Ec hxd)) (Q7.out.ext flR_stab hxd) Hsm.out).mono ?_)
    rintro e we ⟨rfl, hbe⟩
    refine ⟨_, rfl, hK _ _ ⟨fun _ => Cls.ext (Cls.ext hCc hxd) hbe, ?_⟩⟩
    clear hK K
    have E8 := Lib.hid (Ext.trans E.out (Ext.trans Ec (Ext.trans hxd hbe)))
    clear hr7 hf7 hb hbe hxb hxd hCa hCc Ea Ec
    refine late_free (by kernel_rfl) rfl rfl (fun wf hxf K hK => ?_)
    go_simp
    refine hK _ _ ?_
    clear hK K
    refine late_nil (fun wz hxz => ?_)
    have E9 := Lib.hid (Ext.trans E8.out (Ext.trans hxf hxz))
    clear hxf hxz
    go_wp2
    go_ret
    exact ⟨rfl, E9.out⟩

theorem opens0 : Opens Try.prog 24 (scR ) :=  opens_sc (opens_struct3 (c0 := 1) (c1 := 1) (c2 := 1) Try.underlying24 (by kernel_rfl) (by kernel_rfl) (by kernel_rfl) (opens_int (by kernel_rfl)) (opens_int (by kernel_rfl)) (opens_slice Try.underlying22 (by kernel_rfl) (by decide) (opens_fl (opens_struct3 (c0 := 1) (c1 := 1) (c2 := 5) Try.underlying40 (by kernel_rfl) (by kernel_rfl) (by kernel_rfl) (opens_slice Try.underlying33 (by kernel_rfl) (by decide) (opens_vb Try.underlying88 (by kernel_rfl) (by kernel_rfl) (by kernel_rfl) (by kernel_rfl) (by kernel_rfl) (by kernel_rfl) Try.underlying86 Try.underlying35 (by kernel_rfl) (by kernel_rfl) (by kernel_rfl) (by kernel_rfl) (by kernel_rfl) (by kernel_rfl) (by kernel_rfl))) (opens_int (by kernel_rfl)) (opens_struct3 (c0 := 2) (c1 := 2) (c2 := 1) Try.underlying38 (by kernel_rfl) (by kernel_rfl) (by kernel_rfl) (opens_pt Try.underlying35 (by kernel_rfl) (by kernel_rfl) (by kernel_rfl) (by kernel_rfl) (by kernel_rfl) (by kernel_rfl) (by kernel_rfl)) (opens_pt Try.underlying35 (by kernel_rfl) (by kernel_rfl) (by kernel_rfl) (by kernel_rfl) (by kernel_rfl) (by kernel_rfl) (by kernel_rfl)) (opens_slice Try.underlying36 (by kernel_rfl) (by decide) (opens_st Try.underlying126 (by kernel_rfl) (by kernel_rfl) (by kernel_rfl) (by kernel_rfl) (by kernel_rfl) (by kernel_rfl) (opens_bx Try.underlying124 (by kernel_rfl) (by kernel_rfl) (by kernel_rfl) (by kernel_rfl))))))))) 
theorem opens1 : Opens Try.prog 35 (ptR ) :=  opens_pt Try.underlying35 (by kernel_rfl) (by kernel_rfl) (by kernel_rfl) (by kernel_rfl) (by kernel_rfl) (by kernel_rfl) (by kernel_rfl) 
set_option maxRecDepth 100000 in
theorem lifted (os : Os) (started : os.Started) (H : Type) (enc : TypeId × Value → H) :
    ReturnsInHanded {} Try.checked os 5 .any (Rows.fnExactTopFillSpec.pre6 enc Try.prog Try.f5 Rows.fnExactTopFillRow.domain false) (Rows.fnExactTopFillSpec.post enc Try.prog Try.f5 false true false false) := by
  refine returnsInHanded_of_change (C := Try.checked) own started (by kernel_rfl) Try.func5
    (ChangeSpec.witness6 (enc := enc) (C := Try.checked) false ⟨#[], #[ .agg #[.int .i64 0, .int .i64 0, .slice none 0 0],  .agg #[.int .i64 0, .int .i64 0]], []⟩ 8 (by kernel_rfl) (by kernel_rfl) (by kernel_rfl) (by kernel_rfl)) ?_
  intro W base args ds gs before hval0 hW hcnd _
  have hval : ∀ (j : Nat) t v, Try.f5.params[j]? = some t → args[j]? = some v → Value.okWide Try.prog W .any base t v := hval0
  have hW' := hW
  obtain ⟨p, q, hA0, hV, rfl, hfz, hnd⟩ := hW
  have hA : DataW.TrodAll enc Try.prog W 0 (fun _ => true) true Try.f5.params.toList args.toList ds p := hA0
  rw [Try.params5] at hA hval
  obtain ⟨v0, vs0, d0, ds0, p0, q0, hargs, rfl, rfl, h0, r0⟩ := trodAll_cons hA
  obtain ⟨v1, vs1, d1, ds1, p1, q1, rfl, rfl, rfl, h1, r1⟩ := trodAll_cons r0
  obtain ⟨rfl, rfl, rfl⟩ := trodAll_nil r1
  obtain rfl : args = #[v0, v1] := by cases args; simp_all
  obtain ⟨rfl, rfl, rfl⟩ := trodVars_none hV
  have k0 := h0
  have lt0 : ∀ x ∈ p0, x.block < W.heap.size := by obtain ⟨m, hm⟩ := k0; exact DataW.trod_lt m _ _ _ hm
  have k1 := h1
  have lt1 : ∀ x ∈ p1, x.block < W.heap.size := by obtain ⟨m, hm⟩ := k1; exact DataW.trod_lt m _ _ _ hm
  obtain ⟨x0, us0, rfl, z0⟩ := open_struct_arg Try.underlying24 opens0 (hval 0 24 _ rfl rfl) h0
  obtain ⟨x1, us1, rfl, z1⟩ := open_struct_arg Try.underlying35 opens1 (hval 1 35 _ rfl rfl) h1
  clear hA0 hval0
  refine (walk x0 us0 x1 us1 W z0 z1).mono fun e W' ⟨he, bel⟩ => ?_
  subst he
  exact ⟨_, rfl, _, _, _, [], _, [], hW', trodAll_mk1 (shut_bool Try.underlying4 _), (trodAll_cons_mk (Below.trod laidOut (by kernel_rfl) (of_decide_eq_true (by kernel_rfl)) k0 bel lt0) (trodAll_cons_mk (Below.trod laidOut (by kernel_rfl) (of_decide_eq_true (by kernel_rfl)) k1 bel lt1) trodAll_mk0)), rfl, bel.frame _, fun h => by cases h⟩
theorem over : Rows.fnExactTopFillRow.holds Try.pinned (OpenSpec.ofChange Rows.fnExactTopFillSpec) :=
  OpenClaim.holds_of_wide 5 Try.f5 rfl rfl rfl rfl rfl rfl rfl ⟨rfl, rfl, rfl, rfl, rfl⟩ rfl rfl rfl rfl rfl (by kernel_rfl) Try.func5 (by kernel_rfl)
    (of_decide_eq_true (by kernel_rfl)) (by unfold Func.isWrapper; first | (rw [if_pos (by decide +kernel)]; kernel_rfl) | (rw [if_neg (by decide +kernel)]; exact ⟨rfl, rfl⟩))
    (fun os started H enc _ => lifted os started H enc)

theorem proved : Rows.FnExactTopFillSaid := over

end Go.Proofs.Ytjjnfjnoagfajaa.fnExactTopFill
