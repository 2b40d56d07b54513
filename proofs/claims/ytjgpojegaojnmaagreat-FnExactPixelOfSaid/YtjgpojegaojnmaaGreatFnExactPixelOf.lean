/- PixelOf of the program and PixelOf of the reference return the same for every scene, column and row; the argument is left as it was. -/
import Derived.Test.YtjgpojegaojnmaaGreatFillT
import Derived.Test.YtjgpojegaojnmaaGreatFillE
import Derived.Test.YtjgpojegaojnmaaGreatFillO
import Derived.Test.YtjgpojegaojnmaaGreatPaintQ
import Derived.Test.YtjgpojegaojnmaaGreatPixO
import Derived.Test.YtjgpojegaojnmaaGreatJoin
namespace Go.Proofs.YtjgpojegaojnmaaGreat.fnExactPixelOf
open Go Go.RowKit Go.ChangeShapes Go.WideShapes Go.ChangeAt Go.Deep Reg
attribute [local go_sem] calmAt calmUpon

theorem own : ownKnob Tryz.prog.godebug = none := by kernel_rfl
theorem laidOut : laidOutB Tryz.prog = true := by kernel_rfl

set_option maxRecDepth 100000 in
set_option maxHeartbeats 8000000 in
theorem walk (x : Int × Int × List FlD) (us : List Value) (c r : Int) (w : World) (hu : scR w x us) :
    Calls Tryz.prog 3 #[.agg us.toArray, .int .i64 c, .int .i64 r] w fun e w' => e = .returned (.bool true) ∧ Below w.heap.size w w' := by
  obtain ⟨W, H, fs⟩ := x
  obtain ⟨A, cap, rfl, hF, hsl⟩ := hu
  dsimp only at hF hsl
  have hl9 : fs.length ≤ 9223372036854775807 := by have h := hsl.2; unfold maxLen at h; omega
  have P := Lib.hid hF
  have E := Lib.hid (Below.refl w.heap.size w)
  obtain ⟨M, hM⟩ : ∃ M, pixR W H fs c r = M := ⟨_, rfl⟩
  have HM := Lib.hid hM
  clear hM hF
  obtain ⟨m1, m2, m3, m4⟩ := M
  go_enter Tryz.func3, Tryz.ntmps3
  go_wp2_with fail
  first | refine gen_calls ?_ | refine gen_code ?_ | refine gen_list ?_
  intro w0 hW
  obtain ⟨hb, hR0⟩ := new1 hW
  clear hW
  replace E := Lib.hid (Ext.trans E.out hb)
  replace P := Lib.hid (P.out.ext flR_stab hb)
  clear hb
  have R0 := Lib.hid hR0
  have lR0 := R0.out.lt
  clear hR0
  have k0 := R0.out.cell_of (i := 0) rfl
  have k1 := R0.out.cell_of (i := 1) rfl
  have k2 := R0.out.cell_of (i := 2) rfl
  go_wp2_with fail
  clear k0 k1 k2
  refine (c_szScene 1048576 W H A cap fs _ (by omega) (by omega) P.out hl9).mono ?_
  rintro e w1 ⟨m, rfl, hm, hb⟩
  replace E := Lib.hid (Ext.trans E.out hb)
  replace P := Lib.hid (P.out.ext flR_stab hb)
  replace R0 := Lib.hid (R0.out.ext hb)
  have lR0 := R0.out.lt
  clear hb
  have k0 := R0.out.cell_of (i := 0) rfl
  have k1 := R0.out.cell_of (i := 1) rfl
  have k2 := R0.out.cell_of (i := 2) rfl
  have Hm := Lib.hid hm
  clear hm
  by_cases hneg : m < 0
  · go_wp2
    go_ret
    exact ⟨rfl, E.out⟩
  · have Hsm := Lib.hid (Hm.out (by omega)).2
    have hl := Hsm.out.1
    go_wp2_with fail
    clear k0 k1 k2
    refine (c_toScene W H A cap fs _ P.out Hsm.out).mono ?_
    rintro e w2 ⟨b2, cs2, rfl, _, hr2, hf2, hb⟩
    replace E := Lib.hid (Ext.trans E.out hb)
    replace P := Lib.hid (P.out.ext flR_stab hb)
    replace R0 := Lib.hid (R0.out.ext hb)
    have lR0 := R0.out.lt
    clear hb
    have Q2 := Lib.hid (((hf2.in_ hr2).imp (fun _ _ h => flO_R h)))
    have k0 := R0.out.cell_of (i := 0) rfl
    have k1 := R0.out.cell_of (i := 1) rfl
    have k2 := R0.out.cell_of (i := 2) rfl
    clear hr2 hf2
    go_wp2_with fail
    clear k0 k1 k2
    refine (c_sPixelOf W H _ fs.length fs c r _ Q2.out Hsm.out).mono ?_
    rw [HM.out]
    rintro e w3 ⟨rfl, hb⟩
    replace E := Lib.hid (Ext.trans E.out hb)
    replace P := Lib.hid (P.out.ext flR_stab hb)
    replace R0 := Lib.hid (R0.out.ext hb)
    have lR0 := R0.out.lt
    replace Q2 := Lib.hid (Q2.out.ext flR_stab hb)
    clear hb
    have k0 := R0.out.cell_of (i := 0) rfl
    have k1 := R0.out.cell_of (i := 1) rfl
    have k2 := R0.out.cell_of (i := 2) rfl
    go_wp2_with fail
    clear k0 k1 k2
    first | refine gen_calls ?_ | refine gen_code ?_ | refine gen_list ?_
    intro w4 hW
    obtain ⟨hb, hR4⟩ := new1 hW
    clear hW
    replace E := Lib.hid (Ext.trans E.out hb)
    replace P := Lib.hid (P.out.ext flR_stab hb)
    replace R0 := Lib.hid (R0.out.ext hb)
    have lR0 := R0.out.lt
    clear hb
    have R4 := Lib.hid hR4
    have lR4 := R4.out.lt
    clear hR4
    have k0 := R0.out.cell_of (i := 0) rfl
    have k1 := R0.out.cell_of (i := 1) rfl
    have k2 := R0.out.cell_of (i := 2) rfl
    clear k0 k1 k2
    have k0 := R0.out.cell_of (i := 0) rfl
    have k1 := R0.out.cell_of (i := 1) rfl
    have k2 := R0.out.cell_of (i := 2) rfl
    have g0 := R4.out.cell_of (i := 0) rfl
    have g1 := R4.out.cell_of (i := 1) rfl
    have g2 := R4.out.cell_of (i := 2) rfl
    have g3 := R4.out.cell_of (i := 3) rfl
    go_wp2_with fail
    clear k0 k1 k2 g0 g1 g2 g3
    refine (c_toScene W H A cap fs _ P.out Hsm.out).mono ?_
    rintro e w5 ⟨b4, cs4, rfl, _, hr4, hf4, hb⟩
    replace E := Lib.hid (Ext.trans E.out hb)
    replace P := Lib.hid (P.out.ext flR_stab hb)
    replace R0 := Lib.hid (R0.out.ext hb)
    have lR0 := R0.out.lt
    replace R4 := Lib.hid (R4.out.ext hb)
    have lR4 := R4.out.lt
    clear hb
    have Q4 := Lib.hid (((hf4.in_ hr4).imp (fun _ _ h => flO_R h)))
    have k0 := R0.out.cell_of (i := 0) rfl
    have k1 := R0.out.cell_of (i := 1) rfl
    have k2 := R0.out.cell_of (i := 2) rfl
    have g0 := R4.out.cell_of (i := 0) rfl
    have g1 := R4.out.cell_of (i := 1) rfl
    have g2 := R4.out.cell_of (i := 2) rfl
    have g3 := R4.out.cell_of (i := 3) rfl
    clear hr4 hf4
    go_wp2_with fail
    clear k0 k1 k2 g0 g1 g2 g3
    first | refine gen_calls ?_ | refine gen_code ?_ | refine gen_list ?_
    intro w6 hW
    obtain ⟨hb, hR5⟩ := new1 hW
    clear hW
    replace E := Lib.hid (Ext.trans E.out hb)
    replace P := Lib.hid (P.out.ext flR_stab hb)
    replace R0 := Lib.hid (R0.out.ext hb)
    have lR0 := R0.out.lt
    replace R4 := Lib.hid (R4.out.ext hb)
    have lR4 := R4.out.lt
    replace Q4 := Lib.hid (Q4.out.ext flR_stab hb)
    clear hb
    have R5 := Lib.hid hR5
    have lR5 := R5.out.lt
    clear hR5
    have k0 := R0.out.cell_of (i := 0) rfl
    have k1 := R0.out.cell_of (i := 1) rfl
    have k2 := R0.out.cell_of (i := 2) rfl
    have g0 := R4.out.cell_of (i := 0) rfl
    have g1 := R4.out.cell_of (i := 1) rfl
    have g2 := R4.out.cell_of (i := 2) rfl
    have g3 := R4.out.cell_of (i := 3) rfl
    clear k0 k1 k2 g0 g1 g2 g3
    have k0 := R0.out.cell_of (i := 0) rfl
    have k1 := R0.out.cell_of (i := 1) rfl
    have k2 := R0.out.cell_of (i := 2) rfl
    have g0 := R4.out.cell_of (i := 0) rfl
    have g1 := R4.out.cell_of (i := 1) rfl
    have g2 := R4.out.cell_of (i := 2) rfl
    have g3 := R4.out.cell_of (i := 3) rfl
    have d0 := R5.out.cell_of (i := 0) rfl
    have d1 := R5.out.cell_of (i := 1) rfl
    have d2 := R5.out.cell_of (i := 2) rfl
    go_wp2_with fail
    clear k0 k1 k2 g0 g1 g2 g3 d0 d1 d2
    refine (c_iPixelOf W H _ fs.length fs c r _ Q4.out Hsm.out).mono ?_
    rw [HM.out]
    rintro e w7 ⟨rfl, hb⟩
    replace E := Lib.hid (Ext.trans E.out hb)
    replace P := Lib.hid (P.out.ext flR_stab hb)
    replace R0 := Lib.hid (R0.out.ext hb)
    have lR0 := R0.out.lt
    replace R4 := Lib.hid (R4.out.ext hb)
    have lR4 := R4.out.lt
    replace Q4 := Lib.hid (Q4.out.ext flR_stab hb)
    replace R5 := Lib.hid (R5.out.ext hb)
    have lR5 := R5.out.lt
    clear hb
    have k0 := R0.out.cell_of (i := 0) rfl
    have k1 := R0.out.cell_of (i := 1) rfl
    have k2 := R0.out.cell_of (i := 2) rfl
    have g0 := R4.out.cell_of (i := 0) rfl
    have g1 := R4.out.cell_of (i := 1) rfl
    have g2 := R4.out.cell_of (i := 2) rfl
    have g3 := R4.out.cell_of (i := 3) rfl
    have d0 := R5.out.cell_of (i := 0) rfl
    have d1 := R5.out.cell_of (i := 1) rfl
    have d2 := R5.out.cell_of (i := 2) rfl
    go_wp2_with fail
    clear k0 k1 k2 g0 g1 g2 g3 d0 d1 d2
    first | refine gen_calls ?_ | refine gen_code ?_ | refine gen_list ?_
    intro w8 hW
    obtain ⟨hb, hR8⟩ := new1 hW
    clear hW
    replace E := Lib.hid (Ext.trans E.out hb)
    replace P := Lib.hid (P.out.ext flR_stab hb)
    replace R0 := Lib.hid (R0.out.ext hb)
    have lR0 := R0.out.lt
    replace R4 := Lib.hid (R4.out.ext hb)
    have lR4 := R4.out.lt
    replace Q4 := Lib.hid (Q4.out.ext flR_stab hb)
    replace R5 := Lib.hid (R5.out.ext hb)
    have lR5 := R5.out.lt
    clear hb
    have R8 := Lib.hid hR8
    have lR8 := R8.out.lt
    clear hR8
    have k0 := R0.out.cell_of (i := 0) rfl
    have k1 := R0.out.cell_of (i := 1) rfl
    have k2 := R0.out.cell_of (i := 2) rfl
    have g0 := R4.out.cell_of (i := 0) rfl
    have g1 := R4.out.cell_of (i := 1) rfl
    have g2 := R4.out.cell_of (i := 2) rfl
    have g3 := R4.out.cell_of (i := 3) rfl
    have d0 := R5.out.cell_of (i := 0) rfl
    have d1 := R5.out.cell_of (i := 1) rfl
    have d2 := R5.out.cell_of (i := 2) rfl
    clear k0 k1 k2 g0 g1 g2 g3 d0 d1 d2
    have k0 := R0.out.cell_of (i := 0) rfl
    have k1 := R0.out.cell_of (i := 1) rfl
    have k2 := R0.out.cell_of (i := 2) rfl
    have g0 := R4.out.cell_of (i := 0) rfl
    have g1 := R4.out.cell_of (i := 1) rfl
    have g2 := R4.out.cell_of (i := 2) rfl
    have g3 := R4.out.cell_of (i := 3) rfl
    have d0 := R5.out.cell_of (i := 0) rfl
    have d1 := R5.out.cell_of (i := 1) rfl
    have d2 := R5.out.cell_of (i := 2) rfl
    have h0 := R8.out.cell_of (i := 0) rfl
    have h1 := R8.out.cell_of (i := 1) rfl
    have h2 := R8.out.cell_of (i := 2) rfl
    have h3 := R8.out.cell_of (i := 3) rfl
    go_wp2_with fail
    clear k0 k1 k2 g0 g1 g2 g3 d0 d1 d2 h0 h1 h2 h3
    refine (c_eqColor (m1, m2, m3, m4) _).mono ?_
    rintro e w9 ⟨rfl, hb⟩
    replace E := Lib.hid (Ext.trans E.out hb)
    replace P := Lib.hid (P.out.ext flR_stab hb)
    replace R0 := Lib.hid (R0.out.ext hb)
    have lR0 := R0.out.lt
    replace R4 := Lib.hid (R4.out.ext hb)
    have lR4 := R4.out.lt
    replace Q4 := Lib.hid (Q4.out.ext flR_stab hb)
    replace R5 := Lib.hid (R5.out.ext hb)
    have lR5 := R5.out.lt
    replace R8 := Lib.hid (R8.out.ext hb)
    have lR8 := R8.out.lt
    clear hb
    have k0 := R0.out.cell_of (i := 0) rfl
    have k1 := R0.out.cell_of (i := 1) rfl
    have k2 := R0.out.cell_of (i := 2) rfl
    have g0 := R4.out.cell_of (i := 0) rfl
    have g1 := R4.out.cell_of (i := 1) rfl
    have g2 := R4.out.cell_of (i := 2) rfl
    have g3 := R4.out.cell_of (i := 3) rfl
    have d0 := R5.out.cell_of (i := 0) rfl
    have d1 := R5.out.cell_of (i := 1) rfl
    have d2 := R5.out.cell_of (i := 2) rfl
    have h0 := R8.out.cell_of (i := 0) rfl
    have h1 := R8.out.cell_of (i := 1) rfl
    have h2 := R8.out.cell_of (i := 2) rfl
    have h3 := R8.out.cell_of (i := 3) rfl
    go_wp2_with fail
    refine wp_region_calm [0,1] [2,3,4] (by kernel_rfl) (by kernel_rfl) ?_
    iterate 2 ((refine calm_yes rfl rfl (fun w' hC => (by have k0 := hC.cell k0; have k1 := hC.cell k1; have k2 := hC.cell k2; have d0 := hC.cell d0; have d1 := hC.cell d1; have d2 := hC.cell d2; go_simp; rfl)) (fun K hK => ?_); go_simp; refine hK _ ?_; clear hK K))
    refine calm_nil (fun wa hCa => ?_)
    clear k0 k1 k2 g0 g1 g2 g3 d0 d1 d2 h0 h1 h2 h3
    have Ea := ext_cls hCa
    refine late_fn rfl rfl rfl Tryz.func8 (by kernel_rfl) rfl (by go_simp) (fun wb hxb K hK => (c_toScene W H A cap fs wb (P.out.ext flR_stab (Ext.trans Ea hxb)) Hsm.out).mono ?_)
    rintro e wc ⟨b7, cs7, rfl, _, hr7, hf7, hb⟩
    have Ec := Ext.trans (Ext.trans Ea hxb) hb
    have hCc := Cls.ext (Cls.ext hCa hxb) hb
    have Q7 := Lib.hid ((hf7.in_ hr7).imp (fun _ _ h => flO_R h))
    refine ⟨_, rfl, hK _ _ ⟨fun _ => hCc, ?_⟩⟩
    clear hK K
    refine late_fn rfl rfl rfl Tryz.func11 (by kernel_rfl) rfl (by go_simp) (fun wd hxd K hK => (c_eqScene W H _ _ fs.length fs.length fs wd (Q4.out.ext flR_stab (Ext.trans Ec hxd)) (Q7.out.ext flR_stab hxd) Hsm.out).mono ?_)
    rintro e we ⟨rfl, hbe⟩
    refine ⟨_, rfl, hK _ _ ⟨fun _ => Cls.ext (Cls.ext hCc hxd) hbe, ?_⟩⟩
    clear hK K
    have E8 := Lib.hid (Ext.trans E.out (Ext.trans Ec (Ext.trans hxd hbe)))
    clear hr7 hf7 hb hbe hxb hxd hCa hCc Ea Ec
    refine late_free (by kernel_rfl) rfl rfl (fun wf hxf K hK => ?_)
    go_simp
    refine hK _ _ ?_
    clear hK K
    refine late_nil (fun wz hxz => ?_)
    have E9 := Lib.hid (Ext.trans E8.out (Ext.trans hxf hxz))
    clear hxf hxz
    go_wp2
    go_ret
    exact ⟨rfl, E9.out⟩

theorem opens0 : Opens Tryz.prog 24 (scR ) :=  opens_sc (opens_struct3 (c0 := 1) (c1 := 1) (c2 := 1) Tryz.underlying24 (by kernel_rfl) (by kernel_rfl) (by kernel_rfl) (opens_int (by kernel_rfl)) (opens_int (by kernel_rfl)) (opens_slice Tryz.underlying22 (by kernel_rfl) (by decide) (opens_fl (opens_struct3 (c0 := 1) (c1 := 1) (c2 := 5) Tryz.underlying49 (by kernel_rfl) (by kernel_rfl) (by kernel_rfl) (opens_slice Tryz.underlying42 (by kernel_rfl) (by decide) (opens_vb Tryz.underlying103 (by kernel_rfl) (by kernel_rfl) (by kernel_rfl) (by kernel_rfl) (by kernel_rfl) (by kernel_rfl) Tryz.underlying101 Tryz.underlying44 (by kernel_rfl) (by kernel_rfl) (by kernel_rfl) (by kernel_rfl) (by kernel_rfl) (by kernel_rfl) (by kernel_rfl))) (opens_int (by kernel_rfl)) (opens_struct3 (c0 := 2) (c1 := 2) (c2 := 1) Tryz.underlying47 (by kernel_rfl) (by kernel_rfl) (by kernel_rfl) (opens_pt Tryz.underlying44 (by kernel_rfl) (by kernel_rfl) (by kernel_rfl) (by kernel_rfl) (by kernel_rfl) (by kernel_rfl) (by kernel_rfl)) (opens_pt Tryz.underlying44 (by kernel_rfl) (by kernel_rfl) (by kernel_rfl) (by kernel_rfl) (by kernel_rfl) (by kernel_rfl) (by kernel_rfl)) (opens_slice Tryz.underlying45 (by kernel_rfl) (by decide) (opens_st Tryz.underlying152 (by kernel_rfl) (by kernel_rfl) (by kernel_rfl) (by kernel_rfl) (by kernel_rfl) (by kernel_rfl) (opens_bx Tryz.underlying150 (by kernel_rfl) (by kernel_rfl) (by kernel_rfl) (by kernel_rfl))))))))) 
set_option maxRecDepth 100000 in
theorem lifted (os : Os) (started : os.Started) (H : Type) (enc : TypeId × Value → H) :
    ReturnsInHanded {} Tryz.checked os 3 .any (Rows.fnExactPixelOfSpec.pre6 enc Tryz.prog Tryz.f3 Rows.fnExactPixelOfRow.domain false) (Rows.fnExactPixelOfSpec.post enc Tryz.prog Tryz.f3 false true false false) := by
  refine returnsInHanded_of_change (C := Tryz.checked) own started (by kernel_rfl) Tryz.func3
    (ChangeSpec.witness6 (enc := enc) (C := Tryz.checked) false ⟨#[], #[ .agg #[.int .i64 0, .int .i64 0, .slice none 0 0], .int .i64 0, .int .i64 0], []⟩ 8 (by kernel_rfl) (by kernel_rfl) (by kernel_rfl) (by kernel_rfl)) ?_
  intro W base args ds gs before hval0 hW hcnd _
  have hval : ∀ (j : Nat) t v, Tryz.f3.params[j]? = some t → args[j]? = some v → Value.okWide Tryz.prog W .any base t v := hval0
  have hW' := hW
  obtain ⟨p, q, hA0, hV, rfl, hfz, hnd⟩ := hW
  have hA : DataW.TrodAll enc Tryz.prog W 0 (fun _ => true) true Tryz.f3.params.toList args.toList ds p := hA0
  rw [Tryz.params3] at hA hval
  obtain ⟨v0, vs0, d0, ds0, p0, q0, hargs, rfl, rfl, h0, r0⟩ := trodAll_cons hA
  obtain ⟨v1, vs1, d1, ds1, p1, q1, rfl, rfl, rfl, h1, r1⟩ := trodAll_cons r0
  obtain ⟨v2, vs2, d2, ds2, p2, q2, rfl, rfl, rfl, h2, r2⟩ := trodAll_cons r1
  obtain ⟨rfl, rfl, rfl⟩ := trodAll_nil r2
  obtain rfl : args = #[v0, v1, v2] := by cases args; simp_all
  obtain ⟨rfl, rfl, rfl⟩ := trodVars_none hV
  obtain ⟨n1, rfl⟩ := okWide_int Tryz.underlying3 (hval 1 3 v1 rfl rfl)
  obtain ⟨n2, rfl⟩ := okWide_int Tryz.underlying3 (hval 2 3 v2 rfl rfl)
  have k0 := h0
  have lt0 : ∀ x ∈ p0, x.block < W.heap.size := by obtain ⟨m, hm⟩ := k0; exact DataW.trod_lt m _ _ _ hm
  have k1 := h1
  have lt1 : ∀ x ∈ p1, x.block < W.heap.size := by obtain ⟨m, hm⟩ := k1; exact DataW.trod_lt m _ _ _ hm
  have k2 := h2
  have lt2 : ∀ x ∈ p2, x.block < W.heap.size := by obtain ⟨m, hm⟩ := k2; exact DataW.trod_lt m _ _ _ hm
  obtain ⟨x0, us0, rfl, z0⟩ := open_struct_arg Tryz.underlying24 opens0 (hval 0 24 _ rfl rfl) h0
  clear hA0 hval0
  refine (walk x0 us0 n1 n2 W z0).mono fun e W' ⟨he, bel⟩ => ?_
  subst he
  exact ⟨_, rfl, _, _, _, [], _, [], hW', trodAll_mk1 (shut_bool Tryz.underlying4 _), (trodAll_cons_mk (Below.trod laidOut (by kernel_rfl) (of_decide_eq_true (by kernel_rfl)) k0 bel lt0) (trodAll_cons_mk (Below.trod laidOut (by kernel_rfl) (of_decide_eq_true (by kernel_rfl)) k1 bel lt1) (trodAll_cons_mk (Below.trod laidOut (by kernel_rfl) (of_decide_eq_true (by kernel_rfl)) k2 bel lt2) trodAll_mk0))), rfl, bel.frame _, fun h => by cases h⟩
theorem joinedA : joinA Tryz.pinned.checked.prog 3 Tryz.f3 Rows.fnExactPixelOfSpec Rows.fnExactPixelOfRow = true := by kernel_rfl
theorem joinedB : joinB Tryz.pinned.checked.prog Rows.fnExactPixelOfRow = true := by kernel_rfl
theorem over : Rows.fnExactPixelOfRow.holds Tryz.pinned (OpenSpec.ofChange Rows.fnExactPixelOfSpec) :=
  OpenClaim.holds_of_wide 3 Tryz.f3 rfl rfl rfl rfl rfl rfl rfl ⟨rfl, rfl, rfl, rfl, rfl⟩ rfl rfl rfl rfl rfl (by kernel_rfl) Tryz.func3 (joined_of joinedA joinedB)
    (of_decide_eq_true (by kernel_rfl)) (by unfold Func.isWrapper; first | (rw [if_pos (by decide +kernel)]; kernel_rfl) | (rw [if_neg (by decide +kernel)]; exact ⟨rfl, rfl⟩))
    (fun os started H enc _ => lifted os started H enc)

theorem proved : Rows.FnExactPixelOfSaid := over

end Go.Proofs.YtjgpojegaojnmaaGreat.fnExactPixelOf
