/- DrawScene of the program and DrawScene of the reference return the same for every scene, in memory of its own; the argument is left as it was. -/
import Derived.Test.YtjgpojegaojnmaaGreatFillT
import Derived.Test.YtjgpojegaojnmaaGreatFillE
import Derived.Test.YtjgpojegaojnmaaGreatFillO
import Derived.Test.YtjgpojegaojnmaaGreatDrawW
import Derived.Test.YtjgpojegaojnmaaGreatMarkW
import Derived.Test.YtjgpojegaojnmaaGreatQuad
import Derived.Test.YtjgpojegaojnmaaGreatJoin
namespace Go.Proofs.YtjgpojegaojnmaaGreat.fnExactDrawScene
open Go Go.RowKit Go.ChangeShapes Go.WideShapes Go.ChangeAt Go.Deep Reg
attribute [local go_sem] calmAt calmUpon

theorem own : ownKnob Tryz.prog.godebug = none := by kernel_rfl
theorem laidOut : laidOutB Tryz.prog = true := by kernel_rfl

set_option maxRecDepth 100000 in
set_option maxHeartbeats 8000000 in
theorem walk (x : Int × Int × List FlD) (us : List Value) (w : World) (hu : scR w x us) :
    Calls Tryz.prog 4 #[.agg us.toArray] w fun e w' => e = .returned (.bool true) ∧ Below w.heap.size w w' := by
  obtain ⟨W, H, fs⟩ := x
  obtain ⟨A, cap, rfl, hF, hsl⟩ := hu
  dsimp only at hF hsl
  have hl9 : fs.length ≤ 9223372036854775807 := by have h := hsl.2; unfold maxLen at h; omega
  have P := Lib.hid hF
  have E := Lib.hid (Below.refl w.heap.size w)
  have hnl := drawR_len W H fs
  obtain ⟨ns, hM⟩ : ∃ M, drawR W H fs = M := ⟨_, rfl⟩
  rw [hM] at hnl
  have HM := Lib.hid hM
  clear hM hF
  go_enter Tryz.func4, Tryz.ntmps4
  go_wp2_with fail
  first | refine gen_calls ?_ | refine gen_code ?_ | refine gen_list ?_
  intro w0 hW
  obtain ⟨hb, hR0⟩ := new1 hW
  clear hW
  replace E := Lib.hid (Ext.trans E.out hb)
  replace P := Lib.hid (P.out.ext flR_stab hb)
  clear hb
  have R0 := Lib.hid hR0
  have lR0 := R0.out.lt
  clear hR0
  have k0 := R0.out.cell_of (i := 0) rfl
  have k1 := R0.out.cell_of (i := 1) rfl
  have k2 := R0.out.cell_of (i := 2) rfl
  go_wp2_with fail
  clear k0 k1 k2
  refine (c_szScene 1048576 W H A cap fs _ (by omega) (by omega) P.out hl9).mono ?_
  rintro e w1 ⟨m, rfl, hm, hb⟩
  replace E := Lib.hid (Ext.trans E.out hb)
  replace P := Lib.hid (P.out.ext flR_stab hb)
  replace R0 := Lib.hid (R0.out.ext hb)
  have lR0 := R0.out.lt
  clear hb
  have k0 := R0.out.cell_of (i := 0) rfl
  have k1 := R0.out.cell_of (i := 1) rfl
  have k2 := R0.out.cell_of (i := 2) rfl
  have Hm := Lib.hid hm
  clear hm
  by_cases hneg : m < 0
  · go_wp2
    go_ret
    exact ⟨rfl, E.out⟩
  · have Hsm := Lib.hid (Hm.out (by omega)).2
    have hl := Hsm.out.1
    go_wp2_with fail
    clear k0 k1 k2
    refine (c_toScene W H A cap fs _ P.out Hsm.out).mono ?_
    rintro e w2 ⟨b2, cs2, rfl, _, hr2, hf2, hb⟩
    replace E := Lib.hid (Ext.trans E.out hb)
    replace P := Lib.hid (P.out.ext flR_stab hb)
    replace R0 := Lib.hid (R0.out.ext hb)
    have lR0 := R0.out.lt
    clear hb
    have Q2 := Lib.hid (((hf2.in_ hr2).imp (fun _ _ h => flO_R h)))
    have k0 := R0.out.cell_of (i := 0) rfl
    have k1 := R0.out.cell_of (i := 1) rfl
    have k2 := R0.out.cell_of (i := 2) rfl
    clear hr2 hf2
    go_wp2_with fail
    clear k0 k1 k2
    refine (c_sDrawScene W H _ fs.length fs _ Q2.out Hsm.out).mono ?_
    rw [HM.out]
    rintro e w3 ⟨A3, cap3, rfl, ho3, hb⟩
    replace E := Lib.hid (Ext.trans E.out hb)
    replace P := Lib.hid (P.out.ext flR_stab hb)
    replace R0 := Lib.hid (R0.out.ext hb)
    have lR0 := R0.out.lt
    replace Q2 := Lib.hid (Q2.out.ext flR_stab hb)
    clear hb
    have k0 := R0.out.cell_of (i := 0) rfl
    have k1 := R0.out.cell_of (i := 1) rfl
    have k2 := R0.out.cell_of (i := 2) rfl
    clear k0 k1 k2
    have V3 := Lib.hid (cos_own ho3)
    have E3 := Lib.hid E.out
    have P3 := Lib.hid P.out
    have R3 := Lib.hid R0.out
    clear ho3 E Q2
    have E := Lib.hid (Below.refl w3.heap.size w3)
    have k0 := R0.out.cell_of (i := 0) rfl
    have k1 := R0.out.cell_of (i := 1) rfl
    have k2 := R0.out.cell_of (i := 2) rfl
    go_wp2_with fail
    clear k0 k1 k2
    refine (c_toScene W H A cap fs _ P.out Hsm.out).mono ?_
    rintro e w4 ⟨b4, cs4, rfl, hg4, hr4, hf4, hb⟩
    replace P := Lib.hid (P.out.ext flR_stab hb)
    replace R0 := Lib.hid (R0.out.ext hb)
    have lR0 := R0.out.lt
    replace E := Lib.hid (Ext.trans E.out hb)
    clear hb
    have Q4 := Lib.hid (((hf4.in_ hr4).imp (fun _ _ h => flO_R h)))
    have K4 := Lib.hid ((show FlsK w3.heap.size w4.heap.size w4 (.slice (some ⟨b4, 0, none⟩) fs.length fs.length) fs.length from ⟨⟨Nat.le_trans hg4 (Nat.le_of_lt hr4.lt), Nat.le_refl _⟩, FlsS.of_row hf4 hr4 hg4 Hsm.out⟩))
    have k0 := R0.out.cell_of (i := 0) rfl
    have k1 := R0.out.cell_of (i := 1) rfl
    have k2 := R0.out.cell_of (i := 2) rfl
    clear hr4 hf4
    go_wp2_with fail
    clear k0 k1 k2
    first | refine gen_calls ?_ | refine gen_code ?_ | refine gen_list ?_
    intro w5 hW
    obtain ⟨hb, hR5⟩ := new1 hW
    clear hW
    replace P := Lib.hid (P.out.ext flR_stab hb)
    replace R0 := Lib.hid (R0.out.ext hb)
    have lR0 := R0.out.lt
    replace E := Lib.hid (Ext.trans E.out hb)
    replace Q4 := Lib.hid (Q4.out.ext flR_stab hb)
    replace K4 := Lib.hid (K4.out.ext hb)
    clear hb
    have R5 := Lib.hid hR5
    have lR5 := R5.out.lt
    clear hR5
    have k0 := R0.out.cell_of (i := 0) rfl
    have k1 := R0.out.cell_of (i := 1) rfl
    have k2 := R0.out.cell_of (i := 2) rfl
    have hz5 : w4.heap.size ≤ w5.heap.size := K4.out.1.2
    have hz35 : w3.heap.size ≤ w5.heap.size := Nat.le_trans K4.out.1.1 hz5
    clear k0 k1 k2
    have k0 := R0.out.cell_of (i := 0) rfl
    have k1 := R0.out.cell_of (i := 1) rfl
    have k2 := R0.out.cell_of (i := 2) rfl
    have d0 := R5.out.cell_of (i := 0) rfl
    have d1 := R5.out.cell_of (i := 1) rfl
    have d2 := R5.out.cell_of (i := 2) rfl
    go_wp2_with fail
    clear k0 k1 k2 d0 d1 d2
    refine (c_iDrawScene W H _ fs.length fs _ Q4.out Hsm.out).mono ?_
    rw [HM.out]
    rintro e w6 ⟨A5, cap5, rfl, ho5, hb⟩
    replace P := Lib.hid (P.out.ext flR_stab hb)
    replace R0 := Lib.hid (R0.out.ext hb)
    have lR0 := R0.out.lt
    replace E := Lib.hid (Ext.trans E.out hb)
    replace Q4 := Lib.hid (Q4.out.ext flR_stab hb)
    replace K4 := Lib.hid (K4.out.ext hb)
    replace R5 := Lib.hid (R5.out.ext hb)
    have lR5 := R5.out.lt
    clear hb
    have O := Lib.hid (ho5)
    clear ho5
    have k0 := R0.out.cell_of (i := 0) rfl
    have k1 := R0.out.cell_of (i := 1) rfl
    have k2 := R0.out.cell_of (i := 2) rfl
    have d0 := R5.out.cell_of (i := 0) rfl
    have d1 := R5.out.cell_of (i := 1) rfl
    have d2 := R5.out.cell_of (i := 2) rfl
    go_wp2_with fail
    clear k0 k1 k2 d0 d1 d2
    refine (c_eqColorS A5 A3 cap5 cap3 ns _ (cos_own O.out) (V3.out.ext coR_stab E.out) (by omega)).mono ?_
    rintro e w7 ⟨rfl, hb⟩
    replace P := Lib.hid (P.out.ext flR_stab hb)
    replace R0 := Lib.hid (R0.out.ext hb)
    have lR0 := R0.out.lt
    replace E := Lib.hid (Ext.trans E.out hb)
    replace Q4 := Lib.hid (Q4.out.ext flR_stab hb)
    replace K4 := Lib.hid (K4.out.ext hb)
    replace R5 := Lib.hid (R5.out.ext hb)
    have lR5 := R5.out.lt
    replace O := Lib.hid (own_ext O.out hb)
    clear hb
    have k0 := R0.out.cell_of (i := 0) rfl
    have k1 := R0.out.cell_of (i := 1) rfl
    have k2 := R0.out.cell_of (i := 2) rfl
    have d0 := R5.out.cell_of (i := 0) rfl
    have d1 := R5.out.cell_of (i := 1) rfl
    have d2 := R5.out.cell_of (i := 2) rfl
    go_wp2_with fail
    refine wp_region_calm [0,1] [2,3,4] (by kernel_rfl) (by kernel_rfl) ?_
    iterate 2 ((refine calm_yes rfl rfl (fun w' hC => (by have k0 := hC.cell k0; have k1 := hC.cell k1; have k2 := hC.cell k2; have d0 := hC.cell d0; have d1 := hC.cell d1; have d2 := hC.cell d2; go_simp; rfl)) (fun K hK => ?_); go_simp; refine hK _ ?_; clear hK K))
    refine calm_nil (fun wa hCa => ?_)
    clear k0 k1 k2 d0 d1 d2
    have Ea := ext_cls hCa
    refine late_fn rfl rfl rfl Tryz.func8 (by kernel_rfl) rfl (by go_simp) (fun wb hxb K hK => (c_toScene W H A cap fs wb (P.out.ext flR_stab (Ext.trans Ea hxb)) Hsm.out).mono ?_)
    rintro e wc ⟨b7, cs7, rfl, _, hr7, hf7, hb⟩
    have Ec := Ext.trans (Ext.trans Ea hxb) hb
    have hCc := Cls.ext (Cls.ext hCa hxb) hb
    have Q7 := Lib.hid ((hf7.in_ hr7).imp (fun _ _ h => flO_R h))
    refine ⟨_, rfl, hK _ _ ⟨fun _ => hCc, ?_⟩⟩
    clear hK K
    refine late_fn rfl rfl rfl Tryz.func11 (by kernel_rfl) rfl (by go_simp) (fun wd hxd K hK => (c_eqScene W H _ _ fs.length fs.length fs wd (Q4.out.ext flR_stab (Ext.trans Ec hxd)) (Q7.out.ext flR_stab hxd) Hsm.out).mono ?_)
    rintro e we ⟨rfl, hbe⟩
    refine ⟨_, rfl, hK _ _ ⟨fun _ => Cls.ext (Cls.ext hCc hxd) hbe, ?_⟩⟩
    clear hK K
    have E8 := Lib.hid (Ext.trans Ec (Ext.trans hxd hbe))
    clear hr7 hf7 hb hbe hxb hxd hCa hCc Ea Ec Q7
    refine late_free (by kernel_rfl) rfl rfl (fun wf hxf K hK => ?_)
    go_simp
    refine hK _ _ ?_
    clear hK K
    refine late_nil (fun wz hxz => ?_)
    have hb := Ext.trans E8.out (Ext.trans hxf hxz)
    clear hxf hxz E8
    replace P := Lib.hid (P.out.ext flR_stab hb)
    replace R0 := Lib.hid (R0.out.ext hb)
    have lR0 := R0.out.lt
    replace E := Lib.hid (Ext.trans E.out hb)
    replace Q4 := Lib.hid (Q4.out.ext flR_stab hb)
    replace K4 := Lib.hid (K4.out.ext hb)
    replace R5 := Lib.hid (R5.out.ext hb)
    have lR5 := R5.out.lt
    replace O := Lib.hid (own_ext O.out hb)
    clear hb
    have k0 := R0.out.cell_of (i := 0) rfl
    have k1 := R0.out.cell_of (i := 1) rfl
    have k2 := R0.out.cell_of (i := 2) rfl
    have d0 := R5.out.cell_of (i := 0) rfl
    have d1 := R5.out.cell_of (i := 1) rfl
    have d2 := R5.out.cell_of (i := 2) rfl
    go_wp2_with fail
    refine (c_markSceneW W H K4.out 1 (by omega) (by omega)).mono ?_
    rintro e w9 ⟨k9, rfl, hk9, _, hm9⟩
    clear k0 k1 k2 d0 d1 d2
    replace O := Lib.hid (O.out.mkd hm9 hz5)
    replace E : Hid (Below w3.heap.size w3 w9) := Lib.hid (Below.trans E.out hm9.below)
    replace P := Lib.hid (P3.out.ext flR_stab E.out)
    replace R0 := Lib.hid (R3.out.ext E.out)
    clear hm9 K4 Q4 R5 lR5
    have hk9' : ¬ k9 < 0 := by omega
    have hkD : decide (k9 < 0) = false := by simp; omega
    have k0 := R0.out.cell_of (i := 0) rfl
    have k1 := R0.out.cell_of (i := 1) rfl
    have k2 := R0.out.cell_of (i := 2) rfl
    go_wp2_with fail
    clear k0 k1 k2
    refine (c_eqColorS A5 A3 cap5 cap3 ns _ (cos_own O.out) (V3.out.ext coR_stab E.out) (by omega)).mono ?_
    rintro e w10 ⟨rfl, hb⟩
    replace P := Lib.hid (P.out.ext flR_stab hb)
    replace R0 := Lib.hid (R0.out.ext hb)
    have lR0 := R0.out.lt
    replace E := Lib.hid (Ext.trans E.out hb)
    replace O := Lib.hid (own_ext O.out hb)
    clear hb
    have k0 := R0.out.cell_of (i := 0) rfl
    have k1 := R0.out.cell_of (i := 1) rfl
    have k2 := R0.out.cell_of (i := 2) rfl
    have hz10 : w3.heap.size ≤ w10.heap.size := E.out.size
    go_wp2_with fail
    refine (c_markColorS O.out 1 (by omega) (by omega) (by omega)).mono ?_
    rintro e w11 ⟨rfl, ho11, hg11⟩
    clear k0 k1 k2
    replace E : Hid (Below w3.heap.size w3 w11) := Lib.hid (own_below E.out (O.out.rebase hz35) hg11 hz10)
    replace O := Lib.hid ho11
    replace P := Lib.hid (P3.out.ext flR_stab E.out)
    replace R0 := Lib.hid (R3.out.ext E.out)
    clear ho11 hg11
    have k0 := R0.out.cell_of (i := 0) rfl
    have k1 := R0.out.cell_of (i := 1) rfl
    have k2 := R0.out.cell_of (i := 2) rfl
    go_wp2_with fail
    clear k0 k1 k2
    refine (c_heldColorS 1 O.out (by omega) (by omega) (by omega)).mono ?_
    rintro e w12 ⟨rfl, hb⟩
    replace P := Lib.hid (P.out.ext flR_stab hb)
    replace R0 := Lib.hid (R0.out.ext hb)
    have lR0 := R0.out.lt
    replace E := Lib.hid (Ext.trans E.out hb)
    replace O := Lib.hid (own_ext O.out hb)
    clear hb
    have k0 := R0.out.cell_of (i := 0) rfl
    have k1 := R0.out.cell_of (i := 1) rfl
    have k2 := R0.out.cell_of (i := 2) rfl
    go_wp2_with fail
    clear k0 k1 k2
    refine (c_toScene W H A cap fs _ P.out Hsm.out).mono ?_
    rintro e w13 ⟨b13, cs13, rfl, _, hr13, hf13, hb⟩
    replace P := Lib.hid (P.out.ext flR_stab hb)
    replace R0 := Lib.hid (R0.out.ext hb)
    have lR0 := R0.out.lt
    replace E := Lib.hid (Ext.trans E.out hb)
    replace O := Lib.hid (own_ext O.out hb)
    clear hb
    have Q13 := Lib.hid (((hf13.in_ hr13).imp (fun _ _ h => flO_R h)))
    have k0 := R0.out.cell_of (i := 0) rfl
    have k1 := R0.out.cell_of (i := 1) rfl
    have k2 := R0.out.cell_of (i := 2) rfl
    clear hr13 hf13
    go_wp2_with fail
    clear k0 k1 k2
    refine (c_iDrawScene W H _ fs.length fs _ Q13.out Hsm.out).mono ?_
    rw [HM.out]
    rintro e w14 ⟨A14, cap14, rfl, ho14, hb⟩
    replace P := Lib.hid (P.out.ext flR_stab hb)
    replace R0 := Lib.hid (R0.out.ext hb)
    have lR0 := R0.out.lt
    replace E := Lib.hid (Ext.trans E.out hb)
    replace O := Lib.hid (own_ext O.out hb)
    replace Q13 := Lib.hid (Q13.out.ext flR_stab hb)
    clear hb
    have O2 := Lib.hid (ho14)
    clear ho14
    have k0 := R0.out.cell_of (i := 0) rfl
    have k1 := R0.out.cell_of (i := 1) rfl
    have k2 := R0.out.cell_of (i := 2) rfl
    go_wp2_with fail
    clear k0 k1 k2
    refine (c_eqColorS A14 A3 cap14 cap3 ns _ (cos_own O2.out) (V3.out.ext coR_stab E.out) (by omega)).mono ?_
    rintro e w15 ⟨rfl, hb⟩
    replace P := Lib.hid (P.out.ext flR_stab hb)
    replace R0 := Lib.hid (R0.out.ext hb)
    have lR0 := R0.out.lt
    replace E := Lib.hid (Ext.trans E.out hb)
    replace O := Lib.hid (own_ext O.out hb)
    replace Q13 := Lib.hid (Q13.out.ext flR_stab hb)
    replace O2 := Lib.hid (own_ext O2.out hb)
    clear hb
    have k0 := R0.out.cell_of (i := 0) rfl
    have k1 := R0.out.cell_of (i := 1) rfl
    have k2 := R0.out.cell_of (i := 2) rfl
    go_wp2_with fail
    clear k0 k1 k2
    refine (c_heldColorS 1 O.out (by omega) (by omega) (by omega)).mono ?_
    rintro e w16 ⟨rfl, hb⟩
    replace P := Lib.hid (P.out.ext flR_stab hb)
    replace R0 := Lib.hid (R0.out.ext hb)
    have lR0 := R0.out.lt
    replace E := Lib.hid (Ext.trans E.out hb)
    replace O := Lib.hid (own_ext O.out hb)
    replace Q13 := Lib.hid (Q13.out.ext flR_stab hb)
    replace O2 := Lib.hid (own_ext O2.out hb)
    clear hb
    have k0 := R0.out.cell_of (i := 0) rfl
    have k1 := R0.out.cell_of (i := 1) rfl
    have k2 := R0.out.cell_of (i := 2) rfl
    go_wp2
    go_ret
    exact ⟨rfl, Ext.trans E3.out E.out⟩

theorem opens0 : Opens Tryz.prog 24 (scR ) :=  opens_sc (opens_struct3 (c0 := 1) (c1 := 1) (c2 := 1) Tryz.underlying24 (by kernel_rfl) (by kernel_rfl) (by kernel_rfl) (opens_int (by kernel_rfl)) (opens_int (by kernel_rfl)) (opens_slice Tryz.underlying22 (by kernel_rfl) (by decide) (opens_fl (opens_struct3 (c0 := 1) (c1 := 1) (c2 := 5) Tryz.underlying49 (by kernel_rfl) (by kernel_rfl) (by kernel_rfl) (opens_slice Tryz.underlying42 (by kernel_rfl) (by decide) (opens_vb Tryz.underlying103 (by kernel_rfl) (by kernel_rfl) (by kernel_rfl) (by kernel_rfl) (by kernel_rfl) (by kernel_rfl) Tryz.underlying101 Tryz.underlying44 (by kernel_rfl) (by kernel_rfl) (by kernel_rfl) (by kernel_rfl) (by kernel_rfl) (by kernel_rfl) (by kernel_rfl))) (opens_int (by kernel_rfl)) (opens_struct3 (c0 := 2) (c1 := 2) (c2 := 1) Tryz.underlying47 (by kernel_rfl) (by kernel_rfl) (by kernel_rfl) (opens_pt Tryz.underlying44 (by kernel_rfl) (by kernel_rfl) (by kernel_rfl) (by kernel_rfl) (by kernel_rfl) (by kernel_rfl) (by kernel_rfl)) (opens_pt Tryz.underlying44 (by kernel_rfl) (by kernel_rfl) (by kernel_rfl) (by kernel_rfl) (by kernel_rfl) (by kernel_rfl) (by kernel_rfl)) (opens_slice Tryz.underlying45 (by kernel_rfl) (by decide) (opens_st Tryz.underlying152 (by kernel_rfl) (by kernel_rfl) (by kernel_rfl) (by kernel_rfl) (by kernel_rfl) (by kernel_rfl) (opens_bx Tryz.underlying150 (by kernel_rfl) (by kernel_rfl) (by kernel_rfl) (by kernel_rfl))))))))) 
set_option maxRecDepth 100000 in
theorem lifted (os : Os) (started : os.Started) (H : Type) (enc : TypeId × Value → H) :
    ReturnsInHanded {} Tryz.checked os 4 .any (Rows.fnExactDrawSceneSpec.pre6 enc Tryz.prog Tryz.f4 Rows.fnExactDrawSceneRow.domain false) (Rows.fnExactDrawSceneSpec.post enc Tryz.prog Tryz.f4 false true false false) := by
  refine returnsInHanded_of_change (C := Tryz.checked) own started (by kernel_rfl) Tryz.func4
    (ChangeSpec.witness6 (enc := enc) (C := Tryz.checked) false ⟨#[], #[ .agg #[.int .i64 0, .int .i64 0, .slice none 0 0]], []⟩ 8 (by kernel_rfl) (by kernel_rfl) (by kernel_rfl) (by kernel_rfl)) ?_
  intro W base args ds gs before hval0 hW hcnd _
  have hval : ∀ (j : Nat) t v, Tryz.f4.params[j]? = some t → args[j]? = some v → Value.okWide Tryz.prog W .any base t v := hval0
  have hW' := hW
  obtain ⟨p, q, hA0, hV, rfl, hfz, hnd⟩ := hW
  have hA : DataW.TrodAll enc Tryz.prog W 0 (fun _ => true) true Tryz.f4.params.toList args.toList ds p := hA0
  rw [Tryz.params4] at hA hval
  obtain ⟨v0, vs0, d0, ds0, p0, q0, hargs, rfl, rfl, h0, r0⟩ := trodAll_cons hA
  obtain ⟨rfl, rfl, rfl⟩ := trodAll_nil r0
  obtain rfl : args = #[v0] := by cases args; simp_all
  obtain ⟨rfl, rfl, rfl⟩ := trodVars_none hV
  have k0 := h0
  have lt0 : ∀ x ∈ p0, x.block < W.heap.size := by obtain ⟨m, hm⟩ := k0; exact DataW.trod_lt m _ _ _ hm
  obtain ⟨x0, us0, rfl, z0⟩ := open_struct_arg Tryz.underlying24 opens0 (hval 0 24 _ rfl rfl) h0
  clear hA0 hval0
  refine (walk x0 us0 W z0).mono fun e W' ⟨he, bel⟩ => ?_
  subst he
  exact ⟨_, rfl, _, _, _, [], _, [], hW', trodAll_mk1 (shut_bool Tryz.underlying4 _), (trodAll_cons_mk (Below.trod laidOut (by kernel_rfl) (of_decide_eq_true (by kernel_rfl)) k0 bel lt0) trodAll_mk0), rfl, bel.frame _, fun h => by cases h⟩
theorem joinedA : joinA Tryz.pinned.checked.prog 4 Tryz.f4 Rows.fnExactDrawSceneSpec Rows.fnExactDrawSceneRow = true := by kernel_rfl
theorem joinedB : joinB Tryz.pinned.checked.prog Rows.fnExactDrawSceneRow = true := by kernel_rfl
theorem over : Rows.fnExactDrawSceneRow.holds Tryz.pinned (OpenSpec.ofChange Rows.fnExactDrawSceneSpec) :=
  OpenClaim.holds_of_wide 4 Tryz.f4 rfl rfl rfl rfl rfl rfl rfl ⟨rfl, rfl, rfl, rfl, rfl⟩ rfl rfl rfl rfl rfl (by kernel_rfl) Tryz.func4 (joined_of joinedA joinedB)
    (of_decide_eq_true (by kernel_rfl)) (by unfold Func.isWrapper; first | (rw [if_pos (by decide +kernel)]; kernel_rfl) | (rw [if_neg (by decide +kernel)]; exact ⟨rfl, rfl⟩))
    (fun os started H enc _ => lifted os started H enc)

theorem proved : Rows.FnExactDrawSceneSaid := over

end Go.Proofs.YtjgpojegaojnmaaGreat.fnExactDrawScene
