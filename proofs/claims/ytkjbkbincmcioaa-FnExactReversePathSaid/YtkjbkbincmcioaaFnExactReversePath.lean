/- ReversePath of the program and ReversePath of the reference return the same path for every path; the argument is left as it was, and the result shares no memory with it or with another result. -/
import Derived.Test.YtkjbkbincmcioaaRevQ
import Derived.Test.YtkjbkbincmcioaaVbOpen
import Derived.Test.YtkjbkbincmcioaaVerbM
namespace Go.Proofs.Ytkjbkbincmcioaa.fnExactReversePath
open Go Go.RowKit Go.ChangeShapes Go.WideShapes Go.ChangeAt Go.Deep Reg
attribute [local go_sem] calmAt calmUpon

theorem own : ownKnob Try.prog.godebug = none := by kernel_rfl
theorem laidOut : laidOutB Try.prog = true := by kernel_rfl
theorem revP_small (vs : List Vb) : (revP vs).1.length ≤ 30 ∧ ∀ v ∈ (revP vs).1, v.2.length ≤ 40 := by
  unfold revP
  split
  · rename_i h
    exact ⟨(pathOk_to h.2).2, fun v hv => by have := revV_small _ v hv; omega⟩
  · exact ⟨by simp, fun v hv => by simp at hv⟩

set_option maxRecDepth 100000 in
set_option maxHeartbeats 4000000 in
theorem walk (A : Option Addr) (cap : Nat) (vs : List Vb) (w : World) (h : VbK w A vs) (hlc : vs.length ≤ cap) (hcm : cap ≤ maxLen) :
    Calls Try.prog 5 #[.slice A vs.length cap] w fun e w' => e = .returned (.bool true) ∧ Below w.heap.size w w' := by
  have hl := Nat.le_trans hlc hcm
  unfold maxLen at hl hcm
  have H := Lib.hid h
  have Hb := Lib.hid (vbk_len h)
  have E := Lib.hid (Below.refl w.heap.size w)
  clear h
  obtain ⟨S, hS⟩ : ∃ S, revP vs = S := ⟨_, rfl⟩
  have HS := Lib.hid hS
  have hsm := revP_small vs
  rw [hS] at hsm
  obtain ⟨qs, ok⟩ := S
  dsimp only at hsm
  obtain ⟨hSl, hSr⟩ := hsm
  have hSl2 : qs.length ≤ 1000 := by omega
  have Sr6 : Hid (∀ v ∈ qs, v.2.length ≤ 1000000) := Lib.hid (fun r hr => by have := hSr r hr; omega)
  have Sr12 : Hid (∀ v ∈ qs, v.2.length ≤ 1000000000000) := Lib.hid (fun r hr => by have := hSr r hr; omega)
  have hbb : (ok != ok) = false := by simp
  clear hS hSr hSl
  go_enter Try.func5, Try.ntmps5
  go_wp2_with fail
  refine (c_szVerbS A cap vs w H.out.toV hl Hb.out).mono ?_
  rintro e w1 ⟨m, rfl, hm, hb⟩
  replace E := Lib.hid (Ext.trans E.out hb)
  replace H := Lib.hid (H.out.ext verbK_stab hb)
  clear hb
  have Hm := Lib.hid (hm)
  clear hm
  by_cases hneg : m < 0
  · go_wp2
    go_ret
    exact ⟨rfl, E.out⟩
  · obtain ⟨⟨hl1, hvs⟩, hs1⟩ := Hm.out (by omega)
    have Hs := Lib.hid hs1
    have Hs9 : Hid (∀ v ∈ vs, v.2.length ≤ 1000000000) := Lib.hid (fun r hr => by have := Hs.out r hr; omega)
    have Hs12 : Hid (∀ v ∈ vs, v.2.length ≤ 1000000000000) := Lib.hid (fun r hr => by have := Hs.out r hr; omega)
    clear hs1
    go_wp2_with fail
    refine (c_toVerbS A cap vs _ H.out.toV hl1 Hs.out).mono ?_
    rintro e w2 ⟨b2, ss2, rfl, hc2, hb⟩
    replace E := Lib.hid (Ext.trans E.out hb)
    replace H := Lib.hid (H.out.ext verbK_stab hb)
    clear hb
    have C2 := Lib.hid (hc2.inK)
    go_wp2_with fail
    refine (c_sReversePath _ _ vs _ C2.out.toV (by omega) Hs9.out).mono ?_
    rw [HS.out]
    rintro e w3 ⟨A3, cap3, ss3, rfl, ho3, hb⟩
    replace E := Lib.hid (Ext.trans E.out hb)
    replace H := Lib.hid (H.out.ext verbK_stab hb)
    replace C2 := Lib.hid (C2.out.ext verbK_stab hb)
    clear hb
    have W0 := Lib.hid (ho3.in_)
    clear ho3
    have H3 := Lib.hid H.out
    have W3 := Lib.hid W0.out
    have E3 := Lib.hid E.out
    have Y := Lib.hid (Ext.refl w3)
    go_wp2_with fail
    refine (c_toVerbS A cap vs _ H.out.toV hl1 Hs.out).mono ?_
    rintro e w4 ⟨b4, ss4, rfl, hc4, hb⟩
    replace E := Lib.hid (Ext.trans E.out hb)
    replace H := Lib.hid (H.out.ext verbK_stab hb)
    replace C2 := Lib.hid (C2.out.ext verbK_stab hb)
    replace W0 := Lib.hid (W0.out.ext verbR_stab hb)
    replace Y := Lib.hid (Ext.trans Y.out hb)
    clear hb
    have X0 := Lib.hid (hc4)
    clear hc4
    have hz34 : w3.heap.size ≤ w4.heap.size := Y.out.size
    have L4 : Hid (b4 < w4.heap.size) := Lib.hid (X0.out.out.lt b4 rfl).2
    have M4 := Lib.hid (fun i hi k hk => (X0.out.blk i hi k hk).2)
    have Z := Lib.hid (Ext.refl w4)
    go_wp2_with fail
    refine (c_iReversePath _ _ vs _ X0.out.inK (by omega) Hs9.out).mono ?_
    rw [HS.out]
    rintro e w5 ⟨A5, cap5, ss5, rfl, ho5, hb⟩
    replace E := Lib.hid (Ext.trans E.out hb)
    replace H := Lib.hid (H.out.ext verbK_stab hb)
    replace C2 := Lib.hid (C2.out.ext verbK_stab hb)
    replace W0 := Lib.hid (W0.out.ext verbR_stab hb)
    replace Y := Lib.hid (Ext.trans Y.out hb)
    replace X0 := Lib.hid (X0.out.ext hb)
    replace Z := Lib.hid (Ext.trans Z.out hb)
    clear hb
    have G := Lib.hid (ho5)
    clear ho5
    go_wp2_with fail
    refine (c_eqVerbS _ _ _ _ qs qs _ G.out.in_ W0.out (by omega) (by omega) Sr12.out Sr12.out).mono ?_
    rw [(decide_eq_true (rfl : qs = qs))]
    rintro e w6 ⟨rfl, hb⟩
    replace E := Lib.hid (Ext.trans E.out hb)
    replace H := Lib.hid (H.out.ext verbK_stab hb)
    replace C2 := Lib.hid (C2.out.ext verbK_stab hb)
    replace W0 := Lib.hid (W0.out.ext verbR_stab hb)
    replace Y := Lib.hid (Ext.trans Y.out hb)
    replace X0 := Lib.hid (X0.out.ext hb)
    replace Z := Lib.hid (Ext.trans Z.out hb)
    replace G := Lib.hid (G.out.ext hb)
    clear hb
    go_wp2_with fail
    refine (c_toVerbS A cap vs _ H.out.toV hl1 Hs.out).mono ?_
    rintro e w7 ⟨b7, ss7, rfl, hc7, hb⟩
    replace E := Lib.hid (Ext.trans E.out hb)
    replace H := Lib.hid (H.out.ext verbK_stab hb)
    replace C2 := Lib.hid (C2.out.ext verbK_stab hb)
    replace W0 := Lib.hid (W0.out.ext verbR_stab hb)
    replace Y := Lib.hid (Ext.trans Y.out hb)
    replace X0 := Lib.hid (X0.out.ext hb)
    replace Z := Lib.hid (Ext.trans Z.out hb)
    replace G := Lib.hid (G.out.ext hb)
    clear hb
    have C7 := Lib.hid (hc7.inK)
    go_wp2_with fail
    refine (c_eqVerbS _ _ _ _ vs vs _ X0.out.inK.toV C7.out.toV (by omega) (by omega) Hs12.out Hs12.out).mono ?_
    rw [(decide_eq_true (rfl : vs = vs))]
    rintro e w8 ⟨rfl, hb⟩
    replace E := Lib.hid (Ext.trans E.out hb)
    replace H := Lib.hid (H.out.ext verbK_stab hb)
    replace C2 := Lib.hid (C2.out.ext verbK_stab hb)
    replace W0 := Lib.hid (W0.out.ext verbR_stab hb)
    replace Y := Lib.hid (Ext.trans Y.out hb)
    replace X0 := Lib.hid (X0.out.ext hb)
    replace Z := Lib.hid (Ext.trans Z.out hb)
    replace G := Lib.hid (G.out.ext hb)
    replace C7 := Lib.hid (C7.out.ext verbK_stab hb)
    clear hb
    go_wp2_with fail
    refine (c_markVerbM X0.out Y.out.size hl1 hvs (fun k hk => by injection hk with hk; subst hk; exact L4.out) (fun i hi k hk => M4.out i hi k hk)).mono ?_
    rintro e w9 ⟨rfl, hx9, hbl9, hmd9⟩
    have Y9 := Lib.hid (Below.trans Y.out hbl9)
    have E9 := Lib.hid (Ext.trans E3.out Y9.out)
    have H9 := Lib.hid (H3.out.ext verbK_stab Y9.out)
    have W9 := Lib.hid (W3.out.ext verbR_stab Y9.out)
    have G9 := Lib.hid (G.out.mid hmd9 (Nat.le_refl _))
    have hz9 : w4.heap.size ≤ w9.heap.size := Nat.le_trans Z.out.size hmd9.size
    have hev := endV_eq 1 vs
    have hev1 : ¬ endV 1 vs < 0 := by omega
    clear hx9 hbl9 hmd9 hev
    generalize endV 1 vs = ev at *
    have X10 := Lib.hid (Ext.refl w9)
    go_wp2_with fail
    refine (c_eqVerbS _ _ _ _ qs qs _ G9.out.in_ W9.out (by omega) (by omega) Sr12.out Sr12.out).mono ?_
    rw [(decide_eq_true (rfl : qs = qs))]
    rintro e w10 ⟨rfl, hb⟩
    replace E9 := Lib.hid (Ext.trans E9.out hb)
    replace H9 := Lib.hid (H9.out.ext verbK_stab hb)
    replace W9 := Lib.hid (W9.out.ext verbR_stab hb)
    replace G9 := Lib.hid (G9.out.ext hb)
    replace Y9 := Lib.hid (Ext.trans Y9.out hb)
    replace X10 := Lib.hid (Ext.trans X10.out hb)
    clear hb
    go_wp2_with fail
    have hz10 : w4.heap.size ≤ w10.heap.size := Nat.le_trans hz9 X10.out.size
    refine (c_markVerbS G9.out hz10 (by omega) Sr6.out).mono ?_
    rintro e w11 ⟨rfl, ho11, hbl11⟩
    have Y11 := Lib.hid (Below.trans Y9.out (Below.mono hbl11 hz34))
    have E11 := Lib.hid (Ext.trans E3.out Y11.out)
    have H11 := Lib.hid (H3.out.ext verbK_stab Y11.out)
    have W11 := Lib.hid (W3.out.ext verbR_stab Y11.out)
    have G11 := Lib.hid ho11.vbs_marked
    have hbd := endV_bd 1 qs Sr6.out
    have hm1 : ¬ endV 1 qs < 0 := by omega
    have K := Lib.hid (fun W hW => c_heldVerbS A5 cap5 qs W hW (by omega) Sr6.out)
    clear ho11 hbl11 hbd
    generalize endV 1 qs = M at *
    go_wp2_with fail
    refine (K.out _ G11.out).mono ?_
    rintro e w12 ⟨rfl, hb⟩
    replace E11 := Lib.hid (Ext.trans E11.out hb)
    replace H11 := Lib.hid (H11.out.ext verbK_stab hb)
    replace W11 := Lib.hid (W11.out.ext verbR_stab hb)
    replace G11 := Lib.hid (G11.out.ext verbR_stab hb)
    clear hb
    go_wp2_with fail
    refine (c_toVerbS A cap vs _ H11.out.toV hl1 Hs.out).mono ?_
    rintro e w13 ⟨b13, ss13, rfl, hc13, hb⟩
    replace E11 := Lib.hid (Ext.trans E11.out hb)
    replace H11 := Lib.hid (H11.out.ext verbK_stab hb)
    replace W11 := Lib.hid (W11.out.ext verbR_stab hb)
    replace G11 := Lib.hid (G11.out.ext verbR_stab hb)
    clear hb
    have C13 := Lib.hid (hc13.inK)
    go_wp2_with fail
    refine (c_iReversePath _ _ vs _ C13.out (by omega) Hs9.out).mono ?_
    rw [HS.out]
    rintro e w14 ⟨A14, cap14, ss14, rfl, ho14, hb⟩
    replace E11 := Lib.hid (Ext.trans E11.out hb)
    replace H11 := Lib.hid (H11.out.ext verbK_stab hb)
    replace W11 := Lib.hid (W11.out.ext verbR_stab hb)
    replace G11 := Lib.hid (G11.out.ext verbR_stab hb)
    replace C13 := Lib.hid (C13.out.ext verbK_stab hb)
    clear hb
    have I14 := Lib.hid (ho14.in_)
    clear ho14
    go_wp2_with fail
    refine (c_eqVerbS _ _ _ _ qs qs _ I14.out W11.out (by omega) (by omega) Sr12.out Sr12.out).mono ?_
    rw [(decide_eq_true (rfl : qs = qs))]
    rintro e w15 ⟨rfl, hb⟩
    replace E11 := Lib.hid (Ext.trans E11.out hb)
    replace H11 := Lib.hid (H11.out.ext verbK_stab hb)
    replace W11 := Lib.hid (W11.out.ext verbR_stab hb)
    replace G11 := Lib.hid (G11.out.ext verbR_stab hb)
    replace C13 := Lib.hid (C13.out.ext verbK_stab hb)
    replace I14 := Lib.hid (I14.out.ext verbR_stab hb)
    clear hb
    go_wp2_with fail
    refine (K.out _ G11.out).mono ?_
    rintro e w16 ⟨rfl, hb⟩
    replace E11 := Lib.hid (Ext.trans E11.out hb)
    replace H11 := Lib.hid (H11.out.ext verbK_stab hb)
    replace W11 := Lib.hid (W11.out.ext verbR_stab hb)
    replace G11 := Lib.hid (G11.out.ext verbR_stab hb)
    replace C13 := Lib.hid (C13.out.ext verbK_stab hb)
    replace I14 := Lib.hid (I14.out.ext verbR_stab hb)
    clear hb
    go_wp2
    go_ret
    exact ⟨rfl, E11.out⟩

theorem opens0 : Opens Try.prog 45 (slR verbK 2 ) :=  opens_slice Try.underlying45 (by kernel_rfl) (by decide) (opens_vb Try.underlying66 (by kernel_rfl) (by kernel_rfl) (by kernel_rfl) (by kernel_rfl) (by kernel_rfl) (by kernel_rfl) Try.underlying64 Try.underlying23 (by kernel_rfl) (by kernel_rfl) (by kernel_rfl) (by kernel_rfl) (by kernel_rfl) (by kernel_rfl) (by kernel_rfl))
set_option maxRecDepth 100000 in
theorem lifted (os : Os) (started : os.Started) (H : Type) (enc : TypeId × Value → H) :
    ReturnsInHanded {} Try.checked os 5 .any (Rows.fnExactReversePathSpec.pre6 enc Try.prog Try.f5 Rows.fnExactReversePathRow.domain false) (Rows.fnExactReversePathSpec.post enc Try.prog Try.f5 false true false false) := by
  refine returnsInHanded_of_change (C := Try.checked) own started (by kernel_rfl) Try.func5
    (ChangeSpec.witness6 (enc := enc) (C := Try.checked) false ⟨#[], #[.slice none 0 0], []⟩ 8 (by kernel_rfl) (by kernel_rfl) (by kernel_rfl) (by kernel_rfl)) ?_
  intro W base args ds gs before hval0 hW hcnd _
  have hval : ∀ (j : Nat) t v, Try.f5.params[j]? = some t → args[j]? = some v → Value.okWide Try.prog W .any base t v := hval0
  have hW' := hW
  obtain ⟨p, q, hA0, hV, rfl, hfz, hnd⟩ := hW
  have hA : DataW.TrodAll enc Try.prog W 0 (fun _ => true) true Try.f5.params.toList args.toList ds p := hA0
  rw [Try.params5] at hA hval
  obtain ⟨v0, vs0, d0, ds0, p0, q0, hargs, rfl, rfl, h0, r0⟩ := trodAll_cons hA
  obtain ⟨rfl, rfl, rfl⟩ := trodAll_nil r0
  obtain rfl : args = #[v0] := by cases args; simp_all
  obtain ⟨rfl, rfl, rfl⟩ := trodVars_none hV
  obtain ⟨a0, len0, cap0, rfl⟩ := okWide_slice Try.underlying45 (hval 0 45 v0 rfl rfl)
  have k0 := h0
  have lt0 : ∀ x ∈ p0, x.block < W.heap.size := by obtain ⟨m, hm⟩ := k0; exact DataW.trod_lt m _ _ _ hm
  obtain ⟨xs0, rfl, w0, wl0, wc0⟩ := open_arg rfl opens0 h0
  clear hA0 hval0
  refine (walk a0 cap0 xs0 W w0 wl0 wc0).mono fun e W' ⟨he, bel⟩ => ?_
  subst he
  exact ⟨_, rfl, _, _, _, [], _, [], hW', trodAll_mk1 (shut_bool Try.underlying4 _), (trodAll_cons_mk (Below.trod laidOut (by kernel_rfl) (of_decide_eq_true (by kernel_rfl)) k0 bel lt0) trodAll_mk0), rfl, bel.frame _, fun h => by cases h⟩
theorem over : Rows.fnExactReversePathRow.holds Try.pinned (OpenSpec.ofChange Rows.fnExactReversePathSpec) :=
  OpenClaim.holds_of_wide 5 Try.f5 rfl rfl rfl rfl rfl rfl rfl ⟨rfl, rfl, rfl, rfl, rfl⟩ rfl rfl rfl rfl rfl (by kernel_rfl) Try.func5 (by kernel_rfl)
    (of_decide_eq_true (by kernel_rfl)) (by unfold Func.isWrapper; first | (rw [if_pos (by decide +kernel)]; kernel_rfl) | (rw [if_neg (by decide +kernel)]; exact ⟨rfl, rfl⟩))
    (fun os started H enc _ => lifted os started H enc)

theorem proved : Rows.FnExactReversePathSaid := over

end Go.Proofs.Ytkjbkbincmcioaa.fnExactReversePath
