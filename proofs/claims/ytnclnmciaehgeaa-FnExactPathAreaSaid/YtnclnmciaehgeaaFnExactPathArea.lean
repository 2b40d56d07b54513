/- PathArea of the program and PathArea of the reference return the same for every path; the argument is left as it was. -/
import Derived.Test.YtnclnmciaehgeaaRingsO
import Derived.Test.YtnclnmciaehgeaaVbOpen
import Derived.Test.YtnclnmciaehgeaaJoin
namespace Go.Proofs.Ytnclnmciaehgeaa.fnExactPathArea
open Go Go.RowKit Go.ChangeShapes Go.WideShapes Go.ChangeAt Go.Deep Reg
attribute [local go_sem] calmAt calmUpon

theorem own : ownKnob Try.prog.godebug = none := by kernel_rfl
theorem laidOut : laidOutB Try.prog = true := by kernel_rfl

set_option maxRecDepth 100000 in
set_option maxHeartbeats 4000000 in
theorem walk (A : Option Addr) (cap : Nat) (vs : List Vb) (w : World) (h : VbK w A vs) (hlc : vs.length ≤ cap) (hcm : cap ≤ maxLen) :
    Calls Try.prog 8 #[.slice A vs.length cap] w fun e w' => e = .returned (.bool true) ∧ Below w.heap.size w w' := by
  have hl := Nat.le_trans hlc hcm
  unfold maxLen at hl hcm
  have H := Lib.hid h
  have Hb := Lib.hid (vbk_len h)
  have E := Lib.hid (Below.refl w.heap.size w)
  clear h
  obtain ⟨S, hS⟩ : ∃ S, areaR (ringsV vs) = S := ⟨_, rfl⟩
  have HS := Lib.hid hS
  clear hS
  go_enter Try.func8, Try.ntmps8
  go_wp2_with fail
  refine (c_szVerbS A cap vs w H.out.toV hl Hb.out).mono ?_
  rintro e w1 ⟨m, rfl, hm, hb⟩
  replace E := Lib.hid (Ext.trans E.out hb)
  replace H := Lib.hid (H.out.ext verbK_stab hb)
  clear hb
  have Hm := Lib.hid (hm)
  clear hm
  by_cases hneg : m < 0
  · go_wp2
    go_ret
    exact ⟨rfl, E.out⟩
  · obtain ⟨hl1, hs1⟩ := Hm.out (by omega)
    have Hs := Lib.hid hs1
    have Hs9 : Hid (∀ v ∈ vs, v.2.length ≤ 1000000000) := Lib.hid (fun r hr => by have := Hs.out r hr; omega)
    have Hs12 : Hid (∀ v ∈ vs, v.2.length ≤ 1000000000000) := Lib.hid (fun r hr => by have := Hs.out r hr; omega)
    clear hs1
    go_wp2_with fail
    refine (c_toVerbS A cap vs _ H.out.toV hl1 Hs.out).mono ?_
    rintro e w2 ⟨b2, ss2, rfl, hc2, hb⟩
    replace E := Lib.hid (Ext.trans E.out hb)
    replace H := Lib.hid (H.out.ext verbK_stab hb)
    clear hb
    have C2 := Lib.hid (hc2.inK)
    go_wp2_with fail
    refine (c_sPathArea _ _ vs _ C2.out.toV (by omega) Hs9.out).mono ?_
    rw [HS.out]
    rintro e w3 ⟨rfl, hb⟩
    replace E := Lib.hid (Ext.trans E.out hb)
    replace H := Lib.hid (H.out.ext verbK_stab hb)
    replace C2 := Lib.hid (C2.out.ext verbK_stab hb)
    clear hb
    go_wp2_with fail
    refine (c_toVerbS A cap vs _ H.out.toV hl1 Hs.out).mono ?_
    rintro e w4 ⟨b4, ss4, rfl, hc4, hb⟩
    replace E := Lib.hid (Ext.trans E.out hb)
    replace H := Lib.hid (H.out.ext verbK_stab hb)
    replace C2 := Lib.hid (C2.out.ext verbK_stab hb)
    clear hb
    have C4 := Lib.hid (hc4.inK)
    go_wp2_with fail
    refine (c_iPathArea _ _ vs _ C4.out (by omega) Hs9.out).mono ?_
    rw [HS.out]
    rintro e w5 ⟨rfl, hb⟩
    replace E := Lib.hid (Ext.trans E.out hb)
    replace H := Lib.hid (H.out.ext verbK_stab hb)
    replace C2 := Lib.hid (C2.out.ext verbK_stab hb)
    replace C4 := Lib.hid (C4.out.ext verbK_stab hb)
    clear hb
    go_wp2_with fail
    refine (c_toVerbS A cap vs _ H.out.toV hl1 Hs.out).mono ?_
    rintro e w6 ⟨b6, ss6, rfl, hc6, hb⟩
    replace E := Lib.hid (Ext.trans E.out hb)
    replace H := Lib.hid (H.out.ext verbK_stab hb)
    replace C2 := Lib.hid (C2.out.ext verbK_stab hb)
    replace C4 := Lib.hid (C4.out.ext verbK_stab hb)
    clear hb
    have C6 := Lib.hid (hc6.inK)
    go_wp2_with fail
    refine (c_eqVerbS _ _ _ _ vs vs _ C4.out.toV C6.out.toV (by omega) (by omega) Hs12.out Hs12.out).mono ?_
    rw [(decide_eq_true (rfl : vs = vs))]
    rintro e w7 ⟨rfl, hb⟩
    replace E := Lib.hid (Ext.trans E.out hb)
    replace H := Lib.hid (H.out.ext verbK_stab hb)
    replace C2 := Lib.hid (C2.out.ext verbK_stab hb)
    replace C4 := Lib.hid (C4.out.ext verbK_stab hb)
    replace C6 := Lib.hid (C6.out.ext verbK_stab hb)
    clear hb
    go_wp2
    go_ret
    exact ⟨rfl, E.out⟩

theorem opens0 : Opens Try.prog 42 (slR verbK 2 ) :=  opens_slice Try.underlying42 (by kernel_rfl) (by decide) (opens_vb Try.underlying95 (by kernel_rfl) (by kernel_rfl) (by kernel_rfl) (by kernel_rfl) (by kernel_rfl) (by kernel_rfl) Try.underlying93 Try.underlying67 (by kernel_rfl) (by kernel_rfl) (by kernel_rfl) (by kernel_rfl) (by kernel_rfl) (by kernel_rfl) (by kernel_rfl))
set_option maxRecDepth 100000 in
theorem lifted (os : Os) (started : os.Started) (H : Type) (enc : TypeId × Value → H) :
    ReturnsInHanded {} Try.checked os 8 .any (Rows.fnExactPathAreaSpec.pre6 enc Try.prog Try.f8 Rows.fnExactPathAreaRow.domain false) (Rows.fnExactPathAreaSpec.post enc Try.prog Try.f8 false true false false) := by
  refine returnsInHanded_of_change (C := Try.checked) own started (by kernel_rfl) Try.func8
    (ChangeSpec.witness6 (enc := enc) (C := Try.checked) false ⟨#[], #[.slice none 0 0], []⟩ 8 (by kernel_rfl) (by kernel_rfl) (by kernel_rfl) (by kernel_rfl)) ?_
  intro W base args ds gs before hval0 hW hcnd _
  have hval : ∀ (j : Nat) t v, Try.f8.params[j]? = some t → args[j]? = some v → Value.okWide Try.prog W .any base t v := hval0
  have hW' := hW
  obtain ⟨p, q, hA0, hV, rfl, hfz, hnd⟩ := hW
  have hA : DataW.TrodAll enc Try.prog W 0 (fun _ => true) true Try.f8.params.toList args.toList ds p := hA0
  rw [Try.params8] at hA hval
  obtain ⟨v0, vs0, d0, ds0, p0, q0, hargs, rfl, rfl, h0, r0⟩ := trodAll_cons hA
  obtain ⟨rfl, rfl, rfl⟩ := trodAll_nil r0
  obtain rfl : args = #[v0] := by cases args; simp_all
  obtain ⟨rfl, rfl, rfl⟩ := trodVars_none hV
  obtain ⟨a0, len0, cap0, rfl⟩ := okWide_slice Try.underlying42 (hval 0 42 v0 rfl rfl)
  have k0 := h0
  have lt0 : ∀ x ∈ p0, x.block < W.heap.size := by obtain ⟨m, hm⟩ := k0; exact DataW.trod_lt m _ _ _ hm
  obtain ⟨xs0, rfl, w0, wl0, wc0⟩ := open_arg rfl opens0 h0
  clear hA0 hval0
  refine (walk a0 cap0 xs0 W w0 wl0 wc0).mono fun e W' ⟨he, bel⟩ => ?_
  subst he
  exact ⟨_, rfl, _, _, _, [], _, [], hW', trodAll_mk1 (shut_bool Try.underlying4 _), (trodAll_cons_mk (Below.trod laidOut (by kernel_rfl) (of_decide_eq_true (by kernel_rfl)) k0 bel lt0) trodAll_mk0), rfl, bel.frame _, fun h => by cases h⟩
theorem joinedA : joinA Try.pinned.checked.prog 8 Try.f8 Rows.fnExactPathAreaSpec Rows.fnExactPathAreaRow = true := by kernel_rfl
theorem joinedB : joinB Try.pinned.checked.prog Rows.fnExactPathAreaRow = true := by kernel_rfl
theorem over : Rows.fnExactPathAreaRow.holds Try.pinned (OpenSpec.ofChange Rows.fnExactPathAreaSpec) :=
  OpenClaim.holds_of_wide 8 Try.f8 rfl rfl rfl rfl rfl rfl rfl ⟨rfl, rfl, rfl, rfl, rfl⟩ rfl rfl rfl rfl rfl (by kernel_rfl) Try.func8 (joined_of joinedA joinedB)
    (of_decide_eq_true (by kernel_rfl)) (by unfold Func.isWrapper; first | (rw [if_pos (by decide +kernel)]; kernel_rfl) | (rw [if_neg (by decide +kernel)]; exact ⟨rfl, rfl⟩))
    (fun os started H enc _ => lifted os started H enc)

theorem proved : Rows.FnExactPathAreaSaid := over

end Go.Proofs.Ytnclnmciaehgeaa.fnExactPathArea
