/- SpansOf of the program and SpansOf of the reference return the same for all polygons, every rule and every row, in memory of its own; the argument is left as it was. -/
import Derived.Test.YteknlifgejpjfaaSpnI
import Derived.Test.YteknlifgejpjfaaMarkI
import Derived.Test.YteknlifgejpjfaaOpen
namespace Go.Proofs.Yteknlifgejpjfaa.fnExactSpansOf
open Go Go.RowKit Go.ChangeShapes Go.WideShapes Go.ChangeAt Go.Deep Reg
attribute [local go_sem] calmAt calmUpon

theorem own : ownKnob Try.prog.godebug = none := by kernel_rfl
theorem laidOut : laidOutB Try.prog = true := by kernel_rfl

set_option maxRecDepth 100000 in
set_option maxHeartbeats 4000000 in
theorem walk (A : Option Addr) (cap : Nat) (rs : List Rg) (rule row : Int) (w : World) (h : Rgs w A rs) (hlc : rs.length ≤ cap) (hcm : cap ≤ maxLen) :
    Calls Try.prog 4 #[.slice A rs.length cap, .int .i64 rule, .int .i64 row] w fun e w' => e = .returned (.bool true) ∧ Below w.heap.size w w' := by
  have hl := Nat.le_trans hlc hcm
  unfold maxLen at hl hcm
  have H := Lib.hid h
  have E := Lib.hid (Below.refl w.heap.size w)
  clear h
  have hnl := spanR_len rs rule row
  obtain ⟨ns, hS⟩ : ∃ S, spanR rs rule row = S := ⟨_, rfl⟩
  rw [hS] at hnl
  have HS := Lib.hid hS
  clear hS
  go_enter Try.func4, Try.ntmps4
  go_wp2_with fail
  refine (c_szPointSS A cap rs w H.out hl).mono ?_
  rintro e w1 ⟨m, rfl, hm, hb⟩
  replace E := Lib.hid (Ext.trans E.out hb)
  replace H := Lib.hid (H.out.ext rgR_stab hb)
  clear hb
  have Hm := Lib.hid (hm)
  clear hm
  by_cases hneg : m < 0
  · go_wp2
    go_ret
    exact ⟨rfl, E.out⟩
  · obtain ⟨⟨hl1, hcn⟩, hs1⟩ := Hm.out (by omega)
    have Hs := Lib.hid hs1
    have Hs9 : Hid (∀ r ∈ rs, r.length ≤ 1000000000) := Lib.hid (fun r hr => by have := Hs.out r hr; omega)
    clear hs1
    go_wp2_with fail
    refine (c_toPointSS A cap rs _ H.out hl1 Hs.out).mono ?_
    rintro e w2 ⟨b2, us2, rfl, hg2, hu2, hc2, hb⟩
    replace E := Lib.hid (Ext.trans E.out hb)
    replace H := Lib.hid (H.out.ext rgR_stab hb)
    clear hb
    have C2 := Lib.hid (hc2)
    clear hc2
    go_wp2_with fail
    refine (c_sSpansOf _ _ rs rule row _ (C2.out.rgs hu2 Hs9.out) (by omega) Hs9.out).mono ?_
    rw [HS.out]
    rintro e w3 ⟨A3, cap3, rfl, ho3, hb⟩
    replace E := Lib.hid (Ext.trans E.out hb)
    replace H := Lib.hid (H.out.ext rgR_stab hb)
    replace C2 := Lib.hid (C2.out.ext hb)
    clear hb
    have P := Lib.hid (own_in (R := ptR) (enc := ptC) ptC_len (by decide) ho3 (fun _ => rfl))
    have H3 := Lib.hid H.out
    have E3 := Lib.hid E.out
    clear ho3 C2 H E
    have E := Lib.hid (Below.refl w3.heap.size w3)
    go_wp2_with fail
    refine (c_toPointSS A cap rs _ (H3.out.ext rgR_stab E.out) hl1 Hs.out).mono ?_
    rintro e w4 ⟨b4, us4, rfl, hg4, hu4, hc4, hb⟩
    replace E := Lib.hid (Ext.trans E.out hb)
    clear hb
    have C4 := Lib.hid (hc4)
    clear hc4
    have hz4 : w3.heap.size ≤ w4.heap.size := E.out.size
    go_wp2_with fail
    refine (c_iSpansOf _ _ rs rule row _ (C4.out.rgs hu4 Hs9.out) (by omega) Hs9.out).mono ?_
    rw [HS.out]
    rintro e w5 ⟨A5, cap5, rfl, ho5, hb⟩
    replace E := Lib.hid (Ext.trans E.out hb)
    replace C4 := Lib.hid (C4.out.ext hb)
    clear hb
    have O := Lib.hid (ho5)
    clear ho5
    go_wp2_with fail
    refine (c_eqSpanS A5 A3 cap5 cap3 ns ns _ (own_in (R := ptR) (enc := ptC) ptC_len (by decide) O.out (fun _ => rfl)) (P.out.ext ptR_stab E.out) (by omega) (by omega)).mono ?_
    rintro e w6 ⟨rfl, hb⟩
    replace E := Lib.hid (Ext.trans E.out hb)
    replace C4 := Lib.hid (C4.out.ext hb)
    replace O := Lib.hid (own_ext O.out hb)
    clear hb
    go_wp2_with fail
    refine (c_toPointSS A cap rs _ (H3.out.ext rgR_stab E.out) hl1 Hs.out).mono ?_
    rintro e w7 ⟨b7, us7, rfl, hg7, hu7, hc7, hb⟩
    replace E := Lib.hid (Ext.trans E.out hb)
    replace C4 := Lib.hid (C4.out.ext hb)
    replace O := Lib.hid (own_ext O.out hb)
    clear hb
    have C7 := Lib.hid (hc7)
    clear hc7
    go_wp2_with fail
    refine (c_eqPointSS _ _ _ _ rs _ (C4.out.rgs hu4 Hs9.out) (C7.out.rgs hu7 Hs9.out) hl1 Hs.out).mono ?_
    rintro e w8 ⟨rfl, hb⟩
    replace E := Lib.hid (Ext.trans E.out hb)
    replace C4 := Lib.hid (C4.out.ext hb)
    replace O := Lib.hid (own_ext O.out hb)
    replace C7 := Lib.hid (C7.out.ext hb)
    clear hb
    go_wp2_with fail
    refine (c_markPointSS w3.heap.size b4 rs us4 w8 C4.out hu4 hl1 hcn (by omega)).mono ?_
    rintro e w9 ⟨k9, rfl, hk9, hb9, hkp⟩
    replace O := Lib.hid (hkp _ _ _ _ _ _ (by decide) O.out)
    replace E : Hid (Below w3.heap.size w3 w9) := Lib.hid (Below.trans E.out hb9)
    clear hb9 hkp C4 C7
    have hk9' : ¬ k9 < 0 := by omega
    go_wp2_with fail
    refine (c_eqSpanS A5 A3 cap5 cap3 ns ns _ (own_in (R := ptR) (enc := ptC) ptC_len (by decide) O.out (fun _ => rfl)) (P.out.ext ptR_stab E.out) (by omega) (by omega)).mono ?_
    rintro e w10 ⟨rfl, hb⟩
    replace E := Lib.hid (Ext.trans E.out hb)
    replace O := Lib.hid (own_ext O.out hb)
    clear hb
    have hz10 : w3.heap.size ≤ w10.heap.size := E.out.size
    go_wp2_with fail
    refine (c_markSpanS O.out 1 (by omega) (by omega) (by omega)).mono ?_
    rintro e w11 ⟨rfl, ho11, hg11⟩
    replace E : Hid (Below w3.heap.size w3 w11) := Lib.hid (own_below E.out (O.out.rebase hz4) hg11 hz10)
    replace O := Lib.hid ho11
    clear ho11 hg11
    go_wp2_with fail
    refine (c_heldSpanS A5 cap5 ns.length _ 1 (own_in (R := ptR) (enc := ptC) ptC_len (by decide) O.out (fun _ => rfl)) (by omega) (by omega) (by omega)).mono ?_
    rintro e w12 ⟨rfl, hb⟩
    replace E := Lib.hid (Ext.trans E.out hb)
    replace O := Lib.hid (own_ext O.out hb)
    clear hb
    go_wp2_with fail
    refine (c_toPointSS A cap rs _ (H3.out.ext rgR_stab E.out) hl1 Hs.out).mono ?_
    rintro e w13 ⟨b13, us13, rfl, hg13, hu13, hc13, hb⟩
    replace E := Lib.hid (Ext.trans E.out hb)
    replace O := Lib.hid (own_ext O.out hb)
    clear hb
    have C13 := Lib.hid (hc13)
    clear hc13
    go_wp2_with fail
    refine (c_iSpansOf _ _ rs rule row _ (C13.out.rgs hu13 Hs9.out) (by omega) Hs9.out).mono ?_
    rw [HS.out]
    rintro e w14 ⟨A14, cap14, rfl, ho14, hb⟩
    replace E := Lib.hid (Ext.trans E.out hb)
    replace O := Lib.hid (own_ext O.out hb)
    replace C13 := Lib.hid (C13.out.ext hb)
    clear hb
    have O2 := Lib.hid (ho14)
    clear ho14
    go_wp2_with fail
    refine (c_eqSpanS A14 A3 cap14 cap3 ns ns _ (own_in (R := ptR) (enc := ptC) ptC_len (by decide) O2.out (fun _ => rfl)) (P.out.ext ptR_stab E.out) (by omega) (by omega)).mono ?_
    rintro e w15 ⟨rfl, hb⟩
    replace E := Lib.hid (Ext.trans E.out hb)
    replace O := Lib.hid (own_ext O.out hb)
    replace C13 := Lib.hid (C13.out.ext hb)
    replace O2 := Lib.hid (own_ext O2.out hb)
    clear hb
    go_wp2_with fail
    refine (c_heldSpanS A5 cap5 ns.length _ 1 (own_in (R := ptR) (enc := ptC) ptC_len (by decide) O.out (fun _ => rfl)) (by omega) (by omega) (by omega)).mono ?_
    rintro e w16 ⟨rfl, hb⟩
    replace E := Lib.hid (Ext.trans E.out hb)
    replace O := Lib.hid (own_ext O.out hb)
    replace C13 := Lib.hid (C13.out.ext hb)
    replace O2 := Lib.hid (own_ext O2.out hb)
    clear hb
    go_wp2
    go_ret
    exact ⟨rfl, Ext.trans E3.out E.out⟩

theorem opens0 : Opens Try.prog 22 (slR (slR ptR 2) 1 ) :=  opens_slice Try.underlying22 (by kernel_rfl) (by decide) (opens_slice Try.underlying39 (by kernel_rfl) (by decide) (opens_pt Try.underlying63 (by kernel_rfl) (by kernel_rfl) (by kernel_rfl) (by kernel_rfl) (by kernel_rfl) (by kernel_rfl) (by kernel_rfl)))
set_option maxRecDepth 100000 in
theorem lifted (os : Os) (started : os.Started) (H : Type) (enc : TypeId × Value → H) :
    ReturnsInHanded {} Try.checked os 4 .any (Rows.fnExactSpansOfSpec.pre6 enc Try.prog Try.f4 Rows.fnExactSpansOfRow.domain false) (Rows.fnExactSpansOfSpec.post enc Try.prog Try.f4 false true false false) := by
  refine returnsInHanded_of_change (C := Try.checked) own started (by kernel_rfl) Try.func4
    (ChangeSpec.witness6 (enc := enc) (C := Try.checked) false ⟨#[], #[.slice none 0 0, .int .i64 0, .int .i64 0], []⟩ 8 (by kernel_rfl) (by kernel_rfl) (by kernel_rfl) (by kernel_rfl)) ?_
  intro W base args ds gs before hval0 hW hcnd _
  have hval : ∀ (j : Nat) t v, Try.f4.params[j]? = some t → args[j]? = some v → Value.okWide Try.prog W .any base t v := hval0
  have hW' := hW
  obtain ⟨p, q, hA0, hV, rfl, hfz, hnd⟩ := hW
  have hA : DataW.TrodAll enc Try.prog W 0 (fun _ => true) true Try.f4.params.toList args.toList ds p := hA0
  rw [Try.params4] at hA hval
  obtain ⟨v0, vs0, d0, ds0, p0, q0, hargs, rfl, rfl, h0, r0⟩ := trodAll_cons hA
  obtain ⟨v1, vs1, d1, ds1, p1, q1, rfl, rfl, rfl, h1, r1⟩ := trodAll_cons r0
  obtain ⟨v2, vs2, d2, ds2, p2, q2, rfl, rfl, rfl, h2, r2⟩ := trodAll_cons r1
  obtain ⟨rfl, rfl, rfl⟩ := trodAll_nil r2
  obtain rfl : args = #[v0, v1, v2] := by cases args; simp_all
  obtain ⟨rfl, rfl, rfl⟩ := trodVars_none hV
  obtain ⟨a0, len0, cap0, rfl⟩ := okWide_slice Try.underlying22 (hval 0 22 v0 rfl rfl)
  obtain ⟨n1, rfl⟩ := okWide_int Try.underlying3 (hval 1 3 v1 rfl rfl)
  obtain ⟨n2, rfl⟩ := okWide_int Try.underlying3 (hval 2 3 v2 rfl rfl)
  have k0 := h0
  have lt0 : ∀ x ∈ p0, x.block < W.heap.size := by obtain ⟨m, hm⟩ := k0; exact DataW.trod_lt m _ _ _ hm
  have k1 := h1
  have lt1 : ∀ x ∈ p1, x.block < W.heap.size := by obtain ⟨m, hm⟩ := k1; exact DataW.trod_lt m _ _ _ hm
  have k2 := h2
  have lt2 : ∀ x ∈ p2, x.block < W.heap.size := by obtain ⟨m, hm⟩ := k2; exact DataW.trod_lt m _ _ _ hm
  obtain ⟨xs0, rfl, w0, wl0, wc0⟩ := open_arg rfl opens0 h0
  clear hA0 hval0
  refine (walk a0 cap0 xs0 n1 n2 W w0 wl0 wc0).mono fun e W' ⟨he, bel⟩ => ?_
  subst he
  exact ⟨_, rfl, _, _, _, [], _, [], hW', trodAll_mk1 (shut_bool Try.underlying4 _), (trodAll_cons_mk (Below.trod laidOut (by kernel_rfl) (of_decide_eq_true (by kernel_rfl)) k0 bel lt0) (trodAll_cons_mk (Below.trod laidOut (by kernel_rfl) (of_decide_eq_true (by kernel_rfl)) k1 bel lt1) (trodAll_cons_mk (Below.trod laidOut (by kernel_rfl) (of_decide_eq_true (by kernel_rfl)) k2 bel lt2) trodAll_mk0))), rfl, bel.frame _, fun h => by cases h⟩
theorem over : Rows.fnExactSpansOfRow.holds Try.pinned (OpenSpec.ofChange Rows.fnExactSpansOfSpec) :=
  OpenClaim.holds_of_wide 4 Try.f4 rfl rfl rfl rfl rfl rfl rfl ⟨rfl, rfl, rfl, rfl, rfl⟩ rfl rfl rfl rfl rfl (by kernel_rfl) Try.func4 (by kernel_rfl)
    (of_decide_eq_true (by kernel_rfl)) (by unfold Func.isWrapper; first | (rw [if_pos (by decide +kernel)]; kernel_rfl) | (rw [if_neg (by decide +kernel)]; exact ⟨rfl, rfl⟩))
    (fun os started H enc _ => lifted os started H enc)

theorem proved : Rows.FnExactSpansOfSaid := over

end Go.Proofs.Yteknlifgejpjfaa.fnExactSpansOf
