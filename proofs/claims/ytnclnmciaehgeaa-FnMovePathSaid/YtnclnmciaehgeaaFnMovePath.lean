/- Paths move with their polygons, and back, whatever the bytes that the path and the distances are drawn from. -/
import Derived.Test.YtnclnmciaehgeaaGenM
import Derived.Test.YtnclnmciaehgeaaMovePI
import Derived.Test.YtnclnmciaehgeaaMoveRL
import Derived.Test.YtnclnmciaehgeaaMovedR
import Derived.Test.YtnclnmciaehgeaaRingsO
import Derived.Test.YtnclnmciaehgeaaEqualR
import Derived.Test.YtnclnmciaehgeaaJoin
import Derived.Test.YtnclnmciaehgeaaOpen
namespace Go.Proofs.Ytnclnmciaehgeaa.fnMovePath
open Go Go.RowKit Go.ChangeShapes Go.WideShapes Go.ChangeAt Go.Deep Reg
attribute [local go_sem] calmAt calmUpon

theorem own : ownKnob Try.prog.godebug = none := by kernel_rfl
theorem laidOut : laidOutB Try.prog = true := by kernel_rfl
theorem moved_facts {s t : Int} {vs : List Vb} (h : movedVB s t vs = true) : ringsV vs = ringsL vs ∧ ringsV (vs.map (mvV s t)) = (ringsL vs).map (moveL s t) ∧ (-1000 ≤ s ∧ s ≤ 1000) ∧ (-1000 ≤ t ∧ t ≤ 1000) ∧ vs.length ≤ 30 ∧ ∀ v ∈ vs.map (mvV s t), v.2.length ≤ 40 := by
  unfold movedVB at h
  simp only [Bool.and_eq_true, inB_iff] at h
  obtain ⟨⟨⟨h1, h2⟩, h3⟩, h4⟩ := h
  have h5 : pathOk (vs.map (mvV s t)) = true := by rw [pathOk_moved h1]; exact h4
  refine ⟨ringsV_yes h1, by rw [ringsV_yes h5, ringsL_mv h1], h2, h3, (pathOk_to h1).2, fun v hv => ?_⟩
  obtain ⟨u, hu, rfl⟩ := List.mem_map.1 hv
  obtain ⟨i, hi, rfl⟩ := List.getElem_of_mem hu
  have := psB_len (vbOk_facts ((pathOk_to h1).1 i hi) hi).2.2.1
  have e := moveL_len s t vs[i].2
  simp only [mvV]; omega

set_option maxRecDepth 100000 in
set_option maxHeartbeats 4000000 in
theorem walk (A : Option Addr) (cap : Nat) (bs : List Int) (w : World) (h : In byteR 1 w A bs) (hlc : bs.length ≤ cap) (hcm : cap ≤ maxLen) :
    Calls Try.prog 5 #[.slice A bs.length cap] w fun e w' => e = .returned (.bool true) ∧ Below w.heap.size w w' := by
  unfold maxLen at hcm
  by_cases hn : bs.length ≤ 1048576
  · have hnI : ¬ (1048576 : Int) < (bs.length : Int) := by omega
    have E := Lib.hid (Below.refl w.heap.size w)
    go_enter Try.func5, Try.ntmps5
    go_wp2_with fail
    refine (c_DrawMovePath A cap bs w h hlc (by omega)).mono ?_
    rintro e w1 ⟨A1, cap1, vs, ss, x, y, rfl, hall, hl, hx, hy, ho1, hb⟩
    replace E := Lib.hid (Ext.trans E.out hb)
    clear hb
    have V := Lib.hid (ho1.inK)
    have hcap := ho1.out.slok.2.1
    have Hall : Hid (∀ v ∈ vs, v.2.length ≤ 1000000000) := Lib.hid (fun v hv => Nat.le_trans (hall v hv) (by decide))
    have Hall6 : Hid (∀ v ∈ vs, v.2.length ≤ 1048576) := Lib.hid (fun v hv => Nat.le_trans (hall v hv) (by decide))
    obtain ⟨hx1, hx2⟩ := hx
    obtain ⟨hy1, hy2⟩ := hy
    clear ho1 h hn hall
    obtain ⟨d, hd⟩ : ∃ d, movedVB x y vs = d := ⟨_, rfl⟩
    cases d
    · have Hm := Lib.hid (movedV_no hd)
      clear hd
      go_wp2_with fail
      refine (c_iMovePath A1 cap1 vs x y _ V.out (by omega) Hall.out).mono ?_
      rw [Hm.out]
      rintro e w2 ⟨A2, cap2, ss2, rfl, ho2, hb⟩
      replace E := Lib.hid (Ext.trans E.out hb)
      replace V := Lib.hid (V.out.ext verbK_stab hb)
      clear hb
      have Q := Lib.hid (ho2.in_)
      clear ho2
      go_wp2_with fail
      refine (c_sMovePath A1 cap1 vs x y _ V.out.toV (by omega) Hall.out).mono ?_
      rw [Hm.out]
      rintro e w3 ⟨A3, cap3, ss3, rfl, ho3, hb⟩
      replace E := Lib.hid (Ext.trans E.out hb)
      replace V := Lib.hid (V.out.ext verbK_stab hb)
      replace Q := Lib.hid (Q.out.ext verbR_stab hb)
      clear hb
      have W0 := Lib.hid (ho3.in_)
      clear ho3
      go_wp2_with fail
      refine (c_equalPath _ _ _ _ [] _ Q.out W0.out (by simp) (fun v hv => by simp at hv)).mono ?_
      rintro e w4 ⟨rfl, hb⟩
      replace E := Lib.hid (Ext.trans E.out hb)
      replace V := Lib.hid (V.out.ext verbK_stab hb)
      replace Q := Lib.hid (Q.out.ext verbR_stab hb)
      replace W0 := Lib.hid (W0.out.ext verbR_stab hb)
      clear hb
      go_wp2_with fail
      refine (c_equalPath _ _ _ _ [] _ Q.out W0.out (by simp) (fun v hv => by simp at hv)).mono ?_
      rintro e w5 ⟨rfl, hb⟩
      replace E := Lib.hid (Ext.trans E.out hb)
      replace V := Lib.hid (V.out.ext verbK_stab hb)
      replace Q := Lib.hid (Q.out.ext verbR_stab hb)
      replace W0 := Lib.hid (W0.out.ext verbR_stab hb)
      clear hb
      go_wp2
      go_ret
      exact ⟨rfl, E.out⟩
    · have Hm := Lib.hid (movedV_yes hd)
      have Hbk := Lib.hid (movedV_back hd)
      obtain ⟨f1, f2, f3, f4, f5, f6⟩ := moved_facts hd
      obtain ⟨S, hS⟩ : ∃ S, ringsL vs = S := ⟨_, rfl⟩
      rw [hS] at f1 f2
      have hok := ringsV_ok vs
      have hSr := ringsV_len vs
      rw [f1] at hok hSr
      have hSl := hok.2.2
      have Sr : Hid (∀ r ∈ S, 0 < r.length ∧ r.length ≤ 1000) := Lib.hid (fun r hr => ⟨(hok.1 r hr).2, by have := hSr r hr; omega⟩)
      have F1 := Lib.hid f1
      have F2 := Lib.hid f2
      have hql : (vs.map (mvV x y)).length = vs.length := List.length_map _
      have hql30 : (vs.map (mvV x y)).length ≤ 30 := by omega
      generalize hqs : vs.map (mvV x y) = qs at *
      clear hqs
      have Q6 : Hid (∀ v ∈ qs, v.2.length ≤ 1048576) := Lib.hid (fun v hv => Nat.le_trans (f6 v hv) (by decide))
      have Q9 : Hid (∀ v ∈ qs, v.2.length ≤ 1000000000) := Lib.hid (fun v hv => Nat.le_trans (f6 v hv) (by decide))
      have F3 := Lib.hid f3
      have F4 := Lib.hid f4
      clear hd hS hok hSr f1 f2 f3 f4 f6 hql
      go_wp2_with fail
      refine (c_iMovePath A1 cap1 vs x y _ V.out (by omega) Hall.out).mono ?_
      rw [Hm.out]
      rintro e w2 ⟨A2, cap2, ss2, rfl, ho2, hb⟩
      replace E := Lib.hid (Ext.trans E.out hb)
      replace V := Lib.hid (V.out.ext verbK_stab hb)
      clear hb
      have Q := Lib.hid (ho2.inK)
      clear ho2
      go_wp2_with fail
      refine (c_sMovePath A1 cap1 vs x y _ V.out.toV (by omega) Hall.out).mono ?_
      rw [Hm.out]
      rintro e w3 ⟨A3, cap3, ss3, rfl, ho3, hb⟩
      replace E := Lib.hid (Ext.trans E.out hb)
      replace V := Lib.hid (V.out.ext verbK_stab hb)
      replace Q := Lib.hid (Q.out.ext verbK_stab hb)
      clear hb
      have W0 := Lib.hid (ho3.in_)
      clear ho3
      go_wp2_with fail
      refine (c_equalPath _ _ _ _ qs _ Q.out.toV W0.out (by omega) Q6.out).mono ?_
      rintro e w4 ⟨rfl, hb⟩
      replace E := Lib.hid (Ext.trans E.out hb)
      replace V := Lib.hid (V.out.ext verbK_stab hb)
      replace Q := Lib.hid (Q.out.ext verbK_stab hb)
      replace W0 := Lib.hid (W0.out.ext verbR_stab hb)
      clear hb
      go_wp2_with fail
      refine (c_iRingsOf A1 cap1 vs _ V.out (by omega) Hall.out).mono ?_
      rw [F1.out]
      rintro e w5 ⟨A5, cap5, ss5, rfl, ho5, hb⟩
      replace E := Lib.hid (Ext.trans E.out hb)
      replace V := Lib.hid (V.out.ext verbK_stab hb)
      replace Q := Lib.hid (Q.out.ext verbK_stab hb)
      replace W0 := Lib.hid (W0.out.ext verbR_stab hb)
      clear hb
      have G := Lib.hid (ho5.in_)
      clear ho5
      obtain ⟨e, he⟩ : ∃ e, movedOk x y S = e := ⟨_, rfl⟩
      have Hmr : Hid (movedR x y S = if e = true then (S.map (moveL x y), true) else ([], false)) := Lib.hid (by unfold movedR; rw [he])
      clear he
      cases e
      · have Hr : Hid (movedR x y S = ([], false)) := Lib.hid (by rw [Hmr.out]; rfl)
        go_wp2_with fail
        refine (c_movedRG A5 cap5 S x y _ G.out (by omega) Sr.out).mono ?_
        rw [Hr.out]
        rintro e w6 ⟨A6, cap6, ss6, rfl, ho6, hb⟩
        replace E := Lib.hid (Ext.trans E.out hb)
        replace V := Lib.hid (V.out.ext verbK_stab hb)
        replace Q := Lib.hid (Q.out.ext verbK_stab hb)
        replace W0 := Lib.hid (W0.out.ext verbR_stab hb)
        replace G := Lib.hid (G.out.ext rgR_stab hb)
        clear hb
        clear ho6
        go_wp2_with fail
        refine (c_iMovePath A2 cap2 qs (-x) (-y) _ Q.out (by omega) Q9.out).mono ?_
        rw [Hbk.out]
        rintro e w7 ⟨A7, cap7, ss7, rfl, ho7, hb⟩
        replace E := Lib.hid (Ext.trans E.out hb)
        replace V := Lib.hid (V.out.ext verbK_stab hb)
        replace Q := Lib.hid (Q.out.ext verbK_stab hb)
        replace W0 := Lib.hid (W0.out.ext verbR_stab hb)
        replace G := Lib.hid (G.out.ext rgR_stab hb)
        clear hb
        have B7 := Lib.hid (ho7.in_)
        clear ho7
        go_wp2_with fail
        refine (c_equalPath _ _ _ _ vs _ B7.out V.out.toV (by omega) Hall6.out).mono ?_
        rintro e w8 ⟨rfl, hb⟩
        replace E := Lib.hid (Ext.trans E.out hb)
        replace V := Lib.hid (V.out.ext verbK_stab hb)
        replace Q := Lib.hid (Q.out.ext verbK_stab hb)
        replace W0 := Lib.hid (W0.out.ext verbR_stab hb)
        replace G := Lib.hid (G.out.ext rgR_stab hb)
        replace B7 := Lib.hid (B7.out.ext verbR_stab hb)
        clear hb
        go_wp2
        go_ret
        exact ⟨rfl, E.out⟩
      · have Hr : Hid (movedR x y S = (S.map (moveL x y), true)) := Lib.hid (by rw [Hmr.out]; rfl)
        have hml : (S.map (moveL x y)).length ≤ 31 := by rw [List.length_map]; exact hSl
        have Mr : Hid (∀ r ∈ S.map (moveL x y), r.length ≤ 1048576) := Lib.hid (fun r hr => by
          obtain ⟨q, hq, rfl⟩ := List.mem_map.1 hr
          have h1 := (Sr.out q hq).2
          rw [moveL_len]; omega)
        generalize S.map (moveL x y) = MS at *
        go_wp2_with fail
        refine (c_movedRG A5 cap5 S x y _ G.out (by omega) Sr.out).mono ?_
        rw [Hr.out]
        rintro e w6 ⟨A6, cap6, ss6, rfl, ho6, hb⟩
        replace E := Lib.hid (Ext.trans E.out hb)
        replace V := Lib.hid (V.out.ext verbK_stab hb)
        replace Q := Lib.hid (Q.out.ext verbK_stab hb)
        replace W0 := Lib.hid (W0.out.ext verbR_stab hb)
        replace G := Lib.hid (G.out.ext rgR_stab hb)
        clear hb
        have M6 := Lib.hid (ho6.in_)
        clear ho6
        go_wp2_with fail
        refine (c_iMovePath A2 cap2 qs (-x) (-y) _ Q.out (by omega) Q9.out).mono ?_
        rw [Hbk.out]
        rintro e w7 ⟨A7, cap7, ss7, rfl, ho7, hb⟩
        replace E := Lib.hid (Ext.trans E.out hb)
        replace V := Lib.hid (V.out.ext verbK_stab hb)
        replace Q := Lib.hid (Q.out.ext verbK_stab hb)
        replace W0 := Lib.hid (W0.out.ext verbR_stab hb)
        replace G := Lib.hid (G.out.ext rgR_stab hb)
        replace M6 := Lib.hid (M6.out.ext rgR_stab hb)
        clear hb
        have B7 := Lib.hid (ho7.in_)
        clear ho7
        go_wp2_with fail
        refine (c_equalPath _ _ _ _ vs _ B7.out V.out.toV (by omega) Hall6.out).mono ?_
        rintro e w8 ⟨rfl, hb⟩
        replace E := Lib.hid (Ext.trans E.out hb)
        replace V := Lib.hid (V.out.ext verbK_stab hb)
        replace Q := Lib.hid (Q.out.ext verbK_stab hb)
        replace W0 := Lib.hid (W0.out.ext verbR_stab hb)
        replace G := Lib.hid (G.out.ext rgR_stab hb)
        replace M6 := Lib.hid (M6.out.ext rgR_stab hb)
        replace B7 := Lib.hid (B7.out.ext verbR_stab hb)
        clear hb
        go_wp2_with fail
        refine (c_iRingsOf A2 cap2 qs _ Q.out (by omega) Q9.out).mono ?_
        rw [F2.out]
        rintro e w9 ⟨A9, cap9, ss9, rfl, ho9, hb⟩
        replace E := Lib.hid (Ext.trans E.out hb)
        replace V := Lib.hid (V.out.ext verbK_stab hb)
        replace Q := Lib.hid (Q.out.ext verbK_stab hb)
        replace W0 := Lib.hid (W0.out.ext verbR_stab hb)
        replace G := Lib.hid (G.out.ext rgR_stab hb)
        replace M6 := Lib.hid (M6.out.ext rgR_stab hb)
        replace B7 := Lib.hid (B7.out.ext verbR_stab hb)
        clear hb
        have R9 := Lib.hid (ho9.in_)
        clear ho9
        go_wp2_with fail
        refine (c_equalRings _ _ _ _ MS _ R9.out M6.out (by omega) Mr.out).mono ?_
        rintro e w10 ⟨rfl, hb⟩
        replace E := Lib.hid (Ext.trans E.out hb)
        replace V := Lib.hid (V.out.ext verbK_stab hb)
        replace Q := Lib.hid (Q.out.ext verbK_stab hb)
        replace W0 := Lib.hid (W0.out.ext verbR_stab hb)
        replace G := Lib.hid (G.out.ext rgR_stab hb)
        replace M6 := Lib.hid (M6.out.ext rgR_stab hb)
        replace B7 := Lib.hid (B7.out.ext verbR_stab hb)
        replace R9 := Lib.hid (R9.out.ext rgR_stab hb)
        clear hb
        go_wp2
        go_ret
        exact ⟨rfl, E.out⟩
  · have hnI : (1048576 : Int) < (bs.length : Int) := by omega
    clear h
    go_enter Try.func5, Try.ntmps5
    go_wp2
    go_ret
    exact ⟨rfl, Below.refl _ _⟩

theorem opens0 : Opens Try.prog 22 (slR byteR 1 ) :=  opens_slice Try.underlying22 (by kernel_rfl) (by decide) (opens_byte Try.underlying5)
set_option maxRecDepth 100000 in
theorem lifted (os : Os) (started : os.Started) (H : Type) (enc : TypeId × Value → H) :
    ReturnsInHanded {} Try.checked os 5 .any (Rows.fnMovePathSpec.pre6 enc Try.prog Try.f5 Rows.fnMovePathRow.domain false) (Rows.fnMovePathSpec.post enc Try.prog Try.f5 false true false false) := by
  refine returnsInHanded_of_change (C := Try.checked) own started (by kernel_rfl) Try.func5
    (ChangeSpec.witness6 (enc := enc) (C := Try.checked) false ⟨#[], #[.slice none 0 0], []⟩ 8 (by kernel_rfl) (by kernel_rfl) (by kernel_rfl) (by kernel_rfl)) ?_
  intro W base args ds gs before hval0 hW hcnd _
  have hval : ∀ (j : Nat) t v, Try.f5.params[j]? = some t → args[j]? = some v → Value.okWide Try.prog W .any base t v := hval0
  have hW' := hW
  obtain ⟨p, q, hA0, hV, rfl, hfz, hnd⟩ := hW
  have hA : DataW.TrodAll enc Try.prog W 0 (fun _ => true) true Try.f5.params.toList args.toList ds p := hA0
  rw [Try.params5] at hA hval
  obtain ⟨v0, vs0, d0, ds0, p0, q0, hargs, rfl, rfl, h0, r0⟩ := trodAll_cons hA
  obtain ⟨rfl, rfl, rfl⟩ := trodAll_nil r0
  obtain rfl : args = #[v0] := by cases args; simp_all
  obtain ⟨rfl, rfl, rfl⟩ := trodVars_none hV
  obtain ⟨a0, len0, cap0, rfl⟩ := okWide_slice Try.underlying22 (hval 0 22 v0 rfl rfl)
  have k0 := h0
  have lt0 : ∀ x ∈ p0, x.block < W.heap.size := by obtain ⟨m, hm⟩ := k0; exact DataW.trod_lt m _ _ _ hm
  obtain ⟨xs0, rfl, w0, wl0, wc0⟩ := open_arg rfl opens0 h0
  clear hA0 hval0
  refine (walk a0 cap0 xs0 W w0 wl0 wc0).mono fun e W' ⟨he, bel⟩ => ?_
  subst he
  exact ⟨_, rfl, _, _, _, [], _, [], hW', trodAll_mk1 (shut_bool Try.underlying4 _), (trodAll_cons_mk (Below.trod laidOut (by kernel_rfl) (of_decide_eq_true (by kernel_rfl)) k0 bel lt0) trodAll_mk0), rfl, bel.frame _, fun h => by cases h⟩
theorem joinedA : joinA Try.pinned.checked.prog 5 Try.f5 Rows.fnMovePathSpec Rows.fnMovePathRow = true := by kernel_rfl
theorem joinedB : joinB Try.pinned.checked.prog Rows.fnMovePathRow = true := by kernel_rfl
theorem over : Rows.fnMovePathRow.holds Try.pinned (OpenSpec.ofChange Rows.fnMovePathSpec) :=
  OpenClaim.holds_of_wide 5 Try.f5 rfl rfl rfl rfl rfl rfl rfl ⟨rfl, rfl, rfl, rfl, rfl⟩ rfl rfl rfl rfl rfl (by kernel_rfl) Try.func5 (joined_of joinedA joinedB)
    (of_decide_eq_true (by kernel_rfl)) (by unfold Func.isWrapper; first | (rw [if_pos (by decide +kernel)]; kernel_rfl) | (rw [if_neg (by decide +kernel)]; exact ⟨rfl, rfl⟩))
    (fun os started H enc _ => lifted os started H enc)

theorem proved : Rows.FnMovePathSaid := over

end Go.Proofs.Ytnclnmciaehgeaa.fnMovePath

