/- The polygons of a drawn path are those of the reference, and each begins at the point of its move, whatever the bytes that the path is drawn from. -/
import Derived.Test.YtnclnmciaehgeaaAPath
import Derived.Test.YtnclnmciaehgeaaRingsO
import Derived.Test.YtnclnmciaehgeaaEqualR
import Derived.Test.YtnclnmciaehgeaaPathM
import Derived.Test.YtnclnmciaehgeaaJoin
import Derived.Test.YtnclnmciaehgeaaOpen
namespace Go.Proofs.Ytnclnmciaehgeaa.fnRingsOf
open Go Go.RowKit Go.ChangeShapes Go.WideShapes Go.ChangeAt Go.Deep Reg
attribute [local go_sem] calmAt calmUpon

theorem own : ownKnob Try.prog.godebug = none := by kernel_rfl
theorem laidOut : laidOutB Try.prog = true := by kernel_rfl

set_option maxRecDepth 100000 in
set_option maxHeartbeats 4000000 in
theorem walk (A : Option Addr) (cap : Nat) (bs : List Int) (w : World) (h : In byteR 1 w A bs) (hlc : bs.length ≤ cap) (hcm : cap ≤ maxLen) :
    Calls Try.prog 3 #[.slice A bs.length cap] w fun e w' => e = .returned (.bool true) ∧ Below w.heap.size w w' := by
  unfold maxLen at hcm
  by_cases hn : bs.length ≤ 1048576
  · have hnI : ¬ (1048576 : Int) < (bs.length : Int) := by omega
    have E := Lib.hid (Below.refl w.heap.size w)
    go_enter Try.func3, Try.ntmps3
    go_wp2_with fail
    refine (c_DrawRingsOf A cap bs w h hlc (by omega)).mono ?_
    rintro e w1 ⟨A1, cap1, vs, ss, rfl, hall, hl, ho1, hb⟩
    replace E := Lib.hid (Ext.trans E.out hb)
    clear hb
    have V := Lib.hid (ho1.inK)
    have hcap := ho1.out.slok.2.1
    have Hall : Hid (∀ v ∈ vs, v.2.length ≤ 1000000000) := Lib.hid (fun v hv => Nat.le_trans (hall v hv) (by decide))
    clear ho1 h hn hall
    obtain ⟨S, hS⟩ : ∃ S, ringsV vs = S := ⟨_, rfl⟩
    have HS := Lib.hid hS
    have hSl := (ringsV_ok vs).2.2
    have hSr := ringsV_len vs
    rw [hS] at hSl hSr
    have Sr7 : Hid (∀ r ∈ S, r.length ≤ 1048576) := Lib.hid (fun r hr => by have := hSr r hr; omega)
    have hS0 : ∀ r ∈ S, 0 < r.length := fun r hr => ((ringsV_ok vs).1 r (by rw [hS]; exact hr)).2
    have Sr0 := Lib.hid hS0
    clear hS hSr hS0
    obtain ⟨d, hd⟩ : ∃ d, d = pathOk vs := ⟨_, rfl⟩
    have Hd := Lib.hid hd
    clear hd
    go_wp2_with fail
    refine (c_iRingsOf A1 cap1 vs w1 V.out (by omega) Hall.out).mono ?_
    rw [HS.out]
    rintro e w2 ⟨A2, cap2, ss2, rfl, ho2, hb⟩
    replace E := Lib.hid (Ext.trans E.out hb)
    replace V := Lib.hid (V.out.ext verbK_stab hb)
    clear hb
    have G := Lib.hid (ho2.in_)
    clear ho2
    go_wp2_with fail
    refine (c_sRingsOf A1 cap1 vs w2 V.out.toV (by omega) Hall.out).mono ?_
    rw [HS.out]
    rintro e w3 ⟨A3, cap3, ss3, rfl, ho3, hb⟩
    replace E := Lib.hid (Ext.trans E.out hb)
    replace V := Lib.hid (V.out.ext verbK_stab hb)
    replace G := Lib.hid (G.out.ext rgR_stab hb)
    clear hb
    have W0 := Lib.hid (ho3.in_)
    clear ho3
    go_wp2_with fail
    refine (c_equalRings _ _ _ _ S _ G.out W0.out (by omega) Sr7.out).mono ?_
    rintro e w4 ⟨rfl, hb⟩
    replace E := Lib.hid (Ext.trans E.out hb)
    replace V := Lib.hid (V.out.ext verbK_stab hb)
    replace G := Lib.hid (G.out.ext rgR_stab hb)
    replace W0 := Lib.hid (W0.out.ext rgR_stab hb)
    clear hb
    go_wp2_with fail
    refine (c_iValidPath A1 cap1 vs w4 V.out.toV (by omega) Hall.out).mono ?_
    rw [← Hd.out]
    rintro e w5 ⟨rfl, hb⟩
    replace E := Lib.hid (Ext.trans E.out hb)
    replace V := Lib.hid (V.out.ext verbK_stab hb)
    replace G := Lib.hid (G.out.ext rgR_stab hb)
    replace W0 := Lib.hid (W0.out.ext rgR_stab hb)
    clear hb
    cases d
    · go_wp2_with fail
      refine (c_sRingsOf A1 cap1 vs w5 V.out.toV (by omega) Hall.out).mono ?_
      rw [HS.out]
      rintro e w6 ⟨A6, cap6, ss6, rfl, ho6, hb⟩
      replace E := Lib.hid (Ext.trans E.out hb)
      replace V := Lib.hid (V.out.ext verbK_stab hb)
      replace G := Lib.hid (G.out.ext rgR_stab hb)
      replace W0 := Lib.hid (W0.out.ext rgR_stab hb)
      clear hb
      have W6 := Lib.hid (ho6.in_)
      clear ho6
      go_wp2_with fail
      refine (c_equalRings _ _ _ _ S _ G.out W6.out (by omega) Sr7.out).mono ?_
      rintro e w7 ⟨rfl, hb⟩
      replace E := Lib.hid (Ext.trans E.out hb)
      replace V := Lib.hid (V.out.ext verbK_stab hb)
      replace G := Lib.hid (G.out.ext rgR_stab hb)
      replace W0 := Lib.hid (W0.out.ext rgR_stab hb)
      replace W6 := Lib.hid (W6.out.ext rgR_stab hb)
      clear hb
      go_wp2
      go_ret
      exact ⟨rfl, E.out⟩
    · have hok : pathOk vs = true := Hd.out.symm
      have hSL : ringsL vs = S := by rw [← ringsV_yes hok]; exact HS.out
      have Hto := Lib.hid (pathOk_to hok).1
      have Hbg := Lib.hid (fun (k : Nat) (hk : k < vs.length) (h0 : vs[k].1 = 0) => ringsL_begin hok hk h0)
      have Hmn := Lib.hid (ringsL_many hok)
      rw [hSL] at Hbg Hmn
      clear hok hSL Hd
      obtain ⟨wb, hwb⟩ : ∃ wb : World, wb = w5 := ⟨_, rfl⟩
      subst hwb
      go_wp2_with fail
      go_loopw [5, 6] (fun v5 v6 wr => ∃ (k : Nat), k ≤ vs.length ∧ v6 = .int .i64 k ∧ v5 = .int .i64 ((movesL vs k).length : Nat) ∧ Ext wb wr) (fun _ v6 _ => vs.length - (intOf v6).toNat)
      case atStart => exact ⟨0, Nat.zero_le _, rfl, rfl, Ext.refl _⟩
      case round =>
        obtain ⟨k, hk, rfl, rfl, hbw⟩ := hrel
        have X := Lib.hid hbw
        have hml := movesL_le vs k
        clear hbw
        by_cases hkl : k < vs.length
        · have hkI : decide ((k : Int) < (vs.length : Int)) = true := by simp; omega
          obtain ⟨b1, off1, hA1, _, hc1⟩ := (V.out.ext verbK_stab X.out).vbk (by omega)
          subst hA1
          obtain ⟨Av, capv, cx, cy, hp, _⟩ := hc1 k hkl
          obtain ⟨f1, f2, _, _⟩ := vbOk_facts (Hto.out k hkl) hkl
          have Hms := Lib.hid (movesL_succ hkl)
          by_cases h0 : vs[k].1 = 0
          · obtain ⟨hnS, hhd⟩ := Hbg.out k hkl h0
            have hp0 : 0 < vs[k].2.length := by rw [f2, h0]; exact Nat.zero_lt_one
            have hs0 := Sr0.out _ (List.getElem_mem hnS)
            rw [headD_at hp0] at hhd
            unfold headP at hhd
            rw [headD_at hs0] at hhd
            obtain ⟨b2, off2, hA2, _, hc2⟩ := (G.out.ext rgR_stab X.out).rgs (by omega)
            subst hA2
            obtain ⟨Ar, capr, cr, hpr, _, _⟩ := hc2 _ hnS
            obtain ⟨b3, off3, hA3, _, hc3⟩ := hpr.pts hs0
            obtain ⟨b4, off4, hA4, _, hc4⟩ := hp.pts hp0
            subst hA3 hA4
            obtain ⟨px, py⟩ := hc3 0 hs0
            obtain ⟨qx, qy⟩ := hc4 0 hp0
            simp only [Nat.zero_mul, Nat.add_zero] at px py qx qy
            rw [hhd] at px py
            have Hms2 : Hid ((movesL vs (k + 1)).length = (movesL vs k).length + 1) := Lib.hid (by rw [Hms.out, if_pos h0, List.length_append]; rfl)
            rw [h0] at cx
            have i0 : (0 : Int) < (vs[k].2.length : Int) := by omega
            have i1 : (0 : Int) < (S[(movesL vs k).length].length : Int) := by omega
            have i2 : ((movesL vs k).length : Int) < (S.length : Int) := by omega
            have i3 : ¬ (S[(movesL vs k).length].length = 0) := by omega
            have i4 : (k : Int) < (vs.length : Int) := by omega
            have i5 : decide (((movesL vs k).length : Int) ≥ (S.length : Int)) = false := by simp; omega
            have i7 : ¬ (S.length : Int) ≤ ((movesL vs k).length : Int) := by omega
            have i8 : ¬ S.length ≤ (movesL vs k).length := by omega
            have i9 : (movesL vs k).length < S.length := hnS
            clear hc1 hc2 hc3 hc4 hp hpr hhd f1 f2 Hms h0
            generalize vs[k].2[0] = p at *
            generalize vs[k].2.length = n1 at *
            generalize hgn : (movesL vs k).length = nn at *
            generalize S[nn].length = n0 at *
            have i10 : ((n0 : Int) == 0) = false := by simp; omega
            have i11 : decide ((n0 : Int) = 0) = false := by simp; omega
            have Cx := Lib.hid cx
            have Cy := Lib.hid cy
            have Cr := Lib.hid cr
            have Px := Lib.hid px
            have Py := Lib.hid py
            have Qx := Lib.hid qx
            have Qy := Lib.hid qy
            clear cx cy cr px py qx qy hgn
            have cCx := Cx.out
            have cCy := Cy.out
            have cCr := Cr.out
            have cPx := Px.out
            have cPy := Py.out
            have cQx := Qx.out
            have cQy := Qy.out
            go_wp2_with fail
            refine wp_region_calm [0,1,2,3,4,5,6,7,8,9,10,11,12,13,14,15,16,17,18,19,20,21,22,23,24,25,26,27] [] (by kernel_rfl) (by kernel_rfl) ?_
            (first | (refine calm_yes rfl rfl (fun w' hC => (by have cCx := hC.cell cCx; have cCy := hC.cell cCy; have cCr := hC.cell cCr; have cPx := hC.cell cPx; have cPy := hC.cell cPy; have cQx := hC.cell cQx; have cQy := hC.cell cQy; go_simp; rfl)) (fun K hK => ?_); go_simp; refine hK _ ?_; clear hK K) | (refine calm_no rfl rfl (fun K hK => ?_); go_simp; refine hK _ ?_; clear hK K))
            (first | (refine calm_yes rfl rfl (fun w' hC => (by have cCx := hC.cell cCx; have cCy := hC.cell cCy; have cCr := hC.cell cCr; have cPx := hC.cell cPx; have cPy := hC.cell cPy; have cQx := hC.cell cQx; have cQy := hC.cell cQy; go_simp; rfl)) (fun K hK => ?_); go_simp; refine hK _ ?_; clear hK K) | (refine calm_no rfl rfl (fun K hK => ?_); go_simp; refine hK _ ?_; clear hK K))
            (first | (refine calm_yes rfl rfl (fun w' hC => (by have cCx := hC.cell cCx; have cCy := hC.cell cCy; have cCr := hC.cell cCr; have cPx := hC.cell cPx; have cPy := hC.cell cPy; have cQx := hC.cell cQx; have cQy := hC.cell cQy; go_simp; rfl)) (fun K hK => ?_); go_simp; refine hK _ ?_; clear hK K) | (refine calm_no rfl rfl (fun K hK => ?_); go_simp; refine hK _ ?_; clear hK K))
            (first | (refine calm_yes rfl rfl (fun w' hC => (by have cCx := hC.cell cCx; have cCy := hC.cell cCy; have cCr := hC.cell cCr; have cPx := hC.cell cPx; have cPy := hC.cell cPy; have cQx := hC.cell cQx; have cQy := hC.cell cQy; go_simp; rfl)) (fun K hK => ?_); go_simp; refine hK _ ?_; clear hK K) | (refine calm_no rfl rfl (fun K hK => ?_); go_simp; refine hK _ ?_; clear hK K))
            (first | (refine calm_yes rfl rfl (fun w' hC => (by have cCx := hC.cell cCx; have cCy := hC.cell cCy; have cCr := hC.cell cCr; have cPx := hC.cell cPx; have cPy := hC.cell cPy; have cQx := hC.cell cQx; have cQy := hC.cell cQy; go_simp; rfl)) (fun K hK => ?_); go_simp; refine hK _ ?_; clear hK K) | (refine calm_no rfl rfl (fun K hK => ?_); go_simp; refine hK _ ?_; clear hK K))
            (first | (refine calm_yes rfl rfl (fun w' hC => (by have cCx := hC.cell cCx; have cCy := hC.cell cCy; have cCr := hC.cell cCr; have cPx := hC.cell cPx; have cPy := hC.cell cPy; have cQx := hC.cell cQx; have cQy := hC.cell cQy; go_simp; rfl)) (fun K hK => ?_); go_simp; refine hK _ ?_; clear hK K) | (refine calm_no rfl rfl (fun K hK => ?_); go_simp; refine hK _ ?_; clear hK K))
            (first | (refine calm_yes rfl rfl (fun w' hC => (by have cCx := hC.cell cCx; have cCy := hC.cell cCy; have cCr := hC.cell cCr; have cPx := hC.cell cPx; have cPy := hC.cell cPy; have cQx := hC.cell cQx; have cQy := hC.cell cQy; go_simp; rfl)) (fun K hK => ?_); go_simp; refine hK _ ?_; clear hK K) | (refine calm_no rfl rfl (fun K hK => ?_); go_simp; refine hK _ ?_; clear hK K))
            (first | (refine calm_yes rfl rfl (fun w' hC => (by have cCx := hC.cell cCx; have cCy := hC.cell cCy; have cCr := hC.cell cCr; have cPx := hC.cell cPx; have cPy := hC.cell cPy; have cQx := hC.cell cQx; have cQy := hC.cell cQy; go_simp; rfl)) (fun K hK => ?_); go_simp; refine hK _ ?_; clear hK K) | (refine calm_no rfl rfl (fun K hK => ?_); go_simp; refine hK _ ?_; clear hK K))
            (first | (refine calm_yes rfl rfl (fun w' hC => (by have cCx := hC.cell cCx; have cCy := hC.cell cCy; have cCr := hC.cell cCr; have cPx := hC.cell cPx; have cPy := hC.cell cPy; have cQx := hC.cell cQx; have cQy := hC.cell cQy; go_simp; rfl)) (fun K hK => ?_); go_simp; refine hK _ ?_; clear hK K) | (refine calm_no rfl rfl (fun K hK => ?_); go_simp; refine hK _ ?_; clear hK K))
            (first | (refine calm_yes rfl rfl (fun w' hC => (by have cCx := hC.cell cCx; have cCy := hC.cell cCy; have cCr := hC.cell cCr; have cPx := hC.cell cPx; have cPy := hC.cell cPy; have cQx := hC.cell cQx; have cQy := hC.cell cQy; go_simp; rfl)) (fun K hK => ?_); go_simp; refine hK _ ?_; clear hK K) | (refine calm_no rfl rfl (fun K hK => ?_); go_simp; refine hK _ ?_; clear hK K))
            (first | (refine calm_yes rfl rfl (fun w' hC => (by have cCx := hC.cell cCx; have cCy := hC.cell cCy; have cCr := hC.cell cCr; have cPx := hC.cell cPx; have cPy := hC.cell cPy; have cQx := hC.cell cQx; have cQy := hC.cell cQy; go_simp; rfl)) (fun K hK => ?_); go_simp; refine hK _ ?_; clear hK K) | (refine calm_no rfl rfl (fun K hK => ?_); go_simp; refine hK _ ?_; clear hK K))
            (first | (refine calm_yes rfl rfl (fun w' hC => (by have cCx := hC.cell cCx; have cCy := hC.cell cCy; have cCr := hC.cell cCr; have cPx := hC.cell cPx; have cPy := hC.cell cPy; have cQx := hC.cell cQx; have cQy := hC.cell cQy; go_simp; rfl)) (fun K hK => ?_); go_simp; refine hK _ ?_; clear hK K) | (refine calm_no rfl rfl (fun K hK => ?_); go_simp; refine hK _ ?_; clear hK K))
            (first | (refine calm_yes rfl rfl (fun w' hC => (by have cCx := hC.cell cCx; have cCy := hC.cell cCy; have cCr := hC.cell cCr; have cPx := hC.cell cPx; have cPy := hC.cell cPy; have cQx := hC.cell cQx; have cQy := hC.cell cQy; go_simp; rfl)) (fun K hK => ?_); go_simp; refine hK _ ?_; clear hK K) | (refine calm_no rfl rfl (fun K hK => ?_); go_simp; refine hK _ ?_; clear hK K))
            (first | (refine calm_yes rfl rfl (fun w' hC => (by have cCx := hC.cell cCx; have cCy := hC.cell cCy; have cCr := hC.cell cCr; have cPx := hC.cell cPx; have cPy := hC.cell cPy; have cQx := hC.cell cQx; have cQy := hC.cell cQy; go_simp; rfl)) (fun K hK => ?_); go_simp; refine hK _ ?_; clear hK K) | (refine calm_no rfl rfl (fun K hK => ?_); go_simp; refine hK _ ?_; clear hK K))
            (first | (refine calm_yes rfl rfl (fun w' hC => (by have cCx := hC.cell cCx; have cCy := hC.cell cCy; have cCr := hC.cell cCr; have cPx := hC.cell cPx; have cPy := hC.cell cPy; have cQx := hC.cell cQx; have cQy := hC.cell cQy; go_simp; rfl)) (fun K hK => ?_); go_simp; refine hK _ ?_; clear hK K) | (refine calm_no rfl rfl (fun K hK => ?_); go_simp; refine hK _ ?_; clear hK K))
            (first | (refine calm_yes rfl rfl (fun w' hC => (by have cCx := hC.cell cCx; have cCy := hC.cell cCy; have cCr := hC.cell cCr; have cPx := hC.cell cPx; have cPy := hC.cell cPy; have cQx := hC.cell cQx; have cQy := hC.cell cQy; go_simp; rfl)) (fun K hK => ?_); go_simp; refine hK _ ?_; clear hK K) | (refine calm_no rfl rfl (fun K hK => ?_); go_simp; refine hK _ ?_; clear hK K))
            (first | (refine calm_yes rfl rfl (fun w' hC => (by have cCx := hC.cell cCx; have cCy := hC.cell cCy; have cCr := hC.cell cCr; have cPx := hC.cell cPx; have cPy := hC.cell cPy; have cQx := hC.cell cQx; have cQy := hC.cell cQy; go_simp; rfl)) (fun K hK => ?_); go_simp; refine hK _ ?_; clear hK K) | (refine calm_no rfl rfl (fun K hK => ?_); go_simp; refine hK _ ?_; clear hK K))
            (first | (refine calm_yes rfl rfl (fun w' hC => (by have cCx := hC.cell cCx; have cCy := hC.cell cCy; have cCr := hC.cell cCr; have cPx := hC.cell cPx; have cPy := hC.cell cPy; have cQx := hC.cell cQx; have cQy := hC.cell cQy; go_simp; rfl)) (fun K hK => ?_); go_simp; refine hK _ ?_; clear hK K) | (refine calm_no rfl rfl (fun K hK => ?_); go_simp; refine hK _ ?_; clear hK K))
            (first | (refine calm_yes rfl rfl (fun w' hC => (by have cCx := hC.cell cCx; have cCy := hC.cell cCy; have cCr := hC.cell cCr; have cPx := hC.cell cPx; have cPy := hC.cell cPy; have cQx := hC.cell cQx; have cQy := hC.cell cQy; go_simp; rfl)) (fun K hK => ?_); go_simp; refine hK _ ?_; clear hK K) | (refine calm_no rfl rfl (fun K hK => ?_); go_simp; refine hK _ ?_; clear hK K))
            (first | (refine calm_yes rfl rfl (fun w' hC => (by have cCx := hC.cell cCx; have cCy := hC.cell cCy; have cCr := hC.cell cCr; have cPx := hC.cell cPx; have cPy := hC.cell cPy; have cQx := hC.cell cQx; have cQy := hC.cell cQy; go_simp; rfl)) (fun K hK => ?_); go_simp; refine hK _ ?_; clear hK K) | (refine calm_no rfl rfl (fun K hK => ?_); go_simp; refine hK _ ?_; clear hK K))
            (first | (refine calm_yes rfl rfl (fun w' hC => (by have cCx := hC.cell cCx; have cCy := hC.cell cCy; have cCr := hC.cell cCr; have cPx := hC.cell cPx; have cPy := hC.cell cPy; have cQx := hC.cell cQx; have cQy := hC.cell cQy; go_simp; rfl)) (fun K hK => ?_); go_simp; refine hK _ ?_; clear hK K) | (refine calm_no rfl rfl (fun K hK => ?_); go_simp; refine hK _ ?_; clear hK K))
            (first | (refine calm_yes rfl rfl (fun w' hC => (by have cCx := hC.cell cCx; have cCy := hC.cell cCy; have cCr := hC.cell cCr; have cPx := hC.cell cPx; have cPy := hC.cell cPy; have cQx := hC.cell cQx; have cQy := hC.cell cQy; go_simp; rfl)) (fun K hK => ?_); go_simp; refine hK _ ?_; clear hK K) | (refine calm_no rfl rfl (fun K hK => ?_); go_simp; refine hK _ ?_; clear hK K))
            (first | (refine calm_yes rfl rfl (fun w' hC => (by have cCx := hC.cell cCx; have cCy := hC.cell cCy; have cCr := hC.cell cCr; have cPx := hC.cell cPx; have cPy := hC.cell cPy; have cQx := hC.cell cQx; have cQy := hC.cell cQy; go_simp; rfl)) (fun K hK => ?_); go_simp; refine hK _ ?_; clear hK K) | (refine calm_no rfl rfl (fun K hK => ?_); go_simp; refine hK _ ?_; clear hK K))
            (first | (refine calm_yes rfl rfl (fun w' hC => (by have cCx := hC.cell cCx; have cCy := hC.cell cCy; have cCr := hC.cell cCr; have cPx := hC.cell cPx; have cPy := hC.cell cPy; have cQx := hC.cell cQx; have cQy := hC.cell cQy; go_simp; rfl)) (fun K hK => ?_); go_simp; refine hK _ ?_; clear hK K) | (refine calm_no rfl rfl (fun K hK => ?_); go_simp; refine hK _ ?_; clear hK K))
            (first | (refine calm_yes rfl rfl (fun w' hC => (by have cCx := hC.cell cCx; have cCy := hC.cell cCy; have cCr := hC.cell cCr; have cPx := hC.cell cPx; have cPy := hC.cell cPy; have cQx := hC.cell cQx; have cQy := hC.cell cQy; go_simp; rfl)) (fun K hK => ?_); go_simp; refine hK _ ?_; clear hK K) | (refine calm_no rfl rfl (fun K hK => ?_); go_simp; refine hK _ ?_; clear hK K))
            (first | (refine calm_yes rfl rfl (fun w' hC => (by have cCx := hC.cell cCx; have cCy := hC.cell cCy; have cCr := hC.cell cCr; have cPx := hC.cell cPx; have cPy := hC.cell cPy; have cQx := hC.cell cQx; have cQy := hC.cell cQy; go_simp; rfl)) (fun K hK => ?_); go_simp; refine hK _ ?_; clear hK K) | (refine calm_no rfl rfl (fun K hK => ?_); go_simp; refine hK _ ?_; clear hK K))
            (first | (refine calm_yes rfl rfl (fun w' hC => (by have cCx := hC.cell cCx; have cCy := hC.cell cCy; have cCr := hC.cell cCr; have cPx := hC.cell cPx; have cPy := hC.cell cPy; have cQx := hC.cell cQx; have cQy := hC.cell cQy; go_simp; rfl)) (fun K hK => ?_); go_simp; refine hK _ ?_; clear hK K) | (refine calm_no rfl rfl (fun K hK => ?_); go_simp; refine hK _ ?_; clear hK K))
            (first | (refine calm_yes rfl rfl (fun w' hC => (by have cCx := hC.cell cCx; have cCy := hC.cell cCy; have cCr := hC.cell cCr; have cPx := hC.cell cPx; have cPy := hC.cell cPy; have cQx := hC.cell cQx; have cQy := hC.cell cQy; go_simp; rfl)) (fun K hK => ?_); go_simp; refine hK _ ?_; clear hK K) | (refine calm_no rfl rfl (fun K hK => ?_); go_simp; refine hK _ ?_; clear hK K))
            refine calm_done (fun w6 hb => ?_)
            clear cCx cCy cCr cPx cPy cQx cQy
            replace X := Lib.hid (Ext.trans X.out hb)
            replace Cx := Lib.hid (Cls.cell hb Cx.out)
            replace Cy := Lib.hid (Cls.cell hb Cy.out)
            replace Cr := Lib.hid (Cls.cell hb Cr.out)
            replace Px := Lib.hid (Cls.cell hb Px.out)
            replace Py := Lib.hid (Cls.cell hb Py.out)
            replace Qx := Lib.hid (Cls.cell hb Qx.out)
            replace Qy := Lib.hid (Cls.cell hb Qy.out)
            clear hb
            have cCx := Cx.out
            have cCy := Cy.out
            have cCr := Cr.out
            have cPx := Px.out
            have cPy := Py.out
            have cQx := Qx.out
            have cQy := Qy.out
            clear cCx cCy cCr cPx cPy cQx cQy
            go_wp2
            go_roundw
            case rel => exact ⟨k + 1, by omega, by go_num, by rw [Hms2.out]; go_num, X.out⟩
            case measure => simp [intOf]; omega
          · have Hms2 : Hid ((movesL vs (k + 1)).length = (movesL vs k).length) := Lib.hid (by rw [Hms.out, if_neg h0])
            have hq : (vs[k].1 == 0) = false := by simpa using h0
            clear hc1 hp f1 f2 Hms
            generalize vs[k].1 = q at *
            go_wp2
            go_roundw
            case rel => exact ⟨k + 1, by omega, by go_num, by rw [Hms2.out], X.out⟩
            case measure => simp [intOf]; omega
        · have hkk : k = vs.length := by omega
          have hkI : decide ((k : Int) < (vs.length : Int)) = false := by simp; omega
          have hfin : (movesL vs k).length = S.length := by rw [hkk]; exact Hmn.out
          have E2 := Lib.hid (Ext.trans E.out X.out)
          clear hkk
          rw [hfin]
          go_wp2
          go_ret
          exact ⟨by simp, E2.out⟩
  · have hnI : (1048576 : Int) < (bs.length : Int) := by omega
    go_enter Try.func3, Try.ntmps3
    go_wp2
    go_ret
    exact ⟨rfl, Below.refl _ _⟩

theorem opens0 : Opens Try.prog 22 (slR byteR 1 ) :=  opens_slice Try.underlying22 (by kernel_rfl) (by decide) (opens_byte Try.underlying5)
set_option maxRecDepth 100000 in
theorem lifted (os : Os) (started : os.Started) (H : Type) (enc : TypeId × Value → H) :
    ReturnsInHanded {} Try.checked os 3 .any (Rows.fnRingsOfSpec.pre6 enc Try.prog Try.f3 Rows.fnRingsOfRow.domain false) (Rows.fnRingsOfSpec.post enc Try.prog Try.f3 false true false false) := by
  refine returnsInHanded_of_change (C := Try.checked) own started (by kernel_rfl) Try.func3
    (ChangeSpec.witness6 (enc := enc) (C := Try.checked) false ⟨#[], #[.slice none 0 0], []⟩ 8 (by kernel_rfl) (by kernel_rfl) (by kernel_rfl) (by kernel_rfl)) ?_
  intro W base args ds gs before hval0 hW hcnd _
  have hval : ∀ (j : Nat) t v, Try.f3.params[j]? = some t → args[j]? = some v → Value.okWide Try.prog W .any base t v := hval0
  have hW' := hW
  obtain ⟨p, q, hA0, hV, rfl, hfz, hnd⟩ := hW
  have hA : DataW.TrodAll enc Try.prog W 0 (fun _ => true) true Try.f3.params.toList args.toList ds p := hA0
  rw [Try.params3] at hA hval
  obtain ⟨v0, vs0, d0, ds0, p0, q0, hargs, rfl, rfl, h0, r0⟩ := trodAll_cons hA
  obtain ⟨rfl, rfl, rfl⟩ := trodAll_nil r0
  obtain rfl : args = #[v0] := by cases args; simp_all
  obtain ⟨rfl, rfl, rfl⟩ := trodVars_none hV
  obtain ⟨a0, len0, cap0, rfl⟩ := okWide_slice Try.underlying22 (hval 0 22 v0 rfl rfl)
  have k0 := h0
  have lt0 : ∀ x ∈ p0, x.block < W.heap.size := by obtain ⟨m, hm⟩ := k0; exact DataW.trod_lt m _ _ _ hm
  obtain ⟨xs0, rfl, w0, wl0, wc0⟩ := open_arg rfl opens0 h0
  clear hA0 hval0
  refine (walk a0 cap0 xs0 W w0 wl0 wc0).mono fun e W' ⟨he, bel⟩ => ?_
  subst he
  exact ⟨_, rfl, _, _, _, [], _, [], hW', trodAll_mk1 (shut_bool Try.underlying4 _), (trodAll_cons_mk (Below.trod laidOut (by kernel_rfl) (of_decide_eq_true (by kernel_rfl)) k0 bel lt0) trodAll_mk0), rfl, bel.frame _, fun h => by cases h⟩
theorem joinedA : joinA Try.pinned.checked.prog 3 Try.f3 Rows.fnRingsOfSpec Rows.fnRingsOfRow = true := by kernel_rfl
theorem joinedB : joinB Try.pinned.checked.prog Rows.fnRingsOfRow = true := by kernel_rfl
theorem over : Rows.fnRingsOfRow.holds Try.pinned (OpenSpec.ofChange Rows.fnRingsOfSpec) :=
  OpenClaim.holds_of_wide 3 Try.f3 rfl rfl rfl rfl rfl rfl rfl ⟨rfl, rfl, rfl, rfl, rfl⟩ rfl rfl rfl rfl rfl (by kernel_rfl) Try.func3 (joined_of joinedA joinedB)
    (of_decide_eq_true (by kernel_rfl)) (by unfold Func.isWrapper; first | (rw [if_pos (by decide +kernel)]; kernel_rfl) | (rw [if_neg (by decide +kernel)]; exact ⟨rfl, rfl⟩))
    (fun os started H enc _ => lifted os started H enc)

theorem proved : Rows.FnRingsOfSaid := over

end Go.Proofs.Ytnclnmciaehgeaa.fnRingsOf
