/- What polygons cover, and their areas, do not need needless points, whatever the bytes that the polygons are drawn from. -/
import Derived.Test.YthfnomlkoiacbaaClean2
import Derived.Test.YthfnomlkoiacbaaDrawClean
import Derived.Test.YthfnomlkoiacbaaEqual
import Derived.Test.YthfnomlkoiacbaaEqualI
import Derived.Test.YthfnomlkoiacbaaNdR
import Derived.Test.YthfnomlkoiacbaaMask
import Derived.Test.YthfnomlkoiacbaaWindI
import Derived.Test.YthfnomlkoiacbaaOrg
import Derived.Test.YthfnomlkoiacbaaOpen
namespace Go.Proofs.Ythfnomlkoiacbaa.fnCleanRing
open Go Go.RowKit Go.ChangeShapes Go.WideShapes Go.ChangeAt Go.Deep Reg
attribute [local go_sem] calmAt calmUpon

theorem own : ownKnob Try.prog.godebug = none := by kernel_rfl
theorem laidOut : laidOutB Try.prog = true := by kernel_rfl
/-- A row of one polygon. -/
theorem rgs_one {w : World} {b : Nat} {e : TypeId} {v : Value} {r : Rg} (h : Row w b e [v]) (hr : rgR w r [v]) : Rgs w (some ⟨b, 0, none⟩) [r] := by
  intro _
  refine ⟨b, 0, rfl, fun k hk => ?_⟩
  obtain rfl : k = 0 := by simp at hk; omega
  refine ⟨[v], hr, rfl, fun j u hu => ?_⟩
  obtain rfl : j = 0 := by
    have := (List.getElem?_eq_some_iff.1 hu).1
    simp at this; omega
  simp at hu; subst hu
  exact h.cell_of (i := 0) rfl
theorem maskR_clean {ps : List Pt} (h : 0 < (cleanR ps).length) (rule wd ht : Int) : maskR [cleanR ps] rule wd ht = maskR [ps] rule wd ht := by
  obtain ⟨h1, h2, h3, h4⟩ := clean_facts h
  have e : coverF [cleanR ps] rule = coverF [ps] rule := by
    funext i k
    unfold coverF coverL
    have es : smpS [cleanR ps] rule (k : Int) (i : Int) = smpS [ps] rule (k : Int) (i : Int) := by
      funext a b
      unfold smpS
      rw [h4, wind_clean]
    rw [es]
  unfold maskR
  rw [rgsB_single h h3, rgsB_single h2 h1, e]

set_option maxRecDepth 100000 in
set_option maxHeartbeats 4000000 in
theorem walk (A : Option Addr) (cap : Nat) (bs : List Int) (w : World) (h : In byteR 1 w A bs) (hlc : bs.length ≤ cap) (hcm : cap ≤ maxLen) :
    Calls Try.prog 4 #[.slice A bs.length cap] w fun e w' => e = .returned (.bool true) ∧ Below w.heap.size w w' := by
  unfold maxLen at hcm
  by_cases hn : bs.length ≤ 1048576
  · have hnI : ¬ (1048576 : Int) < (bs.length : Int) := by omega
    have E := Lib.hid (Below.refl w.heap.size w)
    go_enter Try.func4, Try.ntmps4
    go_wp2_with fail
    refine (c_DrawCleanRing A cap bs w h hlc (by omega)).mono ?_
    rintro e w1 ⟨A1, cap1, ps, rfl, hps, ho1, hb⟩
    replace E := Lib.hid (Ext.trans E.out hb)
    clear hb
    have O1 := Lib.hid (ho1)
    clear ho1
    have hle := cleanR_le' ps
    have Hmk := Lib.hid (fun (h : 0 < (cleanR ps).length) rule wd ht => maskR_clean h rule wd ht)
    have Har := Lib.hid (fun (h : 0 < (cleanR ps).length) => areaR_clean h)
    generalize hR : cleanR ps = rs at *
    have HR := Lib.hid hR
    clear hR h hn
    have P1 : Hid (Pts w1 A1 ps) := Lib.hid (own_in (R := ptR) (enc := ptC) ptC_len (by decide) O1.out (fun _ => rfl))
    go_wp2_with fail
    refine (c_iCleanRing _ _ ps w1 P1.out O1.out.slok (by omega)).mono ?_
    rw [HR.out]
    rintro e w2 ⟨A2, cap2, rfl, ho2, hb⟩
    replace E := Lib.hid (Ext.trans E.out hb)
    replace O1 := Lib.hid (own_ext O1.out hb)
    replace P1 := Lib.hid (P1.out.ext ptR_stab hb)
    clear hb
    have O2 := Lib.hid (ho2)
    clear ho2
    go_wp2_with fail
    refine (c_sCleanRing _ _ ps w2 P1.out (by omega)).mono ?_
    rw [HR.out]
    rintro e w3 ⟨A3, cap3, rfl, hp3, hb⟩
    replace E := Lib.hid (Ext.trans E.out hb)
    replace O1 := Lib.hid (own_ext O1.out hb)
    replace P1 := Lib.hid (P1.out.ext ptR_stab hb)
    replace O2 := Lib.hid (own_ext O2.out hb)
    clear hb
    have P3 := Lib.hid (hp3)
    clear hp3
    have P2 : Hid (Pts w3 A2 rs) := Lib.hid (own_in (R := ptR) (enc := ptC) ptC_len (by decide) O2.out (fun _ => rfl))
    go_wp2_with fail
    refine (c_equalPoints A2 A3 cap2 cap3 rs rs w3 P2.out P3.out (by omega) (by omega)).mono ?_
    rw [(decide_eq_true (rfl : rs = rs))]
    rintro e w4 ⟨rfl, hb⟩
    replace E := Lib.hid (Ext.trans E.out hb)
    replace O1 := Lib.hid (own_ext O1.out hb)
    replace P1 := Lib.hid (P1.out.ext ptR_stab hb)
    replace O2 := Lib.hid (own_ext O2.out hb)
    replace P3 := Lib.hid (P3.out.ext ptR_stab hb)
    replace P2 := Lib.hid (P2.out.ext ptR_stab hb)
    clear hb
    by_cases h0 : rs.length = 0
    · have hb0 : (((rs.length : Nat) : Int) == 0) = true := by simp; exact List.eq_nil_of_length_eq_zero h0
      clear h0
      go_wp2_with fail
      refine (c_sCleanRing _ _ ps w4 P1.out (by omega)).mono ?_
      rw [HR.out]
      rintro e w5 ⟨A5, cap5, rfl, hp5, hb⟩
      replace E := Lib.hid (Ext.trans E.out hb)
      replace O1 := Lib.hid (own_ext O1.out hb)
      replace P1 := Lib.hid (P1.out.ext ptR_stab hb)
      replace O2 := Lib.hid (own_ext O2.out hb)
      replace P3 := Lib.hid (P3.out.ext ptR_stab hb)
      replace P2 := Lib.hid (P2.out.ext ptR_stab hb)
      clear hb
      have P5 := Lib.hid (hp5)
      clear hp5
      go_wp2_with fail
      refine (c_equalPoints A2 A5 cap2 cap5 rs rs w5 P2.out P5.out (by omega) (by omega)).mono ?_
      rw [(decide_eq_true (rfl : rs = rs))]
      rintro e w6 ⟨rfl, hb⟩
      replace E := Lib.hid (Ext.trans E.out hb)
      replace O1 := Lib.hid (own_ext O1.out hb)
      replace P1 := Lib.hid (P1.out.ext ptR_stab hb)
      replace O2 := Lib.hid (own_ext O2.out hb)
      replace P3 := Lib.hid (P3.out.ext ptR_stab hb)
      replace P2 := Lib.hid (P2.out.ext ptR_stab hb)
      replace P5 := Lib.hid (P5.out.ext ptR_stab hb)
      clear hb
      go_wp2
      go_ret
      exact ⟨rfl, E.out⟩
    · have hb0 : (((rs.length : Nat) : Int) == 0) = false := by simp; intro hh; subst hh; simp at h0
      have hpos : 0 < rs.length := by omega
      have hm0 := Hmk.out hpos 0 6 6
      have hm1 := Hmk.out hpos 1 6 6
      have har := Har.out hpos
      have hml0 := maskR_len [ps] 0 6 6
      have hml1 := maskR_len [ps] 1 6 6
      have S1 : Hid (∀ q ∈ [ps], q.length ≤ 1000000000) := Lib.hid (fun q hq => by simp at hq; subst hq; omega)
      have S2 : Hid (∀ q ∈ [rs], q.length ≤ 1000000000) := Lib.hid (fun q hq => by simp at hq; subst hq; omega)
      have K10 := Lib.hid (fun A c W hW => c_iMaskOf A c [ps] 0 6 6 W hW (by simp) S1.out)
      have K11 := Lib.hid (fun A c W hW => c_iMaskOf A c [ps] 1 6 6 W hW (by simp) S1.out)
      have K20 := Lib.hid (fun A c W hW => c_iMaskOf A c [rs] 0 6 6 W hW (by simp) S2.out)
      have K21 := Lib.hid (fun A c W hW => c_iMaskOf A c [rs] 1 6 6 W hW (by simp) S2.out)
      have KA1 := Lib.hid (fun A c W hW => c_iAreaOf A c [ps] W hW (by simp) S1.out)
      have KA2 := Lib.hid (fun A c W hW => c_iAreaOf A c [rs] W hW (by simp) S2.out)
      rw [hm0] at K20
      rw [hm1] at K21
      rw [har] at KA2
      generalize maskR [ps] 0 6 6 = m0 at *
      generalize maskR [ps] 1 6 6 = m1 at *
      generalize areaR [ps] = ar at *
      clear h0 hm0 hm1 har
      go_wp2_with fail
      first | refine gen_calls ?_ | refine gen_code ?_ | refine gen_list ?_
      intro w5 hW
      obtain ⟨hb, hR5, hR6⟩ := new2 hW
      clear hW
      replace E := Lib.hid (Ext.trans E.out hb)
      replace O1 := Lib.hid (own_ext O1.out hb)
      replace P1 := Lib.hid (P1.out.ext ptR_stab hb)
      replace O2 := Lib.hid (own_ext O2.out hb)
      replace P3 := Lib.hid (P3.out.ext ptR_stab hb)
      replace P2 := Lib.hid (P2.out.ext ptR_stab hb)
      clear hb
      have R5 := Lib.hid hR5
      have lR5 := R5.out.lt
      clear hR5
      have R6 := Lib.hid hR6
      have lR6 := R6.out.lt
      clear hR6
      have G5 : Hid (Rgs w5 (some ⟨w4.heap.size, 0, none⟩) [ps]) := Lib.hid (rgs_one R5.out (has_rg O1.out))
      have G6 : Hid (Rgs w5 (some ⟨w4.heap.size + 1, 0, none⟩) [rs]) := Lib.hid (rgs_one R6.out (has_rg O2.out))
      go_wp2_with fail
      refine (K10.out _ 1 _ G5.out).mono ?_
      rintro e w6 ⟨A6, cap6, rfl, ho6, hb⟩
      replace E := Lib.hid (Ext.trans E.out hb)
      replace O1 := Lib.hid (own_ext O1.out hb)
      replace O2 := Lib.hid (own_ext O2.out hb)
      replace R5 := Lib.hid (R5.out.ext hb)
      have lR5 := R5.out.lt
      replace R6 := Lib.hid (R6.out.ext hb)
      have lR6 := R6.out.lt
      replace G5 := Lib.hid (G5.out.ext rgR_stab hb)
      replace G6 := Lib.hid (G6.out.ext rgR_stab hb)
      clear hb
      have I6 := Lib.hid ((own_in (enc := intC) (R := intR) (fun _ => rfl) (by decide) ho6 (fun _ => rfl)))
      clear ho6
      go_wp2_with fail
      refine (K20.out _ 1 _ G6.out).mono ?_
      rintro e w7 ⟨A7, cap7, rfl, ho7, hb⟩
      replace E := Lib.hid (Ext.trans E.out hb)
      replace O1 := Lib.hid (own_ext O1.out hb)
      replace O2 := Lib.hid (own_ext O2.out hb)
      replace R5 := Lib.hid (R5.out.ext hb)
      have lR5 := R5.out.lt
      replace R6 := Lib.hid (R6.out.ext hb)
      have lR6 := R6.out.lt
      replace G5 := Lib.hid (G5.out.ext rgR_stab hb)
      replace G6 := Lib.hid (G6.out.ext rgR_stab hb)
      replace I6 := Lib.hid (I6.out.ext intR_stab hb)
      clear hb
      have I7 := Lib.hid ((own_in (enc := intC) (R := intR) (fun _ => rfl) (by decide) ho7 (fun _ => rfl)))
      clear ho7
      go_wp2_with fail
      refine (c_equalInts A6 A7 cap6 cap7 m0 _ I6.out I7.out (by omega)).mono ?_
      rintro e w8 ⟨rfl, hb⟩
      replace E := Lib.hid (Ext.trans E.out hb)
      replace O1 := Lib.hid (own_ext O1.out hb)
      replace O2 := Lib.hid (own_ext O2.out hb)
      replace R5 := Lib.hid (R5.out.ext hb)
      have lR5 := R5.out.lt
      replace R6 := Lib.hid (R6.out.ext hb)
      have lR6 := R6.out.lt
      replace G5 := Lib.hid (G5.out.ext rgR_stab hb)
      replace G6 := Lib.hid (G6.out.ext rgR_stab hb)
      replace I6 := Lib.hid (I6.out.ext intR_stab hb)
      replace I7 := Lib.hid (I7.out.ext intR_stab hb)
      clear hb
      go_wp2_with fail
      refine (K11.out _ 1 _ G5.out).mono ?_
      rintro e w9 ⟨A9, cap9, rfl, ho9, hb⟩
      replace E := Lib.hid (Ext.trans E.out hb)
      replace O1 := Lib.hid (own_ext O1.out hb)
      replace O2 := Lib.hid (own_ext O2.out hb)
      replace R5 := Lib.hid (R5.out.ext hb)
      have lR5 := R5.out.lt
      replace R6 := Lib.hid (R6.out.ext hb)
      have lR6 := R6.out.lt
      replace G5 := Lib.hid (G5.out.ext rgR_stab hb)
      replace G6 := Lib.hid (G6.out.ext rgR_stab hb)
      replace I6 := Lib.hid (I6.out.ext intR_stab hb)
      replace I7 := Lib.hid (I7.out.ext intR_stab hb)
      clear hb
      have I9 := Lib.hid ((own_in (enc := intC) (R := intR) (fun _ => rfl) (by decide) ho9 (fun _ => rfl)))
      clear ho9
      go_wp2_with fail
      refine (K21.out _ 1 _ G6.out).mono ?_
      rintro e w10 ⟨A10, cap10, rfl, ho10, hb⟩
      replace E := Lib.hid (Ext.trans E.out hb)
      replace O1 := Lib.hid (own_ext O1.out hb)
      replace O2 := Lib.hid (own_ext O2.out hb)
      replace R5 := Lib.hid (R5.out.ext hb)
      have lR5 := R5.out.lt
      replace R6 := Lib.hid (R6.out.ext hb)
      have lR6 := R6.out.lt
      replace G5 := Lib.hid (G5.out.ext rgR_stab hb)
      replace G6 := Lib.hid (G6.out.ext rgR_stab hb)
      replace I6 := Lib.hid (I6.out.ext intR_stab hb)
      replace I7 := Lib.hid (I7.out.ext intR_stab hb)
      replace I9 := Lib.hid (I9.out.ext intR_stab hb)
      clear hb
      have I10 := Lib.hid ((own_in (enc := intC) (R := intR) (fun _ => rfl) (by decide) ho10 (fun _ => rfl)))
      clear ho10
      go_wp2_with fail
      refine (c_equalInts A9 A10 cap9 cap10 m1 _ I9.out I10.out (by omega)).mono ?_
      rintro e w11 ⟨rfl, hb⟩
      replace E := Lib.hid (Ext.trans E.out hb)
      replace O1 := Lib.hid (own_ext O1.out hb)
      replace O2 := Lib.hid (own_ext O2.out hb)
      replace R5 := Lib.hid (R5.out.ext hb)
      have lR5 := R5.out.lt
      replace R6 := Lib.hid (R6.out.ext hb)
      have lR6 := R6.out.lt
      replace G5 := Lib.hid (G5.out.ext rgR_stab hb)
      replace G6 := Lib.hid (G6.out.ext rgR_stab hb)
      replace I6 := Lib.hid (I6.out.ext intR_stab hb)
      replace I7 := Lib.hid (I7.out.ext intR_stab hb)
      replace I9 := Lib.hid (I9.out.ext intR_stab hb)
      replace I10 := Lib.hid (I10.out.ext intR_stab hb)
      clear hb
      go_wp2_with fail
      refine (KA1.out _ 1 _ G5.out).mono ?_
      rintro e w12 ⟨rfl, hb⟩
      replace E := Lib.hid (Ext.trans E.out hb)
      replace O1 := Lib.hid (own_ext O1.out hb)
      replace O2 := Lib.hid (own_ext O2.out hb)
      replace R5 := Lib.hid (R5.out.ext hb)
      have lR5 := R5.out.lt
      replace R6 := Lib.hid (R6.out.ext hb)
      have lR6 := R6.out.lt
      replace G5 := Lib.hid (G5.out.ext rgR_stab hb)
      replace G6 := Lib.hid (G6.out.ext rgR_stab hb)
      replace I6 := Lib.hid (I6.out.ext intR_stab hb)
      replace I7 := Lib.hid (I7.out.ext intR_stab hb)
      replace I9 := Lib.hid (I9.out.ext intR_stab hb)
      replace I10 := Lib.hid (I10.out.ext intR_stab hb)
      clear hb
      go_wp2_with fail
      refine (KA2.out _ 1 _ G6.out).mono ?_
      rintro e w13 ⟨rfl, hb⟩
      replace E := Lib.hid (Ext.trans E.out hb)
      replace O1 := Lib.hid (own_ext O1.out hb)
      replace O2 := Lib.hid (own_ext O2.out hb)
      replace R5 := Lib.hid (R5.out.ext hb)
      have lR5 := R5.out.lt
      replace R6 := Lib.hid (R6.out.ext hb)
      have lR6 := R6.out.lt
      replace G5 := Lib.hid (G5.out.ext rgR_stab hb)
      replace G6 := Lib.hid (G6.out.ext rgR_stab hb)
      replace I6 := Lib.hid (I6.out.ext intR_stab hb)
      replace I7 := Lib.hid (I7.out.ext intR_stab hb)
      replace I9 := Lib.hid (I9.out.ext intR_stab hb)
      replace I10 := Lib.hid (I10.out.ext intR_stab hb)
      clear hb
      go_wp2
      go_ret
      exact ⟨rfl, E.out⟩
  · have hnI : (1048576 : Int) < (bs.length : Int) := by omega
    clear h
    go_enter Try.func4, Try.ntmps4
    go_wp2
    go_ret
    exact ⟨rfl, Below.refl _ _⟩

theorem opens0 : Opens Try.prog 22 (slR byteR 1 ) :=  opens_slice Try.underlying22 (by kernel_rfl) (by decide) (opens_byte Try.underlying5)
set_option maxRecDepth 100000 in
theorem lifted (os : Os) (started : os.Started) (H : Type) (enc : TypeId × Value → H) :
    ReturnsInHanded {} Try.checked os 4 .any (Rows.fnCleanRingSpec.pre6 enc Try.prog Try.f4 Rows.fnCleanRingRow.domain false) (Rows.fnCleanRingSpec.post enc Try.prog Try.f4 false true false false) := by
  refine returnsInHanded_of_change (C := Try.checked) own started (by kernel_rfl) Try.func4
    (ChangeSpec.witness6 (enc := enc) (C := Try.checked) false ⟨#[], #[.slice none 0 0], []⟩ 8 (by kernel_rfl) (by kernel_rfl) (by kernel_rfl) (by kernel_rfl)) ?_
  intro W base args ds gs before hval0 hW hcnd _
  have hval : ∀ (j : Nat) t v, Try.f4.params[j]? = some t → args[j]? = some v → Value.okWide Try.prog W .any base t v := hval0
  have hW' := hW
  obtain ⟨p, q, hA0, hV, rfl, hfz, hnd⟩ := hW
  have hA : DataW.TrodAll enc Try.prog W 0 (fun _ => true) true Try.f4.params.toList args.toList ds p := hA0
  rw [Try.params4] at hA hval
  obtain ⟨v0, vs0, d0, ds0, p0, q0, hargs, rfl, rfl, h0, r0⟩ := trodAll_cons hA
  obtain ⟨rfl, rfl, rfl⟩ := trodAll_nil r0
  obtain rfl : args = #[v0] := by cases args; simp_all
  obtain ⟨rfl, rfl, rfl⟩ := trodVars_none hV
  obtain ⟨a0, len0, cap0, rfl⟩ := okWide_slice Try.underlying22 (hval 0 22 v0 rfl rfl)
  have k0 := h0
  have lt0 : ∀ x ∈ p0, x.block < W.heap.size := by obtain ⟨m, hm⟩ := k0; exact DataW.trod_lt m _ _ _ hm
  obtain ⟨xs0, rfl, w0, wl0, wc0⟩ := open_arg rfl opens0 h0
  clear hA0 hval0
  refine (walk a0 cap0 xs0 W w0 wl0 wc0).mono fun e W' ⟨he, bel⟩ => ?_
  subst he
  exact ⟨_, rfl, _, _, _, [], _, [], hW', trodAll_mk1 (shut_bool Try.underlying4 _), (trodAll_cons_mk (Below.trod laidOut (by kernel_rfl) (of_decide_eq_true (by kernel_rfl)) k0 bel lt0) trodAll_mk0), rfl, bel.frame _, fun h => by cases h⟩
theorem over : Rows.fnCleanRingRow.holds Try.pinned (OpenSpec.ofChange Rows.fnCleanRingSpec) :=
  OpenClaim.holds_of_wide 4 Try.f4 rfl rfl rfl rfl rfl rfl rfl ⟨rfl, rfl, rfl, rfl, rfl⟩ rfl rfl rfl rfl rfl (by kernel_rfl) Try.func4 (by kernel_rfl)
    (of_decide_eq_true (by kernel_rfl)) (by unfold Func.isWrapper; first | (rw [if_pos (by decide +kernel)]; kernel_rfl) | (rw [if_neg (by decide +kernel)]; exact ⟨rfl, rfl⟩))
    (fun os started H enc _ => lifted os started H enc)

theorem proved : Rows.FnCleanRingSaid := over

end Go.Proofs.Ythfnomlkoiacbaa.fnCleanRing

