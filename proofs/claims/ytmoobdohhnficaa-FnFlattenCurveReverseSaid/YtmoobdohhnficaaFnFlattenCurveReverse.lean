/- Curves can be flattened from both ends, whatever the bytes that the curve, the limit and the depth are drawn from. -/
import Derived.Test.YtmoobdohhnficaaGenC
import Derived.Test.YtmoobdohhnficaaFlatX
import Derived.Test.YtmoobdohhnficaaRev
import Derived.Test.YtmoobdohhnficaaEqualR
import Derived.Test.YtmoobdohhnficaaOpen
namespace Go.Proofs.Ytmoobdohhnficaa.fnFlattenCurveReverse
open Go Go.RowKit Go.ChangeShapes Go.WideShapes Go.ChangeAt Go.Deep Reg
attribute [local go_sem] calmAt calmUpon

theorem own : ownKnob Try.prog.godebug = none := by kernel_rfl
theorem laidOut : laidOutB Try.prog = true := by kernel_rfl
/-- A row of one polygon. -/
theorem rgs_one {w : World} {b : Nat} {e : TypeId} {v : Value} {r : Rg} (h : Row w b e [v]) (hr : rgR w r [v]) : Rgs w (some ⟨b, 0, none⟩) [r] := by
  intro _
  refine ⟨b, 0, rfl, fun k hk => ?_⟩
  obtain rfl : k = 0 := by simp at hk; omega
  refine ⟨[v], hr, rfl, fun j u hu => ?_⟩
  obtain rfl : j = 0 := by
    have := (List.getElem?_eq_some_iff.1 hu).1
    simp at this; omega
  simp at hu; subst hu
  exact h.cell_of (i := 0) rfl

set_option maxRecDepth 100000 in
set_option maxHeartbeats 4000000 in
theorem walk (A : Option Addr) (cap : Nat) (bs : List Int) (w : World) (h : In byteR 1 w A bs) (hlc : bs.length ≤ cap) (hcm : cap ≤ maxLen) :
    Calls Try.prog 4 #[.slice A bs.length cap] w fun e w' => e = .returned (.bool true) ∧ Below w.heap.size w w' := by
  unfold maxLen at hcm
  by_cases hn : bs.length ≤ 1048576
  · have hnI : ¬ (1048576 : Int) < (bs.length : Int) := by omega
    have E := Lib.hid (Below.refl w.heap.size w)
    go_enter Try.func4, Try.ntmps4
    go_wp2_with fail
    refine (c_DrawFlattenCurve A cap bs w h hlc (by omega)).mono ?_
    rintro e w1 ⟨A1, cap1, c, x, y, rfl, hl5, hx, hy, ho1, hb⟩
    replace E := Lib.hid (Ext.trans E.out hb)
    clear hb
    have O1 := Lib.hid (ho1)
    clear ho1
    clear h hn
    obtain ⟨S, hS⟩ : ∃ S, flatR c x y = S := ⟨_, rfl⟩
    have HS := Lib.hid hS
    obtain ⟨T, hT⟩ : ∃ T, S.reverse = T := ⟨_, rfl⟩
    have HR : Hid (flatR c.reverse x y = T) := Lib.hid (by rw [flatR_rev, hS, hT])
    have HM : Hid ([S].map List.reverse = [T]) := Lib.hid (by rw [List.map_cons, List.map_nil, hT])
    have hT17 : T.length = S.length := by rw [← hT, List.length_reverse]
    have hl17 : S.length ≤ 17 := by rw [← hS]; exact flatR_len c x y
    have P1 : Hid (Pts w1 A1 c) := Lib.hid (own_in (enc := ptC) (R := ptR) ptC_len (by decide) O1.out (fun _ => rfl))
    have hTl : T.length ≤ 17 := by omega
    clear hS hx hy hT hT17
    go_wp2_with fail
    refine (c_iFlattenCurve A1 cap1 c x y _ P1.out (by omega)).mono ?_
    rw [HS.out]
    rintro e w2 ⟨A2, cap2, rfl, ho2, hb⟩
    replace E := Lib.hid (Ext.trans E.out hb)
    replace O1 := Lib.hid (own_ext O1.out hb)
    replace P1 := Lib.hid (P1.out.ext ptR_stab hb)
    clear hb
    have O2 := Lib.hid (ho2)
    clear ho2
    go_wp2_with fail
    refine (c_sFlattenCurve A1 cap1 c x y _ P1.out (by omega)).mono ?_
    rw [HS.out]
    rintro e w3 ⟨A3, cap3, rfl, ho3, hb⟩
    replace E := Lib.hid (Ext.trans E.out hb)
    replace O1 := Lib.hid (own_ext O1.out hb)
    replace P1 := Lib.hid (P1.out.ext ptR_stab hb)
    replace O2 := Lib.hid (own_ext O2.out hb)
    clear hb
    have O3 := Lib.hid (ho3)
    clear ho3
    have P2 : Hid (Pts w3 A2 S) := Lib.hid (own_in (enc := ptC) (R := ptR) ptC_len (by decide) O2.out (fun _ => rfl))
    have P3 : Hid (Pts w3 A3 S) := Lib.hid (own_in (enc := ptC) (R := ptR) ptC_len (by decide) O3.out (fun _ => rfl))
    go_wp2_with fail
    refine (c_equalPoints A2 A3 cap2 cap3 S S _ P2.out P3.out (by omega) (by omega)).mono ?_
    rw [(decide_eq_true (rfl : S = S))]
    rintro e w4 ⟨rfl, hb⟩
    replace E := Lib.hid (Ext.trans E.out hb)
    replace O1 := Lib.hid (own_ext O1.out hb)
    replace P1 := Lib.hid (P1.out.ext ptR_stab hb)
    replace O2 := Lib.hid (own_ext O2.out hb)
    replace P2 := Lib.hid (P2.out.ext ptR_stab hb)
    replace P3 := Lib.hid (P3.out.ext ptR_stab hb)
    clear hb
    by_cases h0 : S.length = 0
    · have hb0 : (((S.length : Nat) : Int) == 0) = true := by simp; exact List.eq_nil_of_length_eq_zero h0
      clear h0
      go_wp2_with fail
      refine (c_sFlattenCurve A1 cap1 c x y _ P1.out (by omega)).mono ?_
      rw [HS.out]
      rintro e w5 ⟨A5, cap5, rfl, ho5, hb⟩
      replace E := Lib.hid (Ext.trans E.out hb)
      replace O1 := Lib.hid (own_ext O1.out hb)
      replace P1 := Lib.hid (P1.out.ext ptR_stab hb)
      replace O2 := Lib.hid (own_ext O2.out hb)
      replace P2 := Lib.hid (P2.out.ext ptR_stab hb)
      replace P3 := Lib.hid (P3.out.ext ptR_stab hb)
      clear hb
      have P5 := Lib.hid ((own_in (enc := ptC) (R := ptR) ptC_len (by decide) ho5 (fun _ => rfl)))
      clear ho5
      go_wp2_with fail
      refine (c_equalPoints A2 A5 cap2 cap5 S S _ P2.out P5.out (by omega) (by omega)).mono ?_
      rw [(decide_eq_true (rfl : S = S))]
      rintro e w6 ⟨rfl, hb⟩
      replace E := Lib.hid (Ext.trans E.out hb)
      replace O1 := Lib.hid (own_ext O1.out hb)
      replace P1 := Lib.hid (P1.out.ext ptR_stab hb)
      replace O2 := Lib.hid (own_ext O2.out hb)
      replace P2 := Lib.hid (P2.out.ext ptR_stab hb)
      replace P3 := Lib.hid (P3.out.ext ptR_stab hb)
      replace P5 := Lib.hid (P5.out.ext ptR_stab hb)
      clear hb
      go_wp2
      go_ret
      exact ⟨rfl, E.out⟩
    · have hb0 : (((S.length : Nat) : Int) == 0) = false := by simp; intro hh; subst hh; simp at h0
      clear h0
      go_wp2_with fail
      first | refine gen_calls ?_ | refine gen_code ?_ | refine gen_list ?_
      intro w5 hW
      obtain ⟨hb, hR5⟩ := new1 hW
      clear hW
      replace E := Lib.hid (Ext.trans E.out hb)
      replace O1 := Lib.hid (own_ext O1.out hb)
      replace P1 := Lib.hid (P1.out.ext ptR_stab hb)
      replace O2 := Lib.hid (own_ext O2.out hb)
      replace P2 := Lib.hid (P2.out.ext ptR_stab hb)
      replace P3 := Lib.hid (P3.out.ext ptR_stab hb)
      clear hb
      have R5 := Lib.hid hR5
      have lR5 := R5.out.lt
      clear hR5
      have G5 : Hid (Rgs w5 (some ⟨w4.heap.size, 0, none⟩) [c]) := Lib.hid (rgs_one R5.out (has_rg O1.out))
      go_wp2_with fail
      refine (c_reversed _ _ [c] _ G5.out (by simp) (by simp [corners]; omega)).mono ?_
      rintro e w6 ⟨A6, cap6, ss6, rfl, ho6, hb⟩
      replace E := Lib.hid (Ext.trans E.out hb)
      replace O1 := Lib.hid (own_ext O1.out hb)
      replace P1 := Lib.hid (P1.out.ext ptR_stab hb)
      replace O2 := Lib.hid (own_ext O2.out hb)
      replace P2 := Lib.hid (P2.out.ext ptR_stab hb)
      replace P3 := Lib.hid (P3.out.ext ptR_stab hb)
      replace R5 := Lib.hid (R5.out.ext hb)
      have lR5 := R5.out.lt
      replace G5 := Lib.hid (G5.out.ext rgR_stab hb)
      clear hb
      have G6 := Lib.hid (ho6.in_)
      clear ho6
      obtain ⟨b6, off6, hA6, _, hc6⟩ := G6.out.rgs (by simp)
      obtain ⟨A', cap', cr, hp, hle6, hmx6⟩ := hc6 0 (by simp)
      simp only [List.map_cons, List.getElem_cons_zero, Nat.add_zero] at cr hp
      subst hA6
      have P6 := Lib.hid hp
      have Cr := Lib.hid cr
      have hcl : c.reverse.length ≤ 1000000 := by simp; omega
      clear hc6 hp cr hle6 hmx6
      have cr2 := Cr.out
      generalize c.reverse = cv at *
      go_wp2_with fail
      clear cr2
      refine (c_iFlattenCurve A' cap' cv x y _ P6.out hcl).mono ?_
      rw [HR.out]
      rintro e w7 ⟨A7, cap7, rfl, ho7, hb⟩
      replace E := Lib.hid (Ext.trans E.out hb)
      replace O1 := Lib.hid (own_ext O1.out hb)
      replace P1 := Lib.hid (P1.out.ext ptR_stab hb)
      replace O2 := Lib.hid (own_ext O2.out hb)
      replace P2 := Lib.hid (P2.out.ext ptR_stab hb)
      replace P3 := Lib.hid (P3.out.ext ptR_stab hb)
      replace R5 := Lib.hid (R5.out.ext hb)
      have lR5 := R5.out.lt
      replace G5 := Lib.hid (G5.out.ext rgR_stab hb)
      replace G6 := Lib.hid (G6.out.ext rgR_stab hb)
      replace P6 := Lib.hid (P6.out.ext ptR_stab hb)
      clear hb
      have O7 := Lib.hid (ho7)
      clear ho7
      go_wp2_with fail
      first | refine gen_calls ?_ | refine gen_code ?_ | refine gen_list ?_
      intro w8 hW
      obtain ⟨hb, hR8, hR9⟩ := new2 hW
      clear hW
      replace E := Lib.hid (Ext.trans E.out hb)
      replace O1 := Lib.hid (own_ext O1.out hb)
      replace P1 := Lib.hid (P1.out.ext ptR_stab hb)
      replace O2 := Lib.hid (own_ext O2.out hb)
      replace P2 := Lib.hid (P2.out.ext ptR_stab hb)
      replace P3 := Lib.hid (P3.out.ext ptR_stab hb)
      replace R5 := Lib.hid (R5.out.ext hb)
      have lR5 := R5.out.lt
      replace G5 := Lib.hid (G5.out.ext rgR_stab hb)
      replace G6 := Lib.hid (G6.out.ext rgR_stab hb)
      replace P6 := Lib.hid (P6.out.ext ptR_stab hb)
      replace O7 := Lib.hid (own_ext O7.out hb)
      clear hb
      have R8 := Lib.hid hR8
      have lR8 := R8.out.lt
      clear hR8
      have R9 := Lib.hid hR9
      have lR9 := R9.out.lt
      clear hR9
      have G9 : Hid (Rgs w8 (some ⟨w7.heap.size + 1, 0, none⟩) [S]) := Lib.hid (rgs_one R9.out (has_rg O2.out))
      have G8 : Hid (Rgs w8 (some ⟨w7.heap.size, 0, none⟩) [T]) := Lib.hid (rgs_one R8.out (has_rg O7.out))
      go_wp2_with fail
      refine (c_reversed _ _ [S] _ G9.out (by simp) (by simp [corners]; omega)).mono ?_
      rw [HM.out]
      rintro e w9 ⟨A10, cap10, ss10, rfl, ho10, hb⟩
      replace E := Lib.hid (Ext.trans E.out hb)
      replace O1 := Lib.hid (own_ext O1.out hb)
      replace P1 := Lib.hid (P1.out.ext ptR_stab hb)
      replace O2 := Lib.hid (own_ext O2.out hb)
      replace P2 := Lib.hid (P2.out.ext ptR_stab hb)
      replace P3 := Lib.hid (P3.out.ext ptR_stab hb)
      replace R5 := Lib.hid (R5.out.ext hb)
      have lR5 := R5.out.lt
      replace G5 := Lib.hid (G5.out.ext rgR_stab hb)
      replace G6 := Lib.hid (G6.out.ext rgR_stab hb)
      replace P6 := Lib.hid (P6.out.ext ptR_stab hb)
      replace O7 := Lib.hid (own_ext O7.out hb)
      replace R8 := Lib.hid (R8.out.ext hb)
      have lR8 := R8.out.lt
      replace R9 := Lib.hid (R9.out.ext hb)
      have lR9 := R9.out.lt
      replace G9 := Lib.hid (G9.out.ext rgR_stab hb)
      replace G8 := Lib.hid (G8.out.ext rgR_stab hb)
      clear hb
      have G10 := Lib.hid (ho10.in_)
      clear ho10
      have Hrl : Hid (∀ r ∈ [T], r.length ≤ 1048576) := Lib.hid (fun r hr => by simp only [List.mem_cons, List.not_mem_nil, or_false] at hr; subst hr; omega)
      go_wp2_with fail
      refine (c_equalRings _ A10 1 cap10 [T] _ G8.out G10.out (by simp) Hrl.out).mono ?_
      rintro e w10 ⟨rfl, hb⟩
      replace E := Lib.hid (Ext.trans E.out hb)
      replace O1 := Lib.hid (own_ext O1.out hb)
      replace P1 := Lib.hid (P1.out.ext ptR_stab hb)
      replace O2 := Lib.hid (own_ext O2.out hb)
      replace P2 := Lib.hid (P2.out.ext ptR_stab hb)
      replace P3 := Lib.hid (P3.out.ext ptR_stab hb)
      replace R5 := Lib.hid (R5.out.ext hb)
      have lR5 := R5.out.lt
      replace G5 := Lib.hid (G5.out.ext rgR_stab hb)
      replace G6 := Lib.hid (G6.out.ext rgR_stab hb)
      replace P6 := Lib.hid (P6.out.ext ptR_stab hb)
      replace O7 := Lib.hid (own_ext O7.out hb)
      replace R8 := Lib.hid (R8.out.ext hb)
      have lR8 := R8.out.lt
      replace R9 := Lib.hid (R9.out.ext hb)
      have lR9 := R9.out.lt
      replace G9 := Lib.hid (G9.out.ext rgR_stab hb)
      replace G8 := Lib.hid (G8.out.ext rgR_stab hb)
      replace G10 := Lib.hid (G10.out.ext rgR_stab hb)
      clear hb
      go_wp2
      go_ret
      exact ⟨rfl, E.out⟩
  · have hnI : (1048576 : Int) < (bs.length : Int) := by omega
    clear h
    go_enter Try.func4, Try.ntmps4
    go_wp2
    go_ret
    exact ⟨rfl, Below.refl _ _⟩

theorem opens0 : Opens Try.prog 22 (slR byteR 1 ) :=  opens_slice Try.underlying22 (by kernel_rfl) (by decide) (opens_byte Try.underlying5)
set_option maxRecDepth 100000 in
theorem lifted (os : Os) (started : os.Started) (H : Type) (enc : TypeId × Value → H) :
    ReturnsInHanded {} Try.checked os 4 .any (Rows.fnFlattenCurveReverseSpec.pre6 enc Try.prog Try.f4 Rows.fnFlattenCurveReverseRow.domain false) (Rows.fnFlattenCurveReverseSpec.post enc Try.prog Try.f4 false true false false) := by
  refine returnsInHanded_of_change (C := Try.checked) own started (by kernel_rfl) Try.func4
    (ChangeSpec.witness6 (enc := enc) (C := Try.checked) false ⟨#[], #[.slice none 0 0], []⟩ 8 (by kernel_rfl) (by kernel_rfl) (by kernel_rfl) (by kernel_rfl)) ?_
  intro W base args ds gs before hval0 hW hcnd _
  have hval : ∀ (j : Nat) t v, Try.f4.params[j]? = some t → args[j]? = some v → Value.okWide Try.prog W .any base t v := hval0
  have hW' := hW
  obtain ⟨p, q, hA0, hV, rfl, hfz, hnd⟩ := hW
  have hA : DataW.TrodAll enc Try.prog W 0 (fun _ => true) true Try.f4.params.toList args.toList ds p := hA0
  rw [Try.params4] at hA hval
  obtain ⟨v0, vs0, d0, ds0, p0, q0, hargs, rfl, rfl, h0, r0⟩ := trodAll_cons hA
  obtain ⟨rfl, rfl, rfl⟩ := trodAll_nil r0
  obtain rfl : args = #[v0] := by cases args; simp_all
  obtain ⟨rfl, rfl, rfl⟩ := trodVars_none hV
  obtain ⟨a0, len0, cap0, rfl⟩ := okWide_slice Try.underlying22 (hval 0 22 v0 rfl rfl)
  have k0 := h0
  have lt0 : ∀ x ∈ p0, x.block < W.heap.size := by obtain ⟨m, hm⟩ := k0; exact DataW.trod_lt m _ _ _ hm
  obtain ⟨xs0, rfl, w0, wl0, wc0⟩ := open_arg rfl opens0 h0
  clear hA0 hval0
  refine (walk a0 cap0 xs0 W w0 wl0 wc0).mono fun e W' ⟨he, bel⟩ => ?_
  subst he
  exact ⟨_, rfl, _, _, _, [], _, [], hW', trodAll_mk1 (shut_bool Try.underlying4 _), (trodAll_cons_mk (Below.trod laidOut (by kernel_rfl) (of_decide_eq_true (by kernel_rfl)) k0 bel lt0) trodAll_mk0), rfl, bel.frame _, fun h => by cases h⟩
theorem over : Rows.fnFlattenCurveReverseRow.holds Try.pinned (OpenSpec.ofChange Rows.fnFlattenCurveReverseSpec) :=
  OpenClaim.holds_of_wide 4 Try.f4 rfl rfl rfl rfl rfl rfl rfl ⟨rfl, rfl, rfl, rfl, rfl⟩ rfl rfl rfl rfl rfl (by kernel_rfl) Try.func4 (by kernel_rfl)
    (of_decide_eq_true (by kernel_rfl)) (by unfold Func.isWrapper; first | (rw [if_pos (by decide +kernel)]; kernel_rfl) | (rw [if_neg (by decide +kernel)]; exact ⟨rfl, rfl⟩))
    (fun os started H enc _ => lifted os started H enc)

theorem proved : Rows.FnFlattenCurveReverseSaid := over

end Go.Proofs.Ytmoobdohhnficaa.fnFlattenCurveReverse

