/- Rhombs are convex, and their middles are inside, whatever the bytes that they are drawn from. -/
import Derived.Test.YtnclnmciaehgeaaGenD
import Derived.Test.YtnclnmciaehgeaaRhC
import Derived.Test.YtnclnmciaehgeaaConvI
import Derived.Test.YtnclnmciaehgeaaEqualR
import Derived.Test.YtnclnmciaehgeaaJoin
import Derived.Test.YtnclnmciaehgeaaOpen
namespace Go.Proofs.Ytnclnmciaehgeaa.fnRhombPathConvex
open Go Go.RowKit Go.ChangeShapes Go.WideShapes Go.ChangeAt Go.Deep Reg
attribute [local go_sem] calmAt calmUpon

theorem own : ownKnob Try.prog.godebug = none := by kernel_rfl
theorem laidOut : laidOutB Try.prog = true := by kernel_rfl

set_option maxRecDepth 100000 in
set_option maxHeartbeats 4000000 in
theorem walk (A : Option Addr) (cap : Nat) (bs : List Int) (w : World) (h : In byteR 1 w A bs) (hlc : bs.length ≤ cap) (hcm : cap ≤ maxLen) :
    Calls Try.prog 12 #[.slice A bs.length cap] w fun e w' => e = .returned (.bool true) ∧ Below w.heap.size w w' := by
  unfold maxLen at hcm
  by_cases hn : bs.length ≤ 1048576
  · have hnI : ¬ (1048576 : Int) < (bs.length : Int) := by omega
    have E := Lib.hid (Below.refl w.heap.size w)
    go_enter Try.func12, Try.ntmps12
    go_wp2_with fail
    refine (c_DrawRhombPath A cap bs w h hlc (by omega)).mono ?_
    rintro e w1 ⟨p, r, rfl, hp, hr, hb⟩
    replace E := Lib.hid (Ext.trans E.out hb)
    clear hb
    clear h hn hp
    go_wp2_with fail
    first | refine gen_calls ?_ | refine gen_code ?_ | refine gen_list ?_
    intro w2 hW
    obtain ⟨hb, hR3⟩ := new1 hW
    clear hW
    replace E := Lib.hid (Ext.trans E.out hb)
    clear hb
    have R3 := Lib.hid hR3
    have lR3 := R3.out.lt
    clear hR3
    have c0 := R3.out.cell_of (i := 0) rfl
    have c1 := R3.out.cell_of (i := 1) rfl
    obtain ⟨d, hd⟩ : ∃ d, rhOk p r = d := ⟨_, rfl⟩
    cases d
    · have Hm : Hid (pathL (rhOk p r) (rhPts p r) = ([], false)) := Lib.hid (by rw [hd]; rfl)
      clear hd
      go_wp2_with fail
      clear c0 c1
      refine (c_iRhombPath p r _).mono ?_
      rw [Hm.out]
      rintro e w3 ⟨A3, cap3, ss3, rfl, ho3, hb⟩
      replace E := Lib.hid (Ext.trans E.out hb)
      replace R3 := Lib.hid (R3.out.ext hb)
      have lR3 := R3.out.lt
      clear hb
      have Q := Lib.hid (ho3.in_)
      have c0 := R3.out.cell_of (i := 0) rfl
      have c1 := R3.out.cell_of (i := 1) rfl
      clear ho3
      go_wp2_with fail
      clear c0 c1
      refine (c_sRhombPath p r _).mono ?_
      rw [Hm.out]
      rintro e w4 ⟨A4, cap4, ss4, rfl, ho4, hb⟩
      replace E := Lib.hid (Ext.trans E.out hb)
      replace R3 := Lib.hid (R3.out.ext hb)
      have lR3 := R3.out.lt
      replace Q := Lib.hid (Q.out.ext verbR_stab hb)
      clear hb
      have W0 := Lib.hid (ho4.in_)
      have c0 := R3.out.cell_of (i := 0) rfl
      have c1 := R3.out.cell_of (i := 1) rfl
      clear ho4
      go_wp2_with fail
      clear c0 c1
      refine (c_equalPath _ _ _ _ [] _ Q.out W0.out (by simp) (fun v hv => by simp at hv)).mono ?_
      rintro e w5 ⟨rfl, hb⟩
      replace E := Lib.hid (Ext.trans E.out hb)
      replace R3 := Lib.hid (R3.out.ext hb)
      have lR3 := R3.out.lt
      replace Q := Lib.hid (Q.out.ext verbR_stab hb)
      replace W0 := Lib.hid (W0.out.ext verbR_stab hb)
      clear hb
      have c0 := R3.out.cell_of (i := 0) rfl
      have c1 := R3.out.cell_of (i := 1) rfl
      go_wp2_with fail
      clear c0 c1
      refine (c_equalPath _ _ _ _ [] _ Q.out W0.out (by simp) (fun v hv => by simp at hv)).mono ?_
      rintro e w6 ⟨rfl, hb⟩
      replace E := Lib.hid (Ext.trans E.out hb)
      replace R3 := Lib.hid (R3.out.ext hb)
      have lR3 := R3.out.lt
      replace Q := Lib.hid (Q.out.ext verbR_stab hb)
      replace W0 := Lib.hid (W0.out.ext verbR_stab hb)
      clear hb
      have c0 := R3.out.cell_of (i := 0) rfl
      have c1 := R3.out.cell_of (i := 1) rfl
      go_wp2
      go_ret
      exact ⟨rfl, E.out⟩
    · have Hm : Hid (pathL (rhOk p r) (rhPts p r) = (polyV (rhPts p r) ++ [(4, [])], true)) := Lib.hid (by rw [hd]; rfl)
      have hd2 := hd
      unfold rhOk at hd2
      simp only [Bool.and_eq_true, inB_iff] at hd2
      obtain ⟨⟨hv1, hr1⟩, hps⟩ := hd2
      have hci := rh_conv hd
      have hwi := rh_wind hd
      have hV : ringsV (polyV (rhPts p r) ++ [(4, [])]) = [rhPts p r] := ringsV4 hps
      have hlen : (polyV (rhPts p r) ++ [((4 : Int), ([] : List Pt))]).length = 5 := rfl
      have hsm : ∀ v ∈ (polyV (rhPts p r) ++ [((4 : Int), ([] : List Pt))]), v.2.length ≤ 1 := by
        intro v hv
        have := pathL_small true (rhPts p r) v (by simpa [pathL] using hv)
        exact this
      have Hpl : Hid ((rhPts p r).length = 4) := Lib.hid rfl
      have Sm6 : Hid (∀ v ∈ (polyV (rhPts p r) ++ [((4 : Int), ([] : List Pt))]), v.2.length ≤ 1048576) := Lib.hid (fun v hv => by have := hsm v hv; omega)
      have Sm9 : Hid (∀ v ∈ (polyV (rhPts p r) ++ [((4 : Int), ([] : List Pt))]), v.2.length ≤ 1000000000) := Lib.hid (fun v hv => by have := hsm v hv; omega)
      have HV := Lib.hid hV
      have HC := Lib.hid hci
      have HW := Lib.hid hwi
      have Hv := Lib.hid (vpB_iff.1 hv1)
      have hl5 : (polyV (rhPts p r) ++ [((4 : Int), ([] : List Pt))]).length ≤ 5 := by omega
      have KI := Lib.hid (fun W => c_iRhombPath p r W)
      have KS := Lib.hid (fun W => c_sRhombPath p r W)
      rw [Hm.out] at KI KS
      clear hd hV hlen hsm hci hwi hps hv1 Hm
      generalize hvs : polyV (rhPts p r) ++ [((4 : Int), ([] : List Pt))] = vs at *
      generalize hpt : rhPts p r = pts at *
      clear hvs hpt
      go_wp2_with fail
      clear c0 c1
      refine (KI.out _).mono ?_
      rintro e w3 ⟨A3, cap3, ss3, rfl, ho3, hb⟩
      replace E := Lib.hid (Ext.trans E.out hb)
      replace R3 := Lib.hid (R3.out.ext hb)
      have lR3 := R3.out.lt
      clear hb
      have Q := Lib.hid (ho3.inK)
      have c0 := R3.out.cell_of (i := 0) rfl
      have c1 := R3.out.cell_of (i := 1) rfl
      clear ho3
      go_wp2_with fail
      clear c0 c1
      refine (KS.out _).mono ?_
      rintro e w4 ⟨A4, cap4, ss4, rfl, ho4, hb⟩
      replace E := Lib.hid (Ext.trans E.out hb)
      replace R3 := Lib.hid (R3.out.ext hb)
      have lR3 := R3.out.lt
      replace Q := Lib.hid (Q.out.ext verbK_stab hb)
      clear hb
      have W0 := Lib.hid (ho4.in_)
      have c0 := R3.out.cell_of (i := 0) rfl
      have c1 := R3.out.cell_of (i := 1) rfl
      clear ho4
      go_wp2_with fail
      clear c0 c1
      refine (c_equalPath _ _ _ _ vs _ Q.out.toV W0.out (by omega) Sm6.out).mono ?_
      rintro e w5 ⟨rfl, hb⟩
      replace E := Lib.hid (Ext.trans E.out hb)
      replace R3 := Lib.hid (R3.out.ext hb)
      have lR3 := R3.out.lt
      replace Q := Lib.hid (Q.out.ext verbK_stab hb)
      replace W0 := Lib.hid (W0.out.ext verbR_stab hb)
      clear hb
      have c0 := R3.out.cell_of (i := 0) rfl
      have c1 := R3.out.cell_of (i := 1) rfl
      go_wp2_with fail
      clear c0 c1
      refine (c_iRingsOf A3 cap3 vs _ Q.out (by omega) Sm9.out).mono ?_
      rw [HV.out]
      rintro e w6 ⟨A6, cap6, ss6, rfl, ho6, hb⟩
      replace E := Lib.hid (Ext.trans E.out hb)
      replace R3 := Lib.hid (R3.out.ext hb)
      have lR3 := R3.out.lt
      replace Q := Lib.hid (Q.out.ext verbK_stab hb)
      replace W0 := Lib.hid (W0.out.ext verbR_stab hb)
      clear hb
      have G := Lib.hid (ho6.in_)
      have c0 := R3.out.cell_of (i := 0) rfl
      have c1 := R3.out.cell_of (i := 1) rfl
      clear ho6
      obtain ⟨b6, off6, hA6, _, hc6⟩ := G.out.rgs (by simp)
      obtain ⟨A', cap', cr, hp, _, _⟩ := hc6 0 (by simp)
      simp only [List.getElem_cons_zero, Nat.add_zero] at cr hp
      subst hA6
      have P := Lib.hid hp
      have Cr := Lib.hid cr
      have Hsm : Hid (∀ q ∈ [pts], q.length ≤ 1000000000) := Lib.hid (fun q hq => by simp at hq; subst hq; have := Hpl.out; omega)
      clear hc6 hp cr
      have cr2 := Cr.out
      go_wp2_with fail
      clear c0 c1 cr2
      refine (c_implIsConvex A' cap' pts _ P.out (by have := Hpl.out; omega)).mono ?_
      rw [HC.out]
      rintro e w7 ⟨rfl, hb⟩
      replace E := Lib.hid (Ext.trans E.out hb)
      replace R3 := Lib.hid (R3.out.ext hb)
      have lR3 := R3.out.lt
      replace Q := Lib.hid (Q.out.ext verbK_stab hb)
      replace W0 := Lib.hid (W0.out.ext verbR_stab hb)
      replace G := Lib.hid (G.out.ext rgR_stab hb)
      replace P := Lib.hid (P.out.ext ptR_stab hb)
      clear hb
      have c0 := R3.out.cell_of (i := 0) rfl
      have c1 := R3.out.cell_of (i := 1) rfl
      obtain ⟨⟨v1, v2⟩, v3, v4⟩ := Hv.out
      go_wp2_with fail
      clear c0 c1
      refine (c_InsideAt _ cap6 [pts] 1 p.1 p.2 _ G.out (by simp) Hsm.out).mono ?_
      rw [HW.out]
      rintro e w8 ⟨rfl, hb⟩
      replace E := Lib.hid (Ext.trans E.out hb)
      replace R3 := Lib.hid (R3.out.ext hb)
      have lR3 := R3.out.lt
      replace Q := Lib.hid (Q.out.ext verbK_stab hb)
      replace W0 := Lib.hid (W0.out.ext verbR_stab hb)
      replace G := Lib.hid (G.out.ext rgR_stab hb)
      replace P := Lib.hid (P.out.ext ptR_stab hb)
      clear hb
      have c0 := R3.out.cell_of (i := 0) rfl
      have c1 := R3.out.cell_of (i := 1) rfl
      go_wp2
      go_ret
      exact ⟨rfl, E.out⟩
  · have hnI : (1048576 : Int) < (bs.length : Int) := by omega
    clear h
    go_enter Try.func12, Try.ntmps12
    go_wp2
    go_ret
    exact ⟨rfl, Below.refl _ _⟩

theorem opens0 : Opens Try.prog 22 (slR byteR 1 ) :=  opens_slice Try.underlying22 (by kernel_rfl) (by decide) (opens_byte Try.underlying5)
set_option maxRecDepth 100000 in
theorem lifted (os : Os) (started : os.Started) (H : Type) (enc : TypeId × Value → H) :
    ReturnsInHanded {} Try.checked os 12 .any (Rows.fnRhombPathConvexSpec.pre6 enc Try.prog Try.f12 Rows.fnRhombPathConvexRow.domain false) (Rows.fnRhombPathConvexSpec.post enc Try.prog Try.f12 false true false false) := by
  refine returnsInHanded_of_change (C := Try.checked) own started (by kernel_rfl) Try.func12
    (ChangeSpec.witness6 (enc := enc) (C := Try.checked) false ⟨#[], #[.slice none 0 0], []⟩ 8 (by kernel_rfl) (by kernel_rfl) (by kernel_rfl) (by kernel_rfl)) ?_
  intro W base args ds gs before hval0 hW hcnd _
  have hval : ∀ (j : Nat) t v, Try.f12.params[j]? = some t → args[j]? = some v → Value.okWide Try.prog W .any base t v := hval0
  have hW' := hW
  obtain ⟨p, q, hA0, hV, rfl, hfz, hnd⟩ := hW
  have hA : DataW.TrodAll enc Try.prog W 0 (fun _ => true) true Try.f12.params.toList args.toList ds p := hA0
  rw [Try.params12] at hA hval
  obtain ⟨v0, vs0, d0, ds0, p0, q0, hargs, rfl, rfl, h0, r0⟩ := trodAll_cons hA
  obtain ⟨rfl, rfl, rfl⟩ := trodAll_nil r0
  obtain rfl : args = #[v0] := by cases args; simp_all
  obtain ⟨rfl, rfl, rfl⟩ := trodVars_none hV
  obtain ⟨a0, len0, cap0, rfl⟩ := okWide_slice Try.underlying22 (hval 0 22 v0 rfl rfl)
  have k0 := h0
  have lt0 : ∀ x ∈ p0, x.block < W.heap.size := by obtain ⟨m, hm⟩ := k0; exact DataW.trod_lt m _ _ _ hm
  obtain ⟨xs0, rfl, w0, wl0, wc0⟩ := open_arg rfl opens0 h0
  clear hA0 hval0
  refine (walk a0 cap0 xs0 W w0 wl0 wc0).mono fun e W' ⟨he, bel⟩ => ?_
  subst he
  exact ⟨_, rfl, _, _, _, [], _, [], hW', trodAll_mk1 (shut_bool Try.underlying4 _), (trodAll_cons_mk (Below.trod laidOut (by kernel_rfl) (of_decide_eq_true (by kernel_rfl)) k0 bel lt0) trodAll_mk0), rfl, bel.frame _, fun h => by cases h⟩
theorem joinedA : joinA Try.pinned.checked.prog 12 Try.f12 Rows.fnRhombPathConvexSpec Rows.fnRhombPathConvexRow = true := by kernel_rfl
theorem joinedB : joinB Try.pinned.checked.prog Rows.fnRhombPathConvexRow = true := by kernel_rfl
theorem over : Rows.fnRhombPathConvexRow.holds Try.pinned (OpenSpec.ofChange Rows.fnRhombPathConvexSpec) :=
  OpenClaim.holds_of_wide 12 Try.f12 rfl rfl rfl rfl rfl rfl rfl ⟨rfl, rfl, rfl, rfl, rfl⟩ rfl rfl rfl rfl rfl (by kernel_rfl) Try.func12 (joined_of joinedA joinedB)
    (of_decide_eq_true (by kernel_rfl)) (by unfold Func.isWrapper; first | (rw [if_pos (by decide +kernel)]; kernel_rfl) | (rw [if_neg (by decide +kernel)]; exact ⟨rfl, rfl⟩))
    (fun os started H enc _ => lifted os started H enc)

theorem proved : Rows.FnRhombPathConvexSaid := over

end Go.Proofs.Ytnclnmciaehgeaa.fnRhombPathConvex

