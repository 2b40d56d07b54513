/- Strokes of moved points are the moved strokes, whatever the bytes that the points and the width are drawn from. -/
import Derived.Test.YtjiikjkaadfalaaStrokeI
import Derived.Test.YtjiikjkaadfalaaGenK
import Derived.Test.YtjiikjkaadfalaaMovedR
import Derived.Test.YtjiikjkaadfalaaEqualR
import Derived.Test.YtjiikjkaadfalaaOpen
namespace Go.Proofs.Ytjiikjkaadfalaa.fnStrokeRingsMove
open Go Go.RowKit Go.ChangeShapes Go.WideShapes Go.ChangeAt Go.Deep Reg
attribute [local go_sem] calmAt calmUpon

theorem own : ownKnob Try.prog.godebug = none := by kernel_rfl
theorem laidOut : laidOutB Try.prog = true := by kernel_rfl
theorem bar_move (s t h : Int) (a b : Pt) : barL (mvP s t a) (mvP s t b) h = moveL s t (barL a b h) := by
  have e : nrmL (mvP s t a) (mvP s t b) h = nrmL a b h := by
    unfold nrmL mvP
    rw [longL_move]
    dsimp only
    rw [show a.2 + t - (b.2 + t) = a.2 - b.2 by omega, show b.1 + s - (a.1 + s) = b.1 - a.1 by omega]
  unfold barL
  rw [e]
  generalize nrmL a b h = n
  simp only [barP, moveL, List.map_cons, List.map_nil, mvP, List.cons.injEq, Prod.mk.injEq, and_true]
  omega
theorem mvP_inj (s t : Int) (a b : Pt) : mvP s t a = mvP s t b ↔ a = b := by
  constructor
  · intro h
    simp only [mvP, Prod.mk.injEq] at h
    exact Prod.ext (by omega) (by omega)
  · rintro rfl; rfl
theorem strokes_move (s t h : Int) : ∀ r : Rg, strokesL h (moveL s t r) = (strokesL h r).map (moveL s t)
  | [] => rfl
  | [_] => rfl
  | a :: b :: r => by
    have ih := strokes_move s t h (b :: r)
    simp only [moveL, List.map_cons] at ih ⊢
    simp only [strokesL, ih, bar_move, List.map_append, mvP_inj]
    by_cases hab : a = b
    · simp [hab]
    · simp [hab, moveL]
theorem strokeR_yes {r : Rg} {h : Int} (hd : (strokeR r h).2 = true) : strokeR r h = (strokesL h r, true) := by
  unfold strokeR at *
  by_cases hc : (strokeOk r h && rgsB (strokesL h r)) = true
  · rw [if_pos hc]
  · rw [if_neg hc] at hd; cases hd
theorem strokeR_small (r : Rg) (h : Int) (hr : r.length ≤ 1000) : (strokeR r h).1.length ≤ 1000 ∧ ∀ q ∈ (strokeR r h).1, q.length ≤ 4 := by
  unfold strokeR
  split
  · dsimp only
    exact ⟨by have := strokesL_len h r; omega, fun q hq => by rw [strokesL_four h r q hq]; omega⟩
  · exact ⟨by simp, fun q hq => by simp at hq⟩

set_option maxRecDepth 100000 in
set_option maxHeartbeats 4000000 in
theorem walk (A : Option Addr) (cap : Nat) (bs : List Int) (w : World) (h : In byteR 1 w A bs) (hlc : bs.length ≤ cap) (hcm : cap ≤ maxLen) :
    Calls Try.prog 5 #[.slice A bs.length cap] w fun e w' => e = .returned (.bool true) ∧ Below w.heap.size w w' := by
  unfold maxLen at hcm
  by_cases hn : bs.length ≤ 1048576
  · have hnI : ¬ (1048576 : Int) < (bs.length : Int) := by omega
    have E := Lib.hid (Below.refl w.heap.size w)
    go_enter Try.func5, Try.ntmps5
    go_wp2_with fail
    refine (c_DrawStrokeRings A cap bs w h hlc (by omega)).mono ?_
    rintro e w1 ⟨A1, cap1, r, hf, rfl, hr9, ho1, hb⟩
    replace E := Lib.hid (Ext.trans E.out hb)
    clear hb
    have O1 := Lib.hid (ho1)
    clear ho1
    clear h hn
    obtain ⟨S, hS⟩ : ∃ S, strokeR r hf = S := ⟨_, rfl⟩
    have HS := Lib.hid hS
    have hsm := strokeR_small r hf (by omega)
    have HY := Lib.hid (@strokeR_yes r hf)
    rw [hS] at hsm HY
    obtain ⟨rs, ok⟩ := S
    dsimp only at hsm HY
    obtain ⟨hrs, hrs4⟩ := hsm
    have Hq : Hid (∀ q ∈ rs, q.length ≤ 1048576) := Lib.hid (fun q hq => by have := hrs4 q hq; omega)
    have Hso := Lib.hid O1.out.slok
    have P1 : Hid (Pts w1 A1 r) := Lib.hid (own_in (enc := ptC) (R := ptR) ptC_len (by decide) O1.out (fun _ => rfl))
    clear hS hrs4
    go_wp2_with fail
    refine (c_iStrokeRings A1 cap1 r hf _ P1.out (by omega)).mono ?_
    rw [HS.out]
    rintro e w2 ⟨A2, cap2, ss2, rfl, ho2, hb⟩
    replace E := Lib.hid (Ext.trans E.out hb)
    replace P1 := Lib.hid (P1.out.ext ptR_stab hb)
    clear hb
    have Q2 := Lib.hid (ho2.in_)
    clear ho2
    go_wp2_with fail
    refine (c_sStrokeRings A1 cap1 r hf _ P1.out (by omega)).mono ?_
    rw [HS.out]
    rintro e w3 ⟨A3, cap3, ss3, rfl, ho3, hb⟩
    replace E := Lib.hid (Ext.trans E.out hb)
    replace P1 := Lib.hid (P1.out.ext ptR_stab hb)
    replace Q2 := Lib.hid (Q2.out.ext rgR_stab hb)
    clear hb
    have Q3 := Lib.hid (ho3.in_)
    clear ho3
    go_wp2_with fail
    refine (c_equalRings A2 A3 cap2 cap3 rs _ Q2.out Q3.out (by omega) Hq.out).mono ?_
    rintro e w4 ⟨rfl, hb⟩
    replace E := Lib.hid (Ext.trans E.out hb)
    replace P1 := Lib.hid (P1.out.ext ptR_stab hb)
    replace Q2 := Lib.hid (Q2.out.ext rgR_stab hb)
    replace Q3 := Lib.hid (Q3.out.ext rgR_stab hb)
    clear hb
    cases ok
    · go_wp2_with fail
      refine (c_equalRings A2 A3 cap2 cap3 rs _ Q2.out Q3.out (by omega) Hq.out).mono ?_
      rintro e w5 ⟨rfl, hb⟩
      replace E := Lib.hid (Ext.trans E.out hb)
      replace P1 := Lib.hid (P1.out.ext ptR_stab hb)
      replace Q2 := Lib.hid (Q2.out.ext rgR_stab hb)
      replace Q3 := Lib.hid (Q3.out.ext rgR_stab hb)
      clear hb
      go_wp2
      go_ret
      exact ⟨rfl, E.out⟩
    · have hy := HY.out rfl
      have Hrs : Hid (rs = strokesL hf r) := Lib.hid (by simpa using congrArg Prod.fst hy)
      have Hrf : Hid (∀ q ∈ rs, 0 < q.length ∧ q.length ≤ 1000) := Lib.hid (fun q hq => by rw [Hrs.out] at hq; rw [strokesL_four hf r q hq]; omega)
      clear hy
      obtain ⟨M, hM⟩ : ∃ M, movedP 9 (-4) r = M := ⟨_, rfl⟩
      have HM := Lib.hid hM
      have Hml : Hid (M.1.length ≤ 9) := Lib.hid (by
        rw [← hM]; unfold movedP
        split
        · dsimp only; rw [moveL_len]; exact hr9
        · simp)
      have HMy : Hid (M.2 = true → M.1 = moveL 9 (-4) r) := Lib.hid (by
        rw [← hM]; unfold movedP
        split
        · intro _; rfl
        · intro h; cases h)
      obtain ⟨rm, one⟩ := M
      dsimp only at Hml HMy
      clear hM
      go_wp2_with fail
      refine (c_MovePoints A1 cap1 r 9 (-4) _ P1.out Hso.out (by omega)).mono ?_
      rw [HM.out]
      rintro e w5 ⟨A5, cap5, rfl, ho5, hb⟩
      replace E := Lib.hid (Ext.trans E.out hb)
      replace P1 := Lib.hid (P1.out.ext ptR_stab hb)
      replace Q2 := Lib.hid (Q2.out.ext rgR_stab hb)
      replace Q3 := Lib.hid (Q3.out.ext rgR_stab hb)
      clear hb
      have P5 := Lib.hid ((own_in (enc := ptC) (R := ptR) ptC_len (by decide) ho5 (fun _ => rfl)))
      clear ho5
      obtain ⟨T, hT⟩ : ∃ T, strokeR rm hf = T := ⟨_, rfl⟩
      have HT := Lib.hid hT
      have HTY := Lib.hid (@strokeR_yes rm hf)
      rw [hT] at HTY
      obtain ⟨rt, two⟩ := T
      clear hT
      have hml9 := Hml.out
      go_wp2_with fail
      refine (c_iStrokeRings A5 cap5 rm hf _ P5.out (by omega)).mono ?_
      rw [HT.out]
      rintro e w6 ⟨A6, cap6, ss6, rfl, ho6, hb⟩
      replace E := Lib.hid (Ext.trans E.out hb)
      replace P1 := Lib.hid (P1.out.ext ptR_stab hb)
      replace Q2 := Lib.hid (Q2.out.ext rgR_stab hb)
      replace Q3 := Lib.hid (Q3.out.ext rgR_stab hb)
      replace P5 := Lib.hid (P5.out.ext ptR_stab hb)
      clear hb
      have Q6 := Lib.hid (ho6.in_)
      clear ho6
      obtain ⟨V, hV⟩ : ∃ V, movedR 9 (-4) rs = V := ⟨_, rfl⟩
      have HV := Lib.hid hV
      have HVY : Hid (V.2 = true → V.1 = rs.map (moveL 9 (-4))) := Lib.hid (by
        rw [← hV]; unfold movedR
        split
        · intro _; rfl
        · intro h; cases h)
      obtain ⟨rv, three⟩ := V
      dsimp only at HVY
      clear hV
      go_wp2_with fail
      refine (c_movedRG A2 cap2 rs 9 (-4) _ Q2.out (by omega) Hrf.out).mono ?_
      rw [HV.out]
      rintro e w7 ⟨A7, cap7, ss7, rfl, ho7, hb⟩
      replace E := Lib.hid (Ext.trans E.out hb)
      replace P1 := Lib.hid (P1.out.ext ptR_stab hb)
      replace Q2 := Lib.hid (Q2.out.ext rgR_stab hb)
      replace Q3 := Lib.hid (Q3.out.ext rgR_stab hb)
      replace P5 := Lib.hid (P5.out.ext ptR_stab hb)
      replace Q6 := Lib.hid (Q6.out.ext rgR_stab hb)
      clear hb
      have Q7 := Lib.hid (ho7.in_)
      clear ho7
      cases one
      · go_wp2
        go_ret
        exact ⟨rfl, E.out⟩
      cases two
      · go_wp2
        go_ret
        exact ⟨rfl, E.out⟩
      cases three
      · go_wp2
        go_ret
        exact ⟨rfl, E.out⟩
      have heq : rt = rv := by
        have h1 := HTY.out rfl
        have h2 := HVY.out rfl
        have h3 := HMy.out rfl
        rw [h2, Hrs.out, ← strokes_move, ← h3]
        simpa using congrArg Prod.fst h1
      subst heq
      have Hrt : Hid (rt.length ≤ 1000 ∧ ∀ q ∈ rt, q.length ≤ 4) := Lib.hid (by have := strokeR_small rm hf (by omega); rw [HT.out] at this; exact this)
      go_wp2_with fail
      refine (c_equalRings A6 A7 cap6 cap7 rt _ Q6.out Q7.out (by have := Hrt.out.1; omega) (fun q hq => by have := Hrt.out.2 q hq; omega)).mono ?_
      rintro e w8 ⟨rfl, hb⟩
      replace E := Lib.hid (Ext.trans E.out hb)
      replace P1 := Lib.hid (P1.out.ext ptR_stab hb)
      replace Q2 := Lib.hid (Q2.out.ext rgR_stab hb)
      replace Q3 := Lib.hid (Q3.out.ext rgR_stab hb)
      replace P5 := Lib.hid (P5.out.ext ptR_stab hb)
      replace Q6 := Lib.hid (Q6.out.ext rgR_stab hb)
      replace Q7 := Lib.hid (Q7.out.ext rgR_stab hb)
      clear hb
      go_wp2
      go_ret
      exact ⟨rfl, E.out⟩
  · have hnI : (1048576 : Int) < (bs.length : Int) := by omega
    clear h
    go_enter Try.func5, Try.ntmps5
    go_wp2
    go_ret
    exact ⟨rfl, Below.refl _ _⟩

theorem opens0 : Opens Try.prog 22 (slR byteR 1 ) :=  opens_slice Try.underlying22 (by kernel_rfl) (by decide) (opens_byte Try.underlying5)
set_option maxRecDepth 100000 in
theorem lifted (os : Os) (started : os.Started) (H : Type) (enc : TypeId × Value → H) :
    ReturnsInHanded {} Try.checked os 5 .any (Rows.fnStrokeRingsMoveSpec.pre6 enc Try.prog Try.f5 Rows.fnStrokeRingsMoveRow.domain false) (Rows.fnStrokeRingsMoveSpec.post enc Try.prog Try.f5 false true false false) := by
  refine returnsInHanded_of_change (C := Try.checked) own started (by kernel_rfl) Try.func5
    (ChangeSpec.witness6 (enc := enc) (C := Try.checked) false ⟨#[], #[.slice none 0 0], []⟩ 8 (by kernel_rfl) (by kernel_rfl) (by kernel_rfl) (by kernel_rfl)) ?_
  intro W base args ds gs before hval0 hW hcnd _
  have hval : ∀ (j : Nat) t v, Try.f5.params[j]? = some t → args[j]? = some v → Value.okWide Try.prog W .any base t v := hval0
  have hW' := hW
  obtain ⟨p, q, hA0, hV, rfl, hfz, hnd⟩ := hW
  have hA : DataW.TrodAll enc Try.prog W 0 (fun _ => true) true Try.f5.params.toList args.toList ds p := hA0
  rw [Try.params5] at hA hval
  obtain ⟨v0, vs0, d0, ds0, p0, q0, hargs, rfl, rfl, h0, r0⟩ := trodAll_cons hA
  obtain ⟨rfl, rfl, rfl⟩ := trodAll_nil r0
  obtain rfl : args = #[v0] := by cases args; simp_all
  obtain ⟨rfl, rfl, rfl⟩ := trodVars_none hV
  obtain ⟨a0, len0, cap0, rfl⟩ := okWide_slice Try.underlying22 (hval 0 22 v0 rfl rfl)
  have k0 := h0
  have lt0 : ∀ x ∈ p0, x.block < W.heap.size := by obtain ⟨m, hm⟩ := k0; exact DataW.trod_lt m _ _ _ hm
  obtain ⟨xs0, rfl, w0, wl0, wc0⟩ := open_arg rfl opens0 h0
  clear hA0 hval0
  refine (walk a0 cap0 xs0 W w0 wl0 wc0).mono fun e W' ⟨he, bel⟩ => ?_
  subst he
  exact ⟨_, rfl, _, _, _, [], _, [], hW', trodAll_mk1 (shut_bool Try.underlying4 _), (trodAll_cons_mk (Below.trod laidOut (by kernel_rfl) (of_decide_eq_true (by kernel_rfl)) k0 bel lt0) trodAll_mk0), rfl, bel.frame _, fun h => by cases h⟩
theorem over : Rows.fnStrokeRingsMoveRow.holds Try.pinned (OpenSpec.ofChange Rows.fnStrokeRingsMoveSpec) :=
  OpenClaim.holds_of_wide 5 Try.f5 rfl rfl rfl rfl rfl rfl rfl ⟨rfl, rfl, rfl, rfl, rfl⟩ rfl rfl rfl rfl rfl (by kernel_rfl) Try.func5 (by kernel_rfl)
    (of_decide_eq_true (by kernel_rfl)) (by unfold Func.isWrapper; first | (rw [if_pos (by decide +kernel)]; kernel_rfl) | (rw [if_neg (by decide +kernel)]; exact ⟨rfl, rfl⟩))
    (fun os started H enc _ => lifted os started H enc)

theorem proved : Rows.FnStrokeRingsMoveSaid := over

end Go.Proofs.Ytjiikjkaadfalaa.fnStrokeRingsMove

