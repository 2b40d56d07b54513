/- The stroke of a level line is a box, whatever the bytes that the points and the width are drawn from. -/
import Derived.Test.YtjiikjkaadfalaaStrokeI
import Derived.Test.YtjiikjkaadfalaaStrokeV
import Derived.Test.YtjiikjkaadfalaaGenK
import Derived.Test.YtjiikjkaadfalaaWindI
import Derived.Test.YtjiikjkaadfalaaEqualR
import Derived.Test.YtjiikjkaadfalaaSlice
import Derived.Test.YtjiikjkaadfalaaOpen
namespace Go.Proofs.Ytjiikjkaadfalaa.fnStrokeRingsLevel
open Go Go.RowKit Go.ChangeShapes Go.WideShapes Go.ChangeAt Go.Deep Reg
attribute [local go_sem] calmAt calmUpon

theorem own : ownKnob Try.prog.godebug = none := by kernel_rfl
theorem laidOut : laidOutB Try.prog = true := by kernel_rfl
theorem strokeR_yes {r : Rg} {h : Int} (hd : (strokeR r h).2 = true) : strokeR r h = (strokesL h r, true) ∧ strokeOk r h = true ∧ rgsB (strokesL h r) = true := by
  unfold strokeR at *
  by_cases hc : (strokeOk r h && rgsB (strokesL h r)) = true
  · rw [if_pos hc]
    exact ⟨rfl, by simpa using hc⟩
  · rw [if_neg hc] at hd; cases hd
theorem strokeR_small (r : Rg) (h : Int) (hr : r.length ≤ 1000) : (strokeR r h).1.length ≤ 1000 ∧ ∀ q ∈ (strokeR r h).1, q.length ≤ 4 := by
  unfold strokeR
  split
  · dsimp only
    exact ⟨by have := strokesL_len h r; omega, fun q hq => by rw [strokesL_four h r q hq]; omega⟩
  · exact ⟨by simp, fun q hq => by simp at hq⟩
theorem strokesL_cons {r : Rg} {h : Int} (hl : 1 < r.length) (hne : r[0] ≠ r[1]) : ∃ rest, strokesL h r = barL r[0] r[1] h :: rest := by
  match r, hl, hne with
  | a :: b :: r', _, hne =>
    refine ⟨strokesL h (b :: r'), ?_⟩
    simp only [List.getElem_cons_zero, List.getElem_cons_succ] at hne ⊢
    simp [strokesL, hne]
theorem rgsB_one {q : Rg} {rs : List Rg} (h : rgsB (q :: rs) = true) : rgsB [q] = true ∧ psB q = true := by
  rw [rgsB_iff] at *
  obtain ⟨h1, h2, h3⟩ := h
  refine ⟨⟨fun r hr => by simp at hr; subst hr; exact h1 r (by simp), by simp, ?_⟩, (h1 q (by simp)).2⟩
  have := psB_len (h1 q (by simp)).2
  simp [corners]; omega

set_option maxRecDepth 100000 in
set_option maxHeartbeats 8000000 in
theorem walk (A : Option Addr) (cap : Nat) (bs : List Int) (w : World) (h : In byteR 1 w A bs) (hlc : bs.length ≤ cap) (hcm : cap ≤ maxLen) :
    Calls Try.prog 4 #[.slice A bs.length cap] w fun e w' => e = .returned (.bool true) ∧ Below w.heap.size w w' := by
  unfold maxLen at hcm
  by_cases hn : bs.length ≤ 1048576
  · have hnI : ¬ (1048576 : Int) < (bs.length : Int) := by omega
    have E := Lib.hid (Below.refl w.heap.size w)
    go_enter Try.func4, Try.ntmps4
    go_wp2_with fail
    refine (c_DrawStrokeRings A cap bs w h hlc (by omega)).mono ?_
    rintro e w1 ⟨A1, cap1, r, hf, rfl, hr9, ho1, hb⟩
    replace E := Lib.hid (Ext.trans E.out hb)
    clear hb
    have O1 := Lib.hid (ho1)
    clear ho1
    clear h hn
    obtain ⟨S, hS⟩ : ∃ S, strokeR r hf = S := ⟨_, rfl⟩
    have HS := Lib.hid hS
    have hsm := strokeR_small r hf (by omega)
    have HY := Lib.hid (@strokeR_yes r hf)
    rw [hS] at hsm HY
    obtain ⟨rs, ok⟩ := S
    dsimp only at hsm HY
    obtain ⟨hrs, hrs4⟩ := hsm
    have Hq : Hid (∀ q ∈ rs, q.length ≤ 1048576) := Lib.hid (fun q hq => by have := hrs4 q hq; omega)
    have P1 : Hid (Pts w1 A1 r) := Lib.hid (own_in (enc := ptC) (R := ptR) ptC_len (by decide) O1.out (fun _ => rfl))
    have hrsM : rs.length ≤ 1048576 := by omega
    clear hS hrs4
    go_wp2_with fail
    refine (c_iStrokeRings A1 cap1 r hf _ P1.out (by omega)).mono ?_
    rw [HS.out]
    rintro e w2 ⟨A2, cap2, ss2, rfl, ho2, hb⟩
    replace E := Lib.hid (Ext.trans E.out hb)
    replace P1 := Lib.hid (P1.out.ext ptR_stab hb)
    clear hb
    have Q2 := Lib.hid (ho2.in_)
    have Sl2 := Lib.hid ho2.out.slok
    clear ho2
    go_wp2_with fail
    refine (c_sStrokeRings A1 cap1 r hf _ P1.out (by omega)).mono ?_
    rw [HS.out]
    rintro e w3 ⟨A3, cap3, ss3, rfl, ho3, hb⟩
    replace E := Lib.hid (Ext.trans E.out hb)
    replace P1 := Lib.hid (P1.out.ext ptR_stab hb)
    replace Q2 := Lib.hid (Q2.out.ext rgR_stab hb)
    clear hb
    have Q3 := Lib.hid (ho3.in_)
    clear ho3
    cases ok
    · skip
      go_wp2_with fail
      refine wp_region_calm [0,1,2,3,4,5,6,7,8,9,10,11,12,13,14,15,16,17,18,19,20,21,22,23,24,25,26,27,28,29,30,31,32,33,34,35,36,37,38,39] [] (by kernel_rfl) (by kernel_rfl) ?_
      (first | (refine calm_yes rfl rfl (fun w' hC => (by go_simp; rfl)) (fun K hK => ?_); go_simp; refine hK _ ?_; clear hK K) | (refine calm_no rfl rfl (fun K hK => ?_); go_simp; refine hK _ ?_; clear hK K))
      (first | (refine calm_yes rfl rfl (fun w' hC => (by go_simp; rfl)) (fun K hK => ?_); go_simp; refine hK _ ?_; clear hK K) | (refine calm_no rfl rfl (fun K hK => ?_); go_simp; refine hK _ ?_; clear hK K))
      (apply calm_call rfl rfl rfl Try.func15 (by kernel_rfl) rfl (by go_simp; rfl); exact (fun w' hC => c_equalRings A2 A3 cap2 cap3 rs w' (Q2.out.ext rgR_stab (ext_cls hC)) (Q3.out.ext rgR_stab (ext_cls hC)) hrsM Hq.out); intro K hK; go_simp; refine hK _ ?_; clear hK K)
      (first | (refine calm_yes rfl rfl (fun w' hC => (by go_simp; rfl)) (fun K hK => ?_); go_simp; refine hK _ ?_; clear hK K) | (refine calm_no rfl rfl (fun K hK => ?_); go_simp; refine hK _ ?_; clear hK K))
      (first | (refine calm_yes rfl rfl (fun w' hC => (by go_simp; rfl)) (fun K hK => ?_); go_simp; refine hK _ ?_; clear hK K) | (refine calm_no rfl rfl (fun K hK => ?_); go_simp; refine hK _ ?_; clear hK K))
      (first | (refine calm_yes rfl rfl (fun w' hC => (by go_simp; rfl)) (fun K hK => ?_); go_simp; refine hK _ ?_; clear hK K) | (refine calm_no rfl rfl (fun K hK => ?_); go_simp; refine hK _ ?_; clear hK K))
      (first | (refine calm_yes rfl rfl (fun w' hC => (by go_simp; rfl)) (fun K hK => ?_); go_simp; refine hK _ ?_; clear hK K) | (refine calm_no rfl rfl (fun K hK => ?_); go_simp; refine hK _ ?_; clear hK K))
      (first | (refine calm_yes rfl rfl (fun w' hC => (by go_simp; rfl)) (fun K hK => ?_); go_simp; refine hK _ ?_; clear hK K) | (refine calm_no rfl rfl (fun K hK => ?_); go_simp; refine hK _ ?_; clear hK K))
      (first | (refine calm_yes rfl rfl (fun w' hC => (by go_simp; rfl)) (fun K hK => ?_); go_simp; refine hK _ ?_; clear hK K) | (refine calm_no rfl rfl (fun K hK => ?_); go_simp; refine hK _ ?_; clear hK K))
      (first | (refine calm_yes rfl rfl (fun w' hC => (by go_simp; rfl)) (fun K hK => ?_); go_simp; refine hK _ ?_; clear hK K) | (refine calm_no rfl rfl (fun K hK => ?_); go_simp; refine hK _ ?_; clear hK K))
      (first | (refine calm_yes rfl rfl (fun w' hC => (by go_simp; rfl)) (fun K hK => ?_); go_simp; refine hK _ ?_; clear hK K) | (refine calm_no rfl rfl (fun K hK => ?_); go_simp; refine hK _ ?_; clear hK K))
      (first | (refine calm_yes rfl rfl (fun w' hC => (by go_simp; rfl)) (fun K hK => ?_); go_simp; refine hK _ ?_; clear hK K) | (refine calm_no rfl rfl (fun K hK => ?_); go_simp; refine hK _ ?_; clear hK K))
      (first | (refine calm_yes rfl rfl (fun w' hC => (by go_simp; rfl)) (fun K hK => ?_); go_simp; refine hK _ ?_; clear hK K) | (refine calm_no rfl rfl (fun K hK => ?_); go_simp; refine hK _ ?_; clear hK K))
      (first | (refine calm_yes rfl rfl (fun w' hC => (by go_simp; rfl)) (fun K hK => ?_); go_simp; refine hK _ ?_; clear hK K) | (refine calm_no rfl rfl (fun K hK => ?_); go_simp; refine hK _ ?_; clear hK K))
      (first | (refine calm_yes rfl rfl (fun w' hC => (by go_simp; rfl)) (fun K hK => ?_); go_simp; refine hK _ ?_; clear hK K) | (refine calm_no rfl rfl (fun K hK => ?_); go_simp; refine hK _ ?_; clear hK K))
      (first | (refine calm_yes rfl rfl (fun w' hC => (by go_simp; rfl)) (fun K hK => ?_); go_simp; refine hK _ ?_; clear hK K) | (refine calm_no rfl rfl (fun K hK => ?_); go_simp; refine hK _ ?_; clear hK K))
      (first | (refine calm_yes rfl rfl (fun w' hC => (by go_simp; rfl)) (fun K hK => ?_); go_simp; refine hK _ ?_; clear hK K) | (refine calm_no rfl rfl (fun K hK => ?_); go_simp; refine hK _ ?_; clear hK K))
      (first | (refine calm_yes rfl rfl (fun w' hC => (by go_simp; rfl)) (fun K hK => ?_); go_simp; refine hK _ ?_; clear hK K) | (refine calm_no rfl rfl (fun K hK => ?_); go_simp; refine hK _ ?_; clear hK K))
      (first | (refine calm_yes rfl rfl (fun w' hC => (by go_simp; rfl)) (fun K hK => ?_); go_simp; refine hK _ ?_; clear hK K) | (refine calm_no rfl rfl (fun K hK => ?_); go_simp; refine hK _ ?_; clear hK K))
      (first | (refine calm_yes rfl rfl (fun w' hC => (by go_simp; rfl)) (fun K hK => ?_); go_simp; refine hK _ ?_; clear hK K) | (refine calm_no rfl rfl (fun K hK => ?_); go_simp; refine hK _ ?_; clear hK K))
      (first | (refine calm_yes rfl rfl (fun w' hC => (by go_simp; rfl)) (fun K hK => ?_); go_simp; refine hK _ ?_; clear hK K) | (refine calm_no rfl rfl (fun K hK => ?_); go_simp; refine hK _ ?_; clear hK K))
      (first | (refine calm_yes rfl rfl (fun w' hC => (by go_simp; rfl)) (fun K hK => ?_); go_simp; refine hK _ ?_; clear hK K) | (refine calm_no rfl rfl (fun K hK => ?_); go_simp; refine hK _ ?_; clear hK K))
      (first | (refine calm_yes rfl rfl (fun w' hC => (by go_simp; rfl)) (fun K hK => ?_); go_simp; refine hK _ ?_; clear hK K) | (refine calm_no rfl rfl (fun K hK => ?_); go_simp; refine hK _ ?_; clear hK K))
      (first | (refine calm_yes rfl rfl (fun w' hC => (by go_simp; rfl)) (fun K hK => ?_); go_simp; refine hK _ ?_; clear hK K) | (refine calm_no rfl rfl (fun K hK => ?_); go_simp; refine hK _ ?_; clear hK K))
      (first | (refine calm_yes rfl rfl (fun w' hC => (by go_simp; rfl)) (fun K hK => ?_); go_simp; refine hK _ ?_; clear hK K) | (refine calm_no rfl rfl (fun K hK => ?_); go_simp; refine hK _ ?_; clear hK K))
      (first | (refine calm_yes rfl rfl (fun w' hC => (by go_simp; rfl)) (fun K hK => ?_); go_simp; refine hK _ ?_; clear hK K) | (refine calm_no rfl rfl (fun K hK => ?_); go_simp; refine hK _ ?_; clear hK K))
      (first | (refine calm_yes rfl rfl (fun w' hC => (by go_simp; rfl)) (fun K hK => ?_); go_simp; refine hK _ ?_; clear hK K) | (refine calm_no rfl rfl (fun K hK => ?_); go_simp; refine hK _ ?_; clear hK K))
      (first | (refine calm_yes rfl rfl (fun w' hC => (by go_simp; rfl)) (fun K hK => ?_); go_simp; refine hK _ ?_; clear hK K) | (refine calm_no rfl rfl (fun K hK => ?_); go_simp; refine hK _ ?_; clear hK K))
      (first | (refine calm_yes rfl rfl (fun w' hC => (by go_simp; rfl)) (fun K hK => ?_); go_simp; refine hK _ ?_; clear hK K) | (refine calm_no rfl rfl (fun K hK => ?_); go_simp; refine hK _ ?_; clear hK K))
      (first | (refine calm_yes rfl rfl (fun w' hC => (by go_simp; rfl)) (fun K hK => ?_); go_simp; refine hK _ ?_; clear hK K) | (refine calm_no rfl rfl (fun K hK => ?_); go_simp; refine hK _ ?_; clear hK K))
      (first | (refine calm_yes rfl rfl (fun w' hC => (by go_simp; rfl)) (fun K hK => ?_); go_simp; refine hK _ ?_; clear hK K) | (refine calm_no rfl rfl (fun K hK => ?_); go_simp; refine hK _ ?_; clear hK K))
      (first | (refine calm_yes rfl rfl (fun w' hC => (by go_simp; rfl)) (fun K hK => ?_); go_simp; refine hK _ ?_; clear hK K) | (refine calm_no rfl rfl (fun K hK => ?_); go_simp; refine hK _ ?_; clear hK K))
      (first | (refine calm_yes rfl rfl (fun w' hC => (by go_simp; rfl)) (fun K hK => ?_); go_simp; refine hK _ ?_; clear hK K) | (refine calm_no rfl rfl (fun K hK => ?_); go_simp; refine hK _ ?_; clear hK K))
      (first | (refine calm_yes rfl rfl (fun w' hC => (by go_simp; rfl)) (fun K hK => ?_); go_simp; refine hK _ ?_; clear hK K) | (refine calm_no rfl rfl (fun K hK => ?_); go_simp; refine hK _ ?_; clear hK K))
      (first | (refine calm_yes rfl rfl (fun w' hC => (by go_simp; rfl)) (fun K hK => ?_); go_simp; refine hK _ ?_; clear hK K) | (refine calm_no rfl rfl (fun K hK => ?_); go_simp; refine hK _ ?_; clear hK K))
      (first | (refine calm_yes rfl rfl (fun w' hC => (by go_simp; rfl)) (fun K hK => ?_); go_simp; refine hK _ ?_; clear hK K) | (refine calm_no rfl rfl (fun K hK => ?_); go_simp; refine hK _ ?_; clear hK K))
      (first | (refine calm_yes rfl rfl (fun w' hC => (by go_simp; rfl)) (fun K hK => ?_); go_simp; refine hK _ ?_; clear hK K) | (refine calm_no rfl rfl (fun K hK => ?_); go_simp; refine hK _ ?_; clear hK K))
      (first | (refine calm_yes rfl rfl (fun w' hC => (by go_simp; rfl)) (fun K hK => ?_); go_simp; refine hK _ ?_; clear hK K) | (refine calm_no rfl rfl (fun K hK => ?_); go_simp; refine hK _ ?_; clear hK K))
      (first | (refine calm_yes rfl rfl (fun w' hC => (by go_simp; rfl)) (fun K hK => ?_); go_simp; refine hK _ ?_; clear hK K) | (refine calm_no rfl rfl (fun K hK => ?_); go_simp; refine hK _ ?_; clear hK K))
      (first | (refine calm_yes rfl rfl (fun w' hC => (by go_simp; rfl)) (fun K hK => ?_); go_simp; refine hK _ ?_; clear hK K) | (refine calm_no rfl rfl (fun K hK => ?_); go_simp; refine hK _ ?_; clear hK K))
      refine calm_done (fun w4 hb => ?_)
      replace E := Lib.hid (Ext.trans E.out hb)
      replace P1 := Lib.hid (P1.out.ext ptR_stab hb)
      replace Q2 := Lib.hid (Q2.out.ext rgR_stab hb)
      replace Q3 := Lib.hid (Q3.out.ext rgR_stab hb)
      clear hb
      go_wp2_with fail
      refine (c_equalRings A2 A3 cap2 cap3 rs _ Q2.out Q3.out (by omega) Hq.out).mono ?_
      rintro e w5 ⟨rfl, hb⟩
      replace E := Lib.hid (Ext.trans E.out hb)
      replace P1 := Lib.hid (P1.out.ext ptR_stab hb)
      replace Q2 := Lib.hid (Q2.out.ext rgR_stab hb)
      replace Q3 := Lib.hid (Q3.out.ext rgR_stab hb)
      clear hb
      go_wp2
      go_ret
      exact ⟨rfl, E.out⟩
    by_cases hl2 : r.length < 2
    · have hl2I : (r.length : Int) < 2 := by omega
      go_wp2_with fail
      refine wp_region_calm [0,1,2,3,4,5,6,7,8,9,10,11,12,13,14,15,16,17,18,19,20,21,22,23,24,25,26,27,28,29,30,31,32,33,34,35,36,37,38,39] [] (by kernel_rfl) (by kernel_rfl) ?_
      (first | (refine calm_yes rfl rfl (fun w' hC => (by go_simp; rfl)) (fun K hK => ?_); go_simp; refine hK _ ?_; clear hK K) | (refine calm_no rfl rfl (fun K hK => ?_); go_simp; refine hK _ ?_; clear hK K))
      (first | (refine calm_yes rfl rfl (fun w' hC => (by go_simp; rfl)) (fun K hK => ?_); go_simp; refine hK _ ?_; clear hK K) | (refine calm_no rfl rfl (fun K hK => ?_); go_simp; refine hK _ ?_; clear hK K))
      (apply calm_call rfl rfl rfl Try.func15 (by kernel_rfl) rfl (by go_simp; rfl); exact (fun w' hC => c_equalRings A2 A3 cap2 cap3 rs w' (Q2.out.ext rgR_stab (ext_cls hC)) (Q3.out.ext rgR_stab (ext_cls hC)) hrsM Hq.out); intro K hK; go_simp; refine hK _ ?_; clear hK K)
      (first | (refine calm_yes rfl rfl (fun w' hC => (by go_simp; rfl)) (fun K hK => ?_); go_simp; refine hK _ ?_; clear hK K) | (refine calm_no rfl rfl (fun K hK => ?_); go_simp; refine hK _ ?_; clear hK K))
      (first | (refine calm_yes rfl rfl (fun w' hC => (by go_simp; rfl)) (fun K hK => ?_); go_simp; refine hK _ ?_; clear hK K) | (refine calm_no rfl rfl (fun K hK => ?_); go_simp; refine hK _ ?_; clear hK K))
      (first | (refine calm_yes rfl rfl (fun w' hC => (by go_simp; rfl)) (fun K hK => ?_); go_simp; refine hK _ ?_; clear hK K) | (refine calm_no rfl rfl (fun K hK => ?_); go_simp; refine hK _ ?_; clear hK K))
      (first | (refine calm_yes rfl rfl (fun w' hC => (by go_simp; rfl)) (fun K hK => ?_); go_simp; refine hK _ ?_; clear hK K) | (refine calm_no rfl rfl (fun K hK => ?_); go_simp; refine hK _ ?_; clear hK K))
      (first | (refine calm_yes rfl rfl (fun w' hC => (by go_simp; rfl)) (fun K hK => ?_); go_simp; refine hK _ ?_; clear hK K) | (refine calm_no rfl rfl (fun K hK => ?_); go_simp; refine hK _ ?_; clear hK K))
      (first | (refine calm_yes rfl rfl (fun w' hC => (by go_simp; rfl)) (fun K hK => ?_); go_simp; refine hK _ ?_; clear hK K) | (refine calm_no rfl rfl (fun K hK => ?_); go_simp; refine hK _ ?_; clear hK K))
      (first | (refine calm_yes rfl rfl (fun w' hC => (by go_simp; rfl)) (fun K hK => ?_); go_simp; refine hK _ ?_; clear hK K) | (refine calm_no rfl rfl (fun K hK => ?_); go_simp; refine hK _ ?_; clear hK K))
      (first | (refine calm_yes rfl rfl (fun w' hC => (by go_simp; rfl)) (fun K hK => ?_); go_simp; refine hK _ ?_; clear hK K) | (refine calm_no rfl rfl (fun K hK => ?_); go_simp; refine hK _ ?_; clear hK K))
      (first | (refine calm_yes rfl rfl (fun w' hC => (by go_simp; rfl)) (fun K hK => ?_); go_simp; refine hK _ ?_; clear hK K) | (refine calm_no rfl rfl (fun K hK => ?_); go_simp; refine hK _ ?_; clear hK K))
      (first | (refine calm_yes rfl rfl (fun w' hC => (by go_simp; rfl)) (fun K hK => ?_); go_simp; refine hK _ ?_; clear hK K) | (refine calm_no rfl rfl (fun K hK => ?_); go_simp; refine hK _ ?_; clear hK K))
      (first | (refine calm_yes rfl rfl (fun w' hC => (by go_simp; rfl)) (fun K hK => ?_); go_simp; refine hK _ ?_; clear hK K) | (refine calm_no rfl rfl (fun K hK => ?_); go_simp; refine hK _ ?_; clear hK K))
      (first | (refine calm_yes rfl rfl (fun w' hC => (by go_simp; rfl)) (fun K hK => ?_); go_simp; refine hK _ ?_; clear hK K) | (refine calm_no rfl rfl (fun K hK => ?_); go_simp; refine hK _ ?_; clear hK K))
      (first | (refine calm_yes rfl rfl (fun w' hC => (by go_simp; rfl)) (fun K hK => ?_); go_simp; refine hK _ ?_; clear hK K) | (refine calm_no rfl rfl (fun K hK => ?_); go_simp; refine hK _ ?_; clear hK K))
      (first | (refine calm_yes rfl rfl (fun w' hC => (by go_simp; rfl)) (fun K hK => ?_); go_simp; refine hK _ ?_; clear hK K) | (refine calm_no rfl rfl (fun K hK => ?_); go_simp; refine hK _ ?_; clear hK K))
      (first | (refine calm_yes rfl rfl (fun w' hC => (by go_simp; rfl)) (fun K hK => ?_); go_simp; refine hK _ ?_; clear hK K) | (refine calm_no rfl rfl (fun K hK => ?_); go_simp; refine hK _ ?_; clear hK K))
      (first | (refine calm_yes rfl rfl (fun w' hC => (by go_simp; rfl)) (fun K hK => ?_); go_simp; refine hK _ ?_; clear hK K) | (refine calm_no rfl rfl (fun K hK => ?_); go_simp; refine hK _ ?_; clear hK K))
      (first | (refine calm_yes rfl rfl (fun w' hC => (by go_simp; rfl)) (fun K hK => ?_); go_simp; refine hK _ ?_; clear hK K) | (refine calm_no rfl rfl (fun K hK => ?_); go_simp; refine hK _ ?_; clear hK K))
      (first | (refine calm_yes rfl rfl (fun w' hC => (by go_simp; rfl)) (fun K hK => ?_); go_simp; refine hK _ ?_; clear hK K) | (refine calm_no rfl rfl (fun K hK => ?_); go_simp; refine hK _ ?_; clear hK K))
      (first | (refine calm_yes rfl rfl (fun w' hC => (by go_simp; rfl)) (fun K hK => ?_); go_simp; refine hK _ ?_; clear hK K) | (refine calm_no rfl rfl (fun K hK => ?_); go_simp; refine hK _ ?_; clear hK K))
      (first | (refine calm_yes rfl rfl (fun w' hC => (by go_simp; rfl)) (fun K hK => ?_); go_simp; refine hK _ ?_; clear hK K) | (refine calm_no rfl rfl (fun K hK => ?_); go_simp; refine hK _ ?_; clear hK K))
      (first | (refine calm_yes rfl rfl (fun w' hC => (by go_simp; rfl)) (fun K hK => ?_); go_simp; refine hK _ ?_; clear hK K) | (refine calm_no rfl rfl (fun K hK => ?_); go_simp; refine hK _ ?_; clear hK K))
      (first | (refine calm_yes rfl rfl (fun w' hC => (by go_simp; rfl)) (fun K hK => ?_); go_simp; refine hK _ ?_; clear hK K) | (refine calm_no rfl rfl (fun K hK => ?_); go_simp; refine hK _ ?_; clear hK K))
      (first | (refine calm_yes rfl rfl (fun w' hC => (by go_simp; rfl)) (fun K hK => ?_); go_simp; refine hK _ ?_; clear hK K) | (refine calm_no rfl rfl (fun K hK => ?_); go_simp; refine hK _ ?_; clear hK K))
      (first | (refine calm_yes rfl rfl (fun w' hC => (by go_simp; rfl)) (fun K hK => ?_); go_simp; refine hK _ ?_; clear hK K) | (refine calm_no rfl rfl (fun K hK => ?_); go_simp; refine hK _ ?_; clear hK K))
      (first | (refine calm_yes rfl rfl (fun w' hC => (by go_simp; rfl)) (fun K hK => ?_); go_simp; refine hK _ ?_; clear hK K) | (refine calm_no rfl rfl (fun K hK => ?_); go_simp; refine hK _ ?_; clear hK K))
      (first | (refine calm_yes rfl rfl (fun w' hC => (by go_simp; rfl)) (fun K hK => ?_); go_simp; refine hK _ ?_; clear hK K) | (refine calm_no rfl rfl (fun K hK => ?_); go_simp; refine hK _ ?_; clear hK K))
      (first | (refine calm_yes rfl rfl (fun w' hC => (by go_simp; rfl)) (fun K hK => ?_); go_simp; refine hK _ ?_; clear hK K) | (refine calm_no rfl rfl (fun K hK => ?_); go_simp; refine hK _ ?_; clear hK K))
      (first | (refine calm_yes rfl rfl (fun w' hC => (by go_simp; rfl)) (fun K hK => ?_); go_simp; refine hK _ ?_; clear hK K) | (refine calm_no rfl rfl (fun K hK => ?_); go_simp; refine hK _ ?_; clear hK K))
      (first | (refine calm_yes rfl rfl (fun w' hC => (by go_simp; rfl)) (fun K hK => ?_); go_simp; refine hK _ ?_; clear hK K) | (refine calm_no rfl rfl (fun K hK => ?_); go_simp; refine hK _ ?_; clear hK K))
      (first | (refine calm_yes rfl rfl (fun w' hC => (by go_simp; rfl)) (fun K hK => ?_); go_simp; refine hK _ ?_; clear hK K) | (refine calm_no rfl rfl (fun K hK => ?_); go_simp; refine hK _ ?_; clear hK K))
      (first | (refine calm_yes rfl rfl (fun w' hC => (by go_simp; rfl)) (fun K hK => ?_); go_simp; refine hK _ ?_; clear hK K) | (refine calm_no rfl rfl (fun K hK => ?_); go_simp; refine hK _ ?_; clear hK K))
      (first | (refine calm_yes rfl rfl (fun w' hC => (by go_simp; rfl)) (fun K hK => ?_); go_simp; refine hK _ ?_; clear hK K) | (refine calm_no rfl rfl (fun K hK => ?_); go_simp; refine hK _ ?_; clear hK K))
      (first | (refine calm_yes rfl rfl (fun w' hC => (by go_simp; rfl)) (fun K hK => ?_); go_simp; refine hK _ ?_; clear hK K) | (refine calm_no rfl rfl (fun K hK => ?_); go_simp; refine hK _ ?_; clear hK K))
      (first | (refine calm_yes rfl rfl (fun w' hC => (by go_simp; rfl)) (fun K hK => ?_); go_simp; refine hK _ ?_; clear hK K) | (refine calm_no rfl rfl (fun K hK => ?_); go_simp; refine hK _ ?_; clear hK K))
      (first | (refine calm_yes rfl rfl (fun w' hC => (by go_simp; rfl)) (fun K hK => ?_); go_simp; refine hK _ ?_; clear hK K) | (refine calm_no rfl rfl (fun K hK => ?_); go_simp; refine hK _ ?_; clear hK K))
      (first | (refine calm_yes rfl rfl (fun w' hC => (by go_simp; rfl)) (fun K hK => ?_); go_simp; refine hK _ ?_; clear hK K) | (refine calm_no rfl rfl (fun K hK => ?_); go_simp; refine hK _ ?_; clear hK K))
      (first | (refine calm_yes rfl rfl (fun w' hC => (by go_simp; rfl)) (fun K hK => ?_); go_simp; refine hK _ ?_; clear hK K) | (refine calm_no rfl rfl (fun K hK => ?_); go_simp; refine hK _ ?_; clear hK K))
      refine calm_done (fun w4 hb => ?_)
      replace E := Lib.hid (Ext.trans E.out hb)
      replace P1 := Lib.hid (P1.out.ext ptR_stab hb)
      replace Q2 := Lib.hid (Q2.out.ext rgR_stab hb)
      replace Q3 := Lib.hid (Q3.out.ext rgR_stab hb)
      clear hb
      go_wp2_with fail
      refine (c_equalRings A2 A3 cap2 cap3 rs _ Q2.out Q3.out (by omega) Hq.out).mono ?_
      rintro e w5 ⟨rfl, hb⟩
      replace E := Lib.hid (Ext.trans E.out hb)
      replace P1 := Lib.hid (P1.out.ext ptR_stab hb)
      replace Q2 := Lib.hid (Q2.out.ext rgR_stab hb)
      replace Q3 := Lib.hid (Q3.out.ext rgR_stab hb)
      clear hb
      go_wp2
      go_ret
      exact ⟨rfl, E.out⟩
    have hl2I : ¬ (r.length : Int) < 2 := by omega
    have hl2d : decide ((r.length : Int) < 2) = false := by simp; omega
    have hy := HY.out rfl
    have Hrs : Hid (rs = strokesL hf r) := Lib.hid (by simpa using congrArg Prod.fst hy.1)
    have Hok := Lib.hid (strokeOk_iff.1 hy.2.1)
    have Hrg := Lib.hid hy.2.2
    clear hy
    have hl0 : 0 < r.length := by omega
    have hl1 : 1 < r.length := by omega
    have Hfst : Hid (r[0] ≠ r[1] → ∃ rest, rs = barL r[0] r[1] hf :: rest) := Lib.hid (fun hne => by
      rw [Hrs.out]; exact strokesL_cons hl1 hne)
    obtain ⟨bb, off, hA, _, hc⟩ := P1.out.pts hl0
    subst hA
    have c0 := hc 0 hl0
    have c1 := hc 1 hl1
    simp only [Nat.zero_mul, Nat.one_mul, Nat.add_zero, Nat.add_assoc, Nat.reduceAdd] at c0 c1
    obtain ⟨ax, ay⟩ := c0
    obtain ⟨bx, bY⟩ := c1
    have Ax := Lib.hid ax
    have Ay := Lib.hid ay
    have Bx := Lib.hid bx
    have By := Lib.hid bY
    have va := psB_at Hok.out.1 hl0
    have vb := psB_at Hok.out.1 hl1
    clear hc ax ay bx bY
    generalize r[0] = a at *
    generalize r[1] = b at *
    obtain ⟨x0, y0⟩ := a
    obtain ⟨x1, y1⟩ := b
    dsimp only at Ax Ay Bx By va vb
    have i0 : (0 : Int) < (r.length : Int) := by omega
    have i1 : (1 : Int) < (r.length : Int) := by omega
    have cAx := Ax.out
    have cAy := Ay.out
    have cBx := Bx.out
    have cBy := By.out
    by_cases hyy : y0 = y1
    · by_cases hxx : x0 = x1
      · have e1 : (y0 != y1) = false := by simp [hyy]
        have e2 : (x0 == x1) = true := by simp [hxx]
        clear hyy hxx
        go_wp2_with fail
        refine wp_region_calm [0,1,2,3,4,5,6,7,8,9,10,11,12,13,14,15,16,17,18,19,20,21,22,23,24,25,26,27,28,29,30,31,32,33,34,35,36,37,38,39] [] (by kernel_rfl) (by kernel_rfl) ?_
        (first | (refine calm_yes rfl rfl (fun w' hC => (by have cAx := hC.cell cAx; have cAy := hC.cell cAy; have cBx := hC.cell cBx; have cBy := hC.cell cBy; go_simp; rfl)) (fun K hK => ?_); go_simp; refine hK _ ?_; clear hK K) | (refine calm_no rfl rfl (fun K hK => ?_); go_simp; refine hK _ ?_; clear hK K))
        (first | (refine calm_yes rfl rfl (fun w' hC => (by have cAx := hC.cell cAx; have cAy := hC.cell cAy; have cBx := hC.cell cBx; have cBy := hC.cell cBy; go_simp; rfl)) (fun K hK => ?_); go_simp; refine hK _ ?_; clear hK K) | (refine calm_no rfl rfl (fun K hK => ?_); go_simp; refine hK _ ?_; clear hK K))
        (apply calm_call rfl rfl rfl Try.func15 (by kernel_rfl) rfl (by go_simp; rfl); exact (fun w' hC => c_equalRings A2 A3 cap2 cap3 rs w' (Q2.out.ext rgR_stab (ext_cls hC)) (Q3.out.ext rgR_stab (ext_cls hC)) hrsM Hq.out); intro K hK; go_simp; refine hK _ ?_; clear hK K)
        (first | (refine calm_yes rfl rfl (fun w' hC => (by have cAx := hC.cell cAx; have cAy := hC.cell cAy; have cBx := hC.cell cBx; have cBy := hC.cell cBy; go_simp; rfl)) (fun K hK => ?_); go_simp; refine hK _ ?_; clear hK K) | (refine calm_no rfl rfl (fun K hK => ?_); go_simp; refine hK _ ?_; clear hK K))
        (first | (refine calm_yes rfl rfl (fun w' hC => (by have cAx := hC.cell cAx; have cAy := hC.cell cAy; have cBx := hC.cell cBx; have cBy := hC.cell cBy; go_simp; rfl)) (fun K hK => ?_); go_simp; refine hK _ ?_; clear hK K) | (refine calm_no rfl rfl (fun K hK => ?_); go_simp; refine hK _ ?_; clear hK K))
        (first | (refine calm_yes rfl rfl (fun w' hC => (by have cAx := hC.cell cAx; have cAy := hC.cell cAy; have cBx := hC.cell cBx; have cBy := hC.cell cBy; go_simp; rfl)) (fun K hK => ?_); go_simp; refine hK _ ?_; clear hK K) | (refine calm_no rfl rfl (fun K hK => ?_); go_simp; refine hK _ ?_; clear hK K))
        (first | (refine calm_yes rfl rfl (fun w' hC => (by have cAx := hC.cell cAx; have cAy := hC.cell cAy; have cBx := hC.cell cBx; have cBy := hC.cell cBy; go_simp; rfl)) (fun K hK => ?_); go_simp; refine hK _ ?_; clear hK K) | (refine calm_no rfl rfl (fun K hK => ?_); go_simp; refine hK _ ?_; clear hK K))
        (first | (refine calm_yes rfl rfl (fun w' hC => (by have cAx := hC.cell cAx; have cAy := hC.cell cAy; have cBx := hC.cell cBx; have cBy := hC.cell cBy; go_simp; rfl)) (fun K hK => ?_); go_simp; refine hK _ ?_; clear hK K) | (refine calm_no rfl rfl (fun K hK => ?_); go_simp; refine hK _ ?_; clear hK K))
        (first | (refine calm_yes rfl rfl (fun w' hC => (by have cAx := hC.cell cAx; have cAy := hC.cell cAy; have cBx := hC.cell cBx; have cBy := hC.cell cBy; go_simp; rfl)) (fun K hK => ?_); go_simp; refine hK _ ?_; clear hK K) | (refine calm_no rfl rfl (fun K hK => ?_); go_simp; refine hK _ ?_; clear hK K))
        (first | (refine calm_yes rfl rfl (fun w' hC => (by have cAx := hC.cell cAx; have cAy := hC.cell cAy; have cBx := hC.cell cBx; have cBy := hC.cell cBy; go_simp; rfl)) (fun K hK => ?_); go_simp; refine hK _ ?_; clear hK K) | (refine calm_no rfl rfl (fun K hK => ?_); go_simp; refine hK _ ?_; clear hK K))
        (first | (refine calm_yes rfl rfl (fun w' hC => (by have cAx := hC.cell cAx; have cAy := hC.cell cAy; have cBx := hC.cell cBx; have cBy := hC.cell cBy; go_simp; rfl)) (fun K hK => ?_); go_simp; refine hK _ ?_; clear hK K) | (refine calm_no rfl rfl (fun K hK => ?_); go_simp; refine hK _ ?_; clear hK K))
        (first | (refine calm_yes rfl rfl (fun w' hC => (by have cAx := hC.cell cAx; have cAy := hC.cell cAy; have cBx := hC.cell cBx; have cBy := hC.cell cBy; go_simp; rfl)) (fun K hK => ?_); go_simp; refine hK _ ?_; clear hK K) | (refine calm_no rfl rfl (fun K hK => ?_); go_simp; refine hK _ ?_; clear hK K))
        (first | (refine calm_yes rfl rfl (fun w' hC => (by have cAx := hC.cell cAx; have cAy := hC.cell cAy; have cBx := hC.cell cBx; have cBy := hC.cell cBy; go_simp; rfl)) (fun K hK => ?_); go_simp; refine hK _ ?_; clear hK K) | (refine calm_no rfl rfl (fun K hK => ?_); go_simp; refine hK _ ?_; clear hK K))
        (first | (refine calm_yes rfl rfl (fun w' hC => (by have cAx := hC.cell cAx; have cAy := hC.cell cAy; have cBx := hC.cell cBx; have cBy := hC.cell cBy; go_simp; rfl)) (fun K hK => ?_); go_simp; refine hK _ ?_; clear hK K) | (refine calm_no rfl rfl (fun K hK => ?_); go_simp; refine hK _ ?_; clear hK K))
        (first | (refine calm_yes rfl rfl (fun w' hC => (by have cAx := hC.cell cAx; have cAy := hC.cell cAy; have cBx := hC.cell cBx; have cBy := hC.cell cBy; go_simp; rfl)) (fun K hK => ?_); go_simp; refine hK _ ?_; clear hK K) | (refine calm_no rfl rfl (fun K hK => ?_); go_simp; refine hK _ ?_; clear hK K))
        (first | (refine calm_yes rfl rfl (fun w' hC => (by have cAx := hC.cell cAx; have cAy := hC.cell cAy; have cBx := hC.cell cBx; have cBy := hC.cell cBy; go_simp; rfl)) (fun K hK => ?_); go_simp; refine hK _ ?_; clear hK K) | (refine calm_no rfl rfl (fun K hK => ?_); go_simp; refine hK _ ?_; clear hK K))
        (first | (refine calm_yes rfl rfl (fun w' hC => (by have cAx := hC.cell cAx; have cAy := hC.cell cAy; have cBx := hC.cell cBx; have cBy := hC.cell cBy; go_simp; rfl)) (fun K hK => ?_); go_simp; refine hK _ ?_; clear hK K) | (refine calm_no rfl rfl (fun K hK => ?_); go_simp; refine hK _ ?_; clear hK K))
        (first | (refine calm_yes rfl rfl (fun w' hC => (by have cAx := hC.cell cAx; have cAy := hC.cell cAy; have cBx := hC.cell cBx; have cBy := hC.cell cBy; go_simp; rfl)) (fun K hK => ?_); go_simp; refine hK _ ?_; clear hK K) | (refine calm_no rfl rfl (fun K hK => ?_); go_simp; refine hK _ ?_; clear hK K))
        (first | (refine calm_yes rfl rfl (fun w' hC => (by have cAx := hC.cell cAx; have cAy := hC.cell cAy; have cBx := hC.cell cBx; have cBy := hC.cell cBy; go_simp; rfl)) (fun K hK => ?_); go_simp; refine hK _ ?_; clear hK K) | (refine calm_no rfl rfl (fun K hK => ?_); go_simp; refine hK _ ?_; clear hK K))
        (first | (refine calm_yes rfl rfl (fun w' hC => (by have cAx := hC.cell cAx; have cAy := hC.cell cAy; have cBx := hC.cell cBx; have cBy := hC.cell cBy; go_simp; rfl)) (fun K hK => ?_); go_simp; refine hK _ ?_; clear hK K) | (refine calm_no rfl rfl (fun K hK => ?_); go_simp; refine hK _ ?_; clear hK K))
        (first | (refine calm_yes rfl rfl (fun w' hC => (by have cAx := hC.cell cAx; have cAy := hC.cell cAy; have cBx := hC.cell cBx; have cBy := hC.cell cBy; go_simp; rfl)) (fun K hK => ?_); go_simp; refine hK _ ?_; clear hK K) | (refine calm_no rfl rfl (fun K hK => ?_); go_simp; refine hK _ ?_; clear hK K))
        (first | (refine calm_yes rfl rfl (fun w' hC => (by have cAx := hC.cell cAx; have cAy := hC.cell cAy; have cBx := hC.cell cBx; have cBy := hC.cell cBy; go_simp; rfl)) (fun K hK => ?_); go_simp; refine hK _ ?_; clear hK K) | (refine calm_no rfl rfl (fun K hK => ?_); go_simp; refine hK _ ?_; clear hK K))
        (first | (refine calm_yes rfl rfl (fun w' hC => (by have cAx := hC.cell cAx; have cAy := hC.cell cAy; have cBx := hC.cell cBx; have cBy := hC.cell cBy; go_simp; rfl)) (fun K hK => ?_); go_simp; refine hK _ ?_; clear hK K) | (refine calm_no rfl rfl (fun K hK => ?_); go_simp; refine hK _ ?_; clear hK K))
        (first | (refine calm_yes rfl rfl (fun w' hC => (by have cAx := hC.cell cAx; have cAy := hC.cell cAy; have cBx := hC.cell cBx; have cBy := hC.cell cBy; go_simp; rfl)) (fun K hK => ?_); go_simp; refine hK _ ?_; clear hK K) | (refine calm_no rfl rfl (fun K hK => ?_); go_simp; refine hK _ ?_; clear hK K))
        (first | (refine calm_yes rfl rfl (fun w' hC => (by have cAx := hC.cell cAx; have cAy := hC.cell cAy; have cBx := hC.cell cBx; have cBy := hC.cell cBy; go_simp; rfl)) (fun K hK => ?_); go_simp; refine hK _ ?_; clear hK K) | (refine calm_no rfl rfl (fun K hK => ?_); go_simp; refine hK _ ?_; clear hK K))
        (first | (refine calm_yes rfl rfl (fun w' hC => (by have cAx := hC.cell cAx; have cAy := hC.cell cAy; have cBx := hC.cell cBx; have cBy := hC.cell cBy; go_simp; rfl)) (fun K hK => ?_); go_simp; refine hK _ ?_; clear hK K) | (refine calm_no rfl rfl (fun K hK => ?_); go_simp; refine hK _ ?_; clear hK K))
        (first | (refine calm_yes rfl rfl (fun w' hC => (by have cAx := hC.cell cAx; have cAy := hC.cell cAy; have cBx := hC.cell cBx; have cBy := hC.cell cBy; go_simp; rfl)) (fun K hK => ?_); go_simp; refine hK _ ?_; clear hK K) | (refine calm_no rfl rfl (fun K hK => ?_); go_simp; refine hK _ ?_; clear hK K))
        (first | (refine calm_yes rfl rfl (fun w' hC => (by have cAx := hC.cell cAx; have cAy := hC.cell cAy; have cBx := hC.cell cBx; have cBy := hC.cell cBy; go_simp; rfl)) (fun K hK => ?_); go_simp; refine hK _ ?_; clear hK K) | (refine calm_no rfl rfl (fun K hK => ?_); go_simp; refine hK _ ?_; clear hK K))
        (first | (refine calm_yes rfl rfl (fun w' hC => (by have cAx := hC.cell cAx; have cAy := hC.cell cAy; have cBx := hC.cell cBx; have cBy := hC.cell cBy; go_simp; rfl)) (fun K hK => ?_); go_simp; refine hK _ ?_; clear hK K) | (refine calm_no rfl rfl (fun K hK => ?_); go_simp; refine hK _ ?_; clear hK K))
        (first | (refine calm_yes rfl rfl (fun w' hC => (by have cAx := hC.cell cAx; have cAy := hC.cell cAy; have cBx := hC.cell cBx; have cBy := hC.cell cBy; go_simp; rfl)) (fun K hK => ?_); go_simp; refine hK _ ?_; clear hK K) | (refine calm_no rfl rfl (fun K hK => ?_); go_simp; refine hK _ ?_; clear hK K))
        (first | (refine calm_yes rfl rfl (fun w' hC => (by have cAx := hC.cell cAx; have cAy := hC.cell cAy; have cBx := hC.cell cBx; have cBy := hC.cell cBy; go_simp; rfl)) (fun K hK => ?_); go_simp; refine hK _ ?_; clear hK K) | (refine calm_no rfl rfl (fun K hK => ?_); go_simp; refine hK _ ?_; clear hK K))
        (first | (refine calm_yes rfl rfl (fun w' hC => (by have cAx := hC.cell cAx; have cAy := hC.cell cAy; have cBx := hC.cell cBx; have cBy := hC.cell cBy; go_simp; rfl)) (fun K hK => ?_); go_simp; refine hK _ ?_; clear hK K) | (refine calm_no rfl rfl (fun K hK => ?_); go_simp; refine hK _ ?_; clear hK K))
        (first | (refine calm_yes rfl rfl (fun w' hC => (by have cAx := hC.cell cAx; have cAy := hC.cell cAy; have cBx := hC.cell cBx; have cBy := hC.cell cBy; go_simp; rfl)) (fun K hK => ?_); go_simp; refine hK _ ?_; clear hK K) | (refine calm_no rfl rfl (fun K hK => ?_); go_simp; refine hK _ ?_; clear hK K))
        (first | (refine calm_yes rfl rfl (fun w' hC => (by have cAx := hC.cell cAx; have cAy := hC.cell cAy; have cBx := hC.cell cBx; have cBy := hC.cell cBy; go_simp; rfl)) (fun K hK => ?_); go_simp; refine hK _ ?_; clear hK K) | (refine calm_no rfl rfl (fun K hK => ?_); go_simp; refine hK _ ?_; clear hK K))
        (first | (refine calm_yes rfl rfl (fun w' hC => (by have cAx := hC.cell cAx; have cAy := hC.cell cAy; have cBx := hC.cell cBx; have cBy := hC.cell cBy; go_simp; rfl)) (fun K hK => ?_); go_simp; refine hK _ ?_; clear hK K) | (refine calm_no rfl rfl (fun K hK => ?_); go_simp; refine hK _ ?_; clear hK K))
        (first | (refine calm_yes rfl rfl (fun w' hC => (by have cAx := hC.cell cAx; have cAy := hC.cell cAy; have cBx := hC.cell cBx; have cBy := hC.cell cBy; go_simp; rfl)) (fun K hK => ?_); go_simp; refine hK _ ?_; clear hK K) | (refine calm_no rfl rfl (fun K hK => ?_); go_simp; refine hK _ ?_; clear hK K))
        (first | (refine calm_yes rfl rfl (fun w' hC => (by have cAx := hC.cell cAx; have cAy := hC.cell cAy; have cBx := hC.cell cBx; have cBy := hC.cell cBy; go_simp; rfl)) (fun K hK => ?_); go_simp; refine hK _ ?_; clear hK K) | (refine calm_no rfl rfl (fun K hK => ?_); go_simp; refine hK _ ?_; clear hK K))
        (first | (refine calm_yes rfl rfl (fun w' hC => (by have cAx := hC.cell cAx; have cAy := hC.cell cAy; have cBx := hC.cell cBx; have cBy := hC.cell cBy; go_simp; rfl)) (fun K hK => ?_); go_simp; refine hK _ ?_; clear hK K) | (refine calm_no rfl rfl (fun K hK => ?_); go_simp; refine hK _ ?_; clear hK K))
        (first | (refine calm_yes rfl rfl (fun w' hC => (by have cAx := hC.cell cAx; have cAy := hC.cell cAy; have cBx := hC.cell cBx; have cBy := hC.cell cBy; go_simp; rfl)) (fun K hK => ?_); go_simp; refine hK _ ?_; clear hK K) | (refine calm_no rfl rfl (fun K hK => ?_); go_simp; refine hK _ ?_; clear hK K))
        (first | (refine calm_yes rfl rfl (fun w' hC => (by have cAx := hC.cell cAx; have cAy := hC.cell cAy; have cBx := hC.cell cBx; have cBy := hC.cell cBy; go_simp; rfl)) (fun K hK => ?_); go_simp; refine hK _ ?_; clear hK K) | (refine calm_no rfl rfl (fun K hK => ?_); go_simp; refine hK _ ?_; clear hK K))
        refine calm_done (fun w4 hb => ?_)
        clear cAx cAy cBx cBy
        replace E := Lib.hid (Ext.trans E.out hb)
        replace Q2 := Lib.hid (Q2.out.ext rgR_stab hb)
        replace Q3 := Lib.hid (Q3.out.ext rgR_stab hb)
        replace Ax := Lib.hid (Cls.cell hb Ax.out)
        replace Ay := Lib.hid (Cls.cell hb Ay.out)
        replace Bx := Lib.hid (Cls.cell hb Bx.out)
        replace By := Lib.hid (Cls.cell hb By.out)
        clear hb
        have cAx := Ax.out
        have cAy := Ay.out
        have cBx := Bx.out
        have cBy := By.out
        go_wp2_with fail
        clear cAx cAy cBx cBy
        refine (c_equalRings A2 A3 cap2 cap3 rs _ Q2.out Q3.out (by omega) Hq.out).mono ?_
        rintro e w5 ⟨rfl, hb⟩
        replace E := Lib.hid (Ext.trans E.out hb)
        replace Q2 := Lib.hid (Q2.out.ext rgR_stab hb)
        replace Q3 := Lib.hid (Q3.out.ext rgR_stab hb)
        replace Ax := Lib.hid (Cls.cell hb Ax.out)
        replace Ay := Lib.hid (Cls.cell hb Ay.out)
        replace Bx := Lib.hid (Cls.cell hb Bx.out)
        replace By := Lib.hid (Cls.cell hb By.out)
        clear hb
        have cAx := Ax.out
        have cAy := Ay.out
        have cBx := Bx.out
        have cBy := By.out
        go_wp2
        go_ret
        exact ⟨rfl, E.out⟩
      · have e1 : (y0 != y1) = false := by simp [hyy]
        have e2 : (x0 == x1) = false := by simp [hxx]
        have Hxx := Lib.hid hxx
        have Hyy := Lib.hid hyy
        clear hyy hxx
        go_wp2_with fail
        refine wp_region_calm [0,1,2,3,4,5,6,7,8,9,10,11,12,13,14,15,16,17,18,19,20,21,22,23,24,25,26,27,28,29,30,31,32,33,34,35,36,37,38,39] [] (by kernel_rfl) (by kernel_rfl) ?_
        (first | (refine calm_yes rfl rfl (fun w' hC => (by have cAx := hC.cell cAx; have cAy := hC.cell cAy; have cBx := hC.cell cBx; have cBy := hC.cell cBy; go_simp; rfl)) (fun K hK => ?_); go_simp; refine hK _ ?_; clear hK K) | (refine calm_no rfl rfl (fun K hK => ?_); go_simp; refine hK _ ?_; clear hK K))
        (first | (refine calm_yes rfl rfl (fun w' hC => (by have cAx := hC.cell cAx; have cAy := hC.cell cAy; have cBx := hC.cell cBx; have cBy := hC.cell cBy; go_simp; rfl)) (fun K hK => ?_); go_simp; refine hK _ ?_; clear hK K) | (refine calm_no rfl rfl (fun K hK => ?_); go_simp; refine hK _ ?_; clear hK K))
        (apply calm_call rfl rfl rfl Try.func15 (by kernel_rfl) rfl (by go_simp; rfl); exact (fun w' hC => c_equalRings A2 A3 cap2 cap3 rs w' (Q2.out.ext rgR_stab (ext_cls hC)) (Q3.out.ext rgR_stab (ext_cls hC)) hrsM Hq.out); intro K hK; go_simp; refine hK _ ?_; clear hK K)
        (first | (refine calm_yes rfl rfl (fun w' hC => (by have cAx := hC.cell cAx; have cAy := hC.cell cAy; have cBx := hC.cell cBx; have cBy := hC.cell cBy; go_simp; rfl)) (fun K hK => ?_); go_simp; refine hK _ ?_; clear hK K) | (refine calm_no rfl rfl (fun K hK => ?_); go_simp; refine hK _ ?_; clear hK K))
        (first | (refine calm_yes rfl rfl (fun w' hC => (by have cAx := hC.cell cAx; have cAy := hC.cell cAy; have cBx := hC.cell cBx; have cBy := hC.cell cBy; go_simp; rfl)) (fun K hK => ?_); go_simp; refine hK _ ?_; clear hK K) | (refine calm_no rfl rfl (fun K hK => ?_); go_simp; refine hK _ ?_; clear hK K))
        (first | (refine calm_yes rfl rfl (fun w' hC => (by have cAx := hC.cell cAx; have cAy := hC.cell cAy; have cBx := hC.cell cBx; have cBy := hC.cell cBy; go_simp; rfl)) (fun K hK => ?_); go_simp; refine hK _ ?_; clear hK K) | (refine calm_no rfl rfl (fun K hK => ?_); go_simp; refine hK _ ?_; clear hK K))
        (first | (refine calm_yes rfl rfl (fun w' hC => (by have cAx := hC.cell cAx; have cAy := hC.cell cAy; have cBx := hC.cell cBx; have cBy := hC.cell cBy; go_simp; rfl)) (fun K hK => ?_); go_simp; refine hK _ ?_; clear hK K) | (refine calm_no rfl rfl (fun K hK => ?_); go_simp; refine hK _ ?_; clear hK K))
        (first | (refine calm_yes rfl rfl (fun w' hC => (by have cAx := hC.cell cAx; have cAy := hC.cell cAy; have cBx := hC.cell cBx; have cBy := hC.cell cBy; go_simp; rfl)) (fun K hK => ?_); go_simp; refine hK _ ?_; clear hK K) | (refine calm_no rfl rfl (fun K hK => ?_); go_simp; refine hK _ ?_; clear hK K))
        (first | (refine calm_yes rfl rfl (fun w' hC => (by have cAx := hC.cell cAx; have cAy := hC.cell cAy; have cBx := hC.cell cBx; have cBy := hC.cell cBy; go_simp; rfl)) (fun K hK => ?_); go_simp; refine hK _ ?_; clear hK K) | (refine calm_no rfl rfl (fun K hK => ?_); go_simp; refine hK _ ?_; clear hK K))
        (first | (refine calm_yes rfl rfl (fun w' hC => (by have cAx := hC.cell cAx; have cAy := hC.cell cAy; have cBx := hC.cell cBx; have cBy := hC.cell cBy; go_simp; rfl)) (fun K hK => ?_); go_simp; refine hK _ ?_; clear hK K) | (refine calm_no rfl rfl (fun K hK => ?_); go_simp; refine hK _ ?_; clear hK K))
        (first | (refine calm_yes rfl rfl (fun w' hC => (by have cAx := hC.cell cAx; have cAy := hC.cell cAy; have cBx := hC.cell cBx; have cBy := hC.cell cBy; go_simp; rfl)) (fun K hK => ?_); go_simp; refine hK _ ?_; clear hK K) | (refine calm_no rfl rfl (fun K hK => ?_); go_simp; refine hK _ ?_; clear hK K))
        (first | (refine calm_yes rfl rfl (fun w' hC => (by have cAx := hC.cell cAx; have cAy := hC.cell cAy; have cBx := hC.cell cBx; have cBy := hC.cell cBy; go_simp; rfl)) (fun K hK => ?_); go_simp; refine hK _ ?_; clear hK K) | (refine calm_no rfl rfl (fun K hK => ?_); go_simp; refine hK _ ?_; clear hK K))
        (first | (refine calm_yes rfl rfl (fun w' hC => (by have cAx := hC.cell cAx; have cAy := hC.cell cAy; have cBx := hC.cell cBx; have cBy := hC.cell cBy; go_simp; rfl)) (fun K hK => ?_); go_simp; refine hK _ ?_; clear hK K) | (refine calm_no rfl rfl (fun K hK => ?_); go_simp; refine hK _ ?_; clear hK K))
        (first | (refine calm_yes rfl rfl (fun w' hC => (by have cAx := hC.cell cAx; have cAy := hC.cell cAy; have cBx := hC.cell cBx; have cBy := hC.cell cBy; go_simp; rfl)) (fun K hK => ?_); go_simp; refine hK _ ?_; clear hK K) | (refine calm_no rfl rfl (fun K hK => ?_); go_simp; refine hK _ ?_; clear hK K))
        (first | (refine calm_yes rfl rfl (fun w' hC => (by have cAx := hC.cell cAx; have cAy := hC.cell cAy; have cBx := hC.cell cBx; have cBy := hC.cell cBy; go_simp; rfl)) (fun K hK => ?_); go_simp; refine hK _ ?_; clear hK K) | (refine calm_no rfl rfl (fun K hK => ?_); go_simp; refine hK _ ?_; clear hK K))
        (first | (refine calm_yes rfl rfl (fun w' hC => (by have cAx := hC.cell cAx; have cAy := hC.cell cAy; have cBx := hC.cell cBx; have cBy := hC.cell cBy; go_simp; rfl)) (fun K hK => ?_); go_simp; refine hK _ ?_; clear hK K) | (refine calm_no rfl rfl (fun K hK => ?_); go_simp; refine hK _ ?_; clear hK K))
        (first | (refine calm_yes rfl rfl (fun w' hC => (by have cAx := hC.cell cAx; have cAy := hC.cell cAy; have cBx := hC.cell cBx; have cBy := hC.cell cBy; go_simp; rfl)) (fun K hK => ?_); go_simp; refine hK _ ?_; clear hK K) | (refine calm_no rfl rfl (fun K hK => ?_); go_simp; refine hK _ ?_; clear hK K))
        (first | (refine calm_yes rfl rfl (fun w' hC => (by have cAx := hC.cell cAx; have cAy := hC.cell cAy; have cBx := hC.cell cBx; have cBy := hC.cell cBy; go_simp; rfl)) (fun K hK => ?_); go_simp; refine hK _ ?_; clear hK K) | (refine calm_no rfl rfl (fun K hK => ?_); go_simp; refine hK _ ?_; clear hK K))
        (first | (refine calm_yes rfl rfl (fun w' hC => (by have cAx := hC.cell cAx; have cAy := hC.cell cAy; have cBx := hC.cell cBx; have cBy := hC.cell cBy; go_simp; rfl)) (fun K hK => ?_); go_simp; refine hK _ ?_; clear hK K) | (refine calm_no rfl rfl (fun K hK => ?_); go_simp; refine hK _ ?_; clear hK K))
        (first | (refine calm_yes rfl rfl (fun w' hC => (by have cAx := hC.cell cAx; have cAy := hC.cell cAy; have cBx := hC.cell cBx; have cBy := hC.cell cBy; go_simp; rfl)) (fun K hK => ?_); go_simp; refine hK _ ?_; clear hK K) | (refine calm_no rfl rfl (fun K hK => ?_); go_simp; refine hK _ ?_; clear hK K))
        (first | (refine calm_yes rfl rfl (fun w' hC => (by have cAx := hC.cell cAx; have cAy := hC.cell cAy; have cBx := hC.cell cBx; have cBy := hC.cell cBy; go_simp; rfl)) (fun K hK => ?_); go_simp; refine hK _ ?_; clear hK K) | (refine calm_no rfl rfl (fun K hK => ?_); go_simp; refine hK _ ?_; clear hK K))
        (first | (refine calm_yes rfl rfl (fun w' hC => (by have cAx := hC.cell cAx; have cAy := hC.cell cAy; have cBx := hC.cell cBx; have cBy := hC.cell cBy; go_simp; rfl)) (fun K hK => ?_); go_simp; refine hK _ ?_; clear hK K) | (refine calm_no rfl rfl (fun K hK => ?_); go_simp; refine hK _ ?_; clear hK K))
        (first | (refine calm_yes rfl rfl (fun w' hC => (by have cAx := hC.cell cAx; have cAy := hC.cell cAy; have cBx := hC.cell cBx; have cBy := hC.cell cBy; go_simp; rfl)) (fun K hK => ?_); go_simp; refine hK _ ?_; clear hK K) | (refine calm_no rfl rfl (fun K hK => ?_); go_simp; refine hK _ ?_; clear hK K))
        (first | (refine calm_yes rfl rfl (fun w' hC => (by have cAx := hC.cell cAx; have cAy := hC.cell cAy; have cBx := hC.cell cBx; have cBy := hC.cell cBy; go_simp; rfl)) (fun K hK => ?_); go_simp; refine hK _ ?_; clear hK K) | (refine calm_no rfl rfl (fun K hK => ?_); go_simp; refine hK _ ?_; clear hK K))
        (first | (refine calm_yes rfl rfl (fun w' hC => (by have cAx := hC.cell cAx; have cAy := hC.cell cAy; have cBx := hC.cell cBx; have cBy := hC.cell cBy; go_simp; rfl)) (fun K hK => ?_); go_simp; refine hK _ ?_; clear hK K) | (refine calm_no rfl rfl (fun K hK => ?_); go_simp; refine hK _ ?_; clear hK K))
        (first | (refine calm_yes rfl rfl (fun w' hC => (by have cAx := hC.cell cAx; have cAy := hC.cell cAy; have cBx := hC.cell cBx; have cBy := hC.cell cBy; go_simp; rfl)) (fun K hK => ?_); go_simp; refine hK _ ?_; clear hK K) | (refine calm_no rfl rfl (fun K hK => ?_); go_simp; refine hK _ ?_; clear hK K))
        (first | (refine calm_yes rfl rfl (fun w' hC => (by have cAx := hC.cell cAx; have cAy := hC.cell cAy; have cBx := hC.cell cBx; have cBy := hC.cell cBy; go_simp; rfl)) (fun K hK => ?_); go_simp; refine hK _ ?_; clear hK K) | (refine calm_no rfl rfl (fun K hK => ?_); go_simp; refine hK _ ?_; clear hK K))
        (first | (refine calm_yes rfl rfl (fun w' hC => (by have cAx := hC.cell cAx; have cAy := hC.cell cAy; have cBx := hC.cell cBx; have cBy := hC.cell cBy; go_simp; rfl)) (fun K hK => ?_); go_simp; refine hK _ ?_; clear hK K) | (refine calm_no rfl rfl (fun K hK => ?_); go_simp; refine hK _ ?_; clear hK K))
        (first | (refine calm_yes rfl rfl (fun w' hC => (by have cAx := hC.cell cAx; have cAy := hC.cell cAy; have cBx := hC.cell cBx; have cBy := hC.cell cBy; go_simp; rfl)) (fun K hK => ?_); go_simp; refine hK _ ?_; clear hK K) | (refine calm_no rfl rfl (fun K hK => ?_); go_simp; refine hK _ ?_; clear hK K))
        (first | (refine calm_yes rfl rfl (fun w' hC => (by have cAx := hC.cell cAx; have cAy := hC.cell cAy; have cBx := hC.cell cBx; have cBy := hC.cell cBy; go_simp; rfl)) (fun K hK => ?_); go_simp; refine hK _ ?_; clear hK K) | (refine calm_no rfl rfl (fun K hK => ?_); go_simp; refine hK _ ?_; clear hK K))
        (first | (refine calm_yes rfl rfl (fun w' hC => (by have cAx := hC.cell cAx; have cAy := hC.cell cAy; have cBx := hC.cell cBx; have cBy := hC.cell cBy; go_simp; rfl)) (fun K hK => ?_); go_simp; refine hK _ ?_; clear hK K) | (refine calm_no rfl rfl (fun K hK => ?_); go_simp; refine hK _ ?_; clear hK K))
        (first | (refine calm_yes rfl rfl (fun w' hC => (by have cAx := hC.cell cAx; have cAy := hC.cell cAy; have cBx := hC.cell cBx; have cBy := hC.cell cBy; go_simp; rfl)) (fun K hK => ?_); go_simp; refine hK _ ?_; clear hK K) | (refine calm_no rfl rfl (fun K hK => ?_); go_simp; refine hK _ ?_; clear hK K))
        (first | (refine calm_yes rfl rfl (fun w' hC => (by have cAx := hC.cell cAx; have cAy := hC.cell cAy; have cBx := hC.cell cBx; have cBy := hC.cell cBy; go_simp; rfl)) (fun K hK => ?_); go_simp; refine hK _ ?_; clear hK K) | (refine calm_no rfl rfl (fun K hK => ?_); go_simp; refine hK _ ?_; clear hK K))
        (first | (refine calm_yes rfl rfl (fun w' hC => (by have cAx := hC.cell cAx; have cAy := hC.cell cAy; have cBx := hC.cell cBx; have cBy := hC.cell cBy; go_simp; rfl)) (fun K hK => ?_); go_simp; refine hK _ ?_; clear hK K) | (refine calm_no rfl rfl (fun K hK => ?_); go_simp; refine hK _ ?_; clear hK K))
        (first | (refine calm_yes rfl rfl (fun w' hC => (by have cAx := hC.cell cAx; have cAy := hC.cell cAy; have cBx := hC.cell cBx; have cBy := hC.cell cBy; go_simp; rfl)) (fun K hK => ?_); go_simp; refine hK _ ?_; clear hK K) | (refine calm_no rfl rfl (fun K hK => ?_); go_simp; refine hK _ ?_; clear hK K))
        (first | (refine calm_yes rfl rfl (fun w' hC => (by have cAx := hC.cell cAx; have cAy := hC.cell cAy; have cBx := hC.cell cBx; have cBy := hC.cell cBy; go_simp; rfl)) (fun K hK => ?_); go_simp; refine hK _ ?_; clear hK K) | (refine calm_no rfl rfl (fun K hK => ?_); go_simp; refine hK _ ?_; clear hK K))
        (first | (refine calm_yes rfl rfl (fun w' hC => (by have cAx := hC.cell cAx; have cAy := hC.cell cAy; have cBx := hC.cell cBx; have cBy := hC.cell cBy; go_simp; rfl)) (fun K hK => ?_); go_simp; refine hK _ ?_; clear hK K) | (refine calm_no rfl rfl (fun K hK => ?_); go_simp; refine hK _ ?_; clear hK K))
        (first | (refine calm_yes rfl rfl (fun w' hC => (by have cAx := hC.cell cAx; have cAy := hC.cell cAy; have cBx := hC.cell cBx; have cBy := hC.cell cBy; go_simp; rfl)) (fun K hK => ?_); go_simp; refine hK _ ?_; clear hK K) | (refine calm_no rfl rfl (fun K hK => ?_); go_simp; refine hK _ ?_; clear hK K))
        (first | (refine calm_yes rfl rfl (fun w' hC => (by have cAx := hC.cell cAx; have cAy := hC.cell cAy; have cBx := hC.cell cBx; have cBy := hC.cell cBy; go_simp; rfl)) (fun K hK => ?_); go_simp; refine hK _ ?_; clear hK K) | (refine calm_no rfl rfl (fun K hK => ?_); go_simp; refine hK _ ?_; clear hK K))
        (first | (refine calm_yes rfl rfl (fun w' hC => (by have cAx := hC.cell cAx; have cAy := hC.cell cAy; have cBx := hC.cell cBx; have cBy := hC.cell cBy; go_simp; rfl)) (fun K hK => ?_); go_simp; refine hK _ ?_; clear hK K) | (refine calm_no rfl rfl (fun K hK => ?_); go_simp; refine hK _ ?_; clear hK K))
        refine calm_done (fun w4 hb => ?_)
        clear cAx cAy cBx cBy
        replace E := Lib.hid (Ext.trans E.out hb)
        replace Q2 := Lib.hid (Q2.out.ext rgR_stab hb)
        replace Q3 := Lib.hid (Q3.out.ext rgR_stab hb)
        replace Ax := Lib.hid (Cls.cell hb Ax.out)
        replace Ay := Lib.hid (Cls.cell hb Ay.out)
        replace Bx := Lib.hid (Cls.cell hb Bx.out)
        replace By := Lib.hid (Cls.cell hb By.out)
        clear hb
        have cAx := Ax.out
        have cAy := Ay.out
        have cBx := Bx.out
        have cBy := By.out
        obtain ⟨rest, hrest⟩ := Hfst.out (fun h => by injection h with h1 h2; exact Hxx.out h1)
        have hq4 : (barL (x0, y0) (x1, y1) hf).length = 4 := rfl
        obtain ⟨hg1, hg2⟩ := rgsB_one (by have := Hrg.out; rw [← Hrs.out, hrest] at this; exact this)
        have hy := Hyy.out
        subst hy
        have hbx := level_box (y := y0) Hxx.out Hok.out.2.2.1
        have har := level_area (y := y0) Hxx.out Hok.out.2.2.1
        have hh := Hok.out.2.2
        obtain ⟨D, hD⟩ : ∃ D, absI (x1 - x0) = D := ⟨_, rfl⟩
        have hDb : 0 ≤ D ∧ D ≤ 2000 := by rw [← hD]; unfold absI; split <;> omega
        generalize barL (x0, y0) (x1, y0) hf = q at *
        rw [hD] at hbx har
        have hAR : areaR [q] = sumS areaE [q] := by unfold areaR; rw [hg1]; rfl
        obtain ⟨AV, hAV⟩ : ∃ AV, areaR [q] = AV := ⟨_, rfl⟩
        have har2 : absI AV = 4 * hf * D := by rw [← hAV, hAR]; exact har
        have hP := mul_bd (a := 4 * hf) (b := D) (A := 400) (B := 2000) (by omega) (by omega) (by omega) (by omega)
        have hAb : -1000000000 ≤ AV ∧ AV ≤ 1000000000 := by have h9 := har2; unfold absI at h9; split at h9 <;> omega
        have hok1 : boxOk1 q = true := by simp [boxOk1, hg2, hq4]
        have hbr : boxR q = boxOfL q := by unfold boxR; rw [hok1]; rfl
        obtain ⟨⟨bL, bT, bR, bB⟩, hbb⟩ : ∃ b, boxOfL q = b := ⟨_, rfl⟩
        rw [hbb] at hbx hbr
        obtain ⟨hRL, hBT⟩ := hbx
        dsimp only at hRL hBT
        have KB := Lib.hid (fun A' cap' W (hW : Pts W A' q) => c_BoxOf A' cap' q W hW (by omega))
        have KA := Lib.hid (fun A' cap' W (hW : Rgs W A' [q]) => c_iAreaOf A' cap' [q] W hW (by simp) (fun r hr => by simp at hr; subst hr; omega))
        have KC := Lib.hid (fun W => c_absolute (x1 - x0) W (by omega))
        have KD := Lib.hid (fun W => c_absolute AV W (by omega))
        rw [hbr, hok1] at KB
        rw [hAV] at KA
        rw [hD] at KC
        rw [har2] at KD
        have Hq1 : Hid (rs = q :: rest) := Lib.hid hrest
        have hr8 : 0 < rs.length := by rw [hrest]; simp
        have HB1 := Lib.hid hRL
        have HB2 := Lib.hid hBT
        obtain ⟨b2, off2, hA2, _, hc2⟩ := Q2.out.rgs hr8
        subst hA2
        obtain ⟨Aq, capq, cq, hpq, _, _⟩ := hc2 0 hr8
        have hq0 : rs[0] = q := by simp [hrest]
        rw [hq0, Nat.add_zero] at cq
        rw [hq0] at hpq
        have HPq := Lib.hid hpq
        have Cq := Lib.hid cq
        have hI8 : (0 : Int) < (rs.length : Int) := by omega
        have Hs1 := Lib.hid Sl2.out.2.1
        have HD := Lib.hid hD
        clear hq4 hbb hAR har hAV har2 hc2 cq hpq hq0 hrest hRL hBT hbr hok1 hD hg1 hg2
        clear cAx cAy cBx cBy
        have cAx := Ax.out
        have cAy := Ay.out
        have cBx := Bx.out
        have cBy := By.out
        have cCq := Cq.out
        go_wp2_with fail
        clear cAx cAy cBx cBy cCq
        refine (KB.out Aq capq w4 HPq.out).mono ?_
        rintro e w5 ⟨rfl, hb⟩
        replace E := Lib.hid (Ext.trans E.out hb)
        replace Q2 := Lib.hid (Q2.out.ext rgR_stab hb)
        replace Q3 := Lib.hid (Q3.out.ext rgR_stab hb)
        replace Ax := Lib.hid (Cls.cell hb Ax.out)
        replace Ay := Lib.hid (Cls.cell hb Ay.out)
        replace Bx := Lib.hid (Cls.cell hb Bx.out)
        replace By := Lib.hid (Cls.cell hb By.out)
        replace Cq := Lib.hid (Cls.cell hb Cq.out)
        replace HPq := Lib.hid (HPq.out.ext ptR_stab hb)
        clear hb
        have cAx := Ax.out
        have cAy := Ay.out
        have cBx := Bx.out
        have cBy := By.out
        have cCq := Cq.out
        go_wp2_with fail
        clear cAx cAy cBx cBy cCq
        first | refine gen_calls ?_ | refine gen_code ?_ | refine gen_list ?_
        intro w6 hW
        obtain ⟨hb, hRB⟩ := new1 hW
        clear hW
        replace E := Lib.hid (Ext.trans E.out hb)
        replace Q2 := Lib.hid (Q2.out.ext rgR_stab hb)
        replace Q3 := Lib.hid (Q3.out.ext rgR_stab hb)
        replace Ax := Lib.hid (Cls.cell hb Ax.out)
        replace Ay := Lib.hid (Cls.cell hb Ay.out)
        replace Bx := Lib.hid (Cls.cell hb Bx.out)
        replace By := Lib.hid (Cls.cell hb By.out)
        replace Cq := Lib.hid (Cls.cell hb Cq.out)
        replace HPq := Lib.hid (HPq.out.ext ptR_stab hb)
        clear hb
        have RB := Lib.hid hRB
        have lRB := RB.out.lt
        clear hRB
        have cAx := Ax.out
        have cAy := Ay.out
        have cBx := Bx.out
        have cBy := By.out
        have cCq := Cq.out
        clear cAx cAy cBx cBy cCq
        have cAx := Ax.out
        have cBx := Bx.out
        have d0 := RB.out.cell_of (i := 0) rfl
        have d1 := RB.out.cell_of (i := 1) rfl
        have d2 := RB.out.cell_of (i := 2) rfl
        have d3 := RB.out.cell_of (i := 3) rfl
        have hs1 : ∀ W, (Instr.slice 26 (.slice (some ⟨b2, off2, none⟩) rs.length cap2) none (some (.int .i64 1)) none).run Try.prog W = .ok (.slice (some ⟨b2, off2, none⟩) 1 cap2) W := fun W => run_slice_hi ei_rg _ _ _ 1 _ rfl (by have := Hs1.out; omega) W
        have HQ1 : Hid (Rgs w6 (some ⟨b2, off2, none⟩) [q]) := Lib.hid (by
          have h9 := Q2.out.take 1
          rw [Hq1.out] at h9
          exact h9)
        have hRL := HB1.out
        have hBT := HB2.out
        have gw1 : IntKind.i64.wrap D = D := IntWalk.i64_in _ (by omega)
        have gw2 : IntKind.i64.wrap (x1 - x0) = x1 - x0 := IntWalk.i64_in _ (by omega)
        have gw3 : IntKind.i64.wrap (2 * hf) = 2 * hf := IntWalk.i64_in _ (by omega)
        have gw4 : IntKind.i64.wrap (4 * hf) = 4 * hf := IntWalk.i64_in _ (by omega)
        have gw5 : IntKind.i64.wrap (4 * hf * D) = 4 * hf * D := IntWalk.i64_in _ (by omega)
        go_wp2_with fail
        refine wp_region_calm [0,1,2,3,4,5,6,7,8,9,10,11,12,13,14,15,16,17,18,19,20,21,22,23,24,25,26,27,28,29,30,31,32,33,34,35,36,37,38,39,40,41,42,43,44,45,46,47,48,49] [] (by kernel_rfl) (by kernel_rfl) ?_
        (first | (refine calm_yes rfl rfl (fun w' hC => (by have cAx := hC.cell cAx; have cBx := hC.cell cBx; have d0 := hC.cell d0; have d1 := hC.cell d1; have d2 := hC.cell d2; have d3 := hC.cell d3; go_simp; rfl)) (fun K hK => ?_); go_simp; refine hK _ ?_; clear hK K) | (refine calm_no rfl rfl (fun K hK => ?_); go_simp; refine hK _ ?_; clear hK K))
        (first | (refine calm_yes rfl rfl (fun w' hC => (by have cAx := hC.cell cAx; have cBx := hC.cell cBx; have d0 := hC.cell d0; have d1 := hC.cell d1; have d2 := hC.cell d2; have d3 := hC.cell d3; go_simp; rfl)) (fun K hK => ?_); go_simp; refine hK _ ?_; clear hK K) | (refine calm_no rfl rfl (fun K hK => ?_); go_simp; refine hK _ ?_; clear hK K))
        (first | (refine calm_yes rfl rfl (fun w' hC => (by have cAx := hC.cell cAx; have cBx := hC.cell cBx; have d0 := hC.cell d0; have d1 := hC.cell d1; have d2 := hC.cell d2; have d3 := hC.cell d3; go_simp; rfl)) (fun K hK => ?_); go_simp; refine hK _ ?_; clear hK K) | (refine calm_no rfl rfl (fun K hK => ?_); go_simp; refine hK _ ?_; clear hK K))
        (first | (refine calm_yes rfl rfl (fun w' hC => (by have cAx := hC.cell cAx; have cBx := hC.cell cBx; have d0 := hC.cell d0; have d1 := hC.cell d1; have d2 := hC.cell d2; have d3 := hC.cell d3; go_simp; rfl)) (fun K hK => ?_); go_simp; refine hK _ ?_; clear hK K) | (refine calm_no rfl rfl (fun K hK => ?_); go_simp; refine hK _ ?_; clear hK K))
        (first | (refine calm_yes rfl rfl (fun w' hC => (by have cAx := hC.cell cAx; have cBx := hC.cell cBx; have d0 := hC.cell d0; have d1 := hC.cell d1; have d2 := hC.cell d2; have d3 := hC.cell d3; go_simp; rfl)) (fun K hK => ?_); go_simp; refine hK _ ?_; clear hK K) | (refine calm_no rfl rfl (fun K hK => ?_); go_simp; refine hK _ ?_; clear hK K))
        (first | (refine calm_yes rfl rfl (fun w' hC => (by have cAx := hC.cell cAx; have cBx := hC.cell cBx; have d0 := hC.cell d0; have d1 := hC.cell d1; have d2 := hC.cell d2; have d3 := hC.cell d3; go_simp; rfl)) (fun K hK => ?_); go_simp; refine hK _ ?_; clear hK K) | (refine calm_no rfl rfl (fun K hK => ?_); go_simp; refine hK _ ?_; clear hK K))
        (first | (refine calm_yes rfl rfl (fun w' hC => (by have cAx := hC.cell cAx; have cBx := hC.cell cBx; have d0 := hC.cell d0; have d1 := hC.cell d1; have d2 := hC.cell d2; have d3 := hC.cell d3; go_simp; rfl)) (fun K hK => ?_); go_simp; refine hK _ ?_; clear hK K) | (refine calm_no rfl rfl (fun K hK => ?_); go_simp; refine hK _ ?_; clear hK K))
        (first | (refine calm_yes rfl rfl (fun w' hC => (by have cAx := hC.cell cAx; have cBx := hC.cell cBx; have d0 := hC.cell d0; have d1 := hC.cell d1; have d2 := hC.cell d2; have d3 := hC.cell d3; go_simp; rfl)) (fun K hK => ?_); go_simp; refine hK _ ?_; clear hK K) | (refine calm_no rfl rfl (fun K hK => ?_); go_simp; refine hK _ ?_; clear hK K))
        (first | (refine calm_yes rfl rfl (fun w' hC => (by have cAx := hC.cell cAx; have cBx := hC.cell cBx; have d0 := hC.cell d0; have d1 := hC.cell d1; have d2 := hC.cell d2; have d3 := hC.cell d3; go_simp; rfl)) (fun K hK => ?_); go_simp; refine hK _ ?_; clear hK K) | (refine calm_no rfl rfl (fun K hK => ?_); go_simp; refine hK _ ?_; clear hK K))
        (first | (refine calm_yes rfl rfl (fun w' hC => (by have cAx := hC.cell cAx; have cBx := hC.cell cBx; have d0 := hC.cell d0; have d1 := hC.cell d1; have d2 := hC.cell d2; have d3 := hC.cell d3; go_simp; rfl)) (fun K hK => ?_); go_simp; refine hK _ ?_; clear hK K) | (refine calm_no rfl rfl (fun K hK => ?_); go_simp; refine hK _ ?_; clear hK K))
        (first | (refine calm_yes rfl rfl (fun w' hC => (by have cAx := hC.cell cAx; have cBx := hC.cell cBx; have d0 := hC.cell d0; have d1 := hC.cell d1; have d2 := hC.cell d2; have d3 := hC.cell d3; go_simp; rfl)) (fun K hK => ?_); go_simp; refine hK _ ?_; clear hK K) | (refine calm_no rfl rfl (fun K hK => ?_); go_simp; refine hK _ ?_; clear hK K))
        (first | (refine calm_yes rfl rfl (fun w' hC => (by have cAx := hC.cell cAx; have cBx := hC.cell cBx; have d0 := hC.cell d0; have d1 := hC.cell d1; have d2 := hC.cell d2; have d3 := hC.cell d3; go_simp; rfl)) (fun K hK => ?_); go_simp; refine hK _ ?_; clear hK K) | (refine calm_no rfl rfl (fun K hK => ?_); go_simp; refine hK _ ?_; clear hK K))
        (first | (refine calm_yes rfl rfl (fun w' hC => (by have cAx := hC.cell cAx; have cBx := hC.cell cBx; have d0 := hC.cell d0; have d1 := hC.cell d1; have d2 := hC.cell d2; have d3 := hC.cell d3; go_simp; rfl)) (fun K hK => ?_); go_simp; refine hK _ ?_; clear hK K) | (refine calm_no rfl rfl (fun K hK => ?_); go_simp; refine hK _ ?_; clear hK K))
        (first | (refine calm_yes rfl rfl (fun w' hC => (by have cAx := hC.cell cAx; have cBx := hC.cell cBx; have d0 := hC.cell d0; have d1 := hC.cell d1; have d2 := hC.cell d2; have d3 := hC.cell d3; go_simp; rfl)) (fun K hK => ?_); go_simp; refine hK _ ?_; clear hK K) | (refine calm_no rfl rfl (fun K hK => ?_); go_simp; refine hK _ ?_; clear hK K))
        (first | (refine calm_yes rfl rfl (fun w' hC => (by have cAx := hC.cell cAx; have cBx := hC.cell cBx; have d0 := hC.cell d0; have d1 := hC.cell d1; have d2 := hC.cell d2; have d3 := hC.cell d3; go_simp; rfl)) (fun K hK => ?_); go_simp; refine hK _ ?_; clear hK K) | (refine calm_no rfl rfl (fun K hK => ?_); go_simp; refine hK _ ?_; clear hK K))
        (first | (refine calm_yes rfl rfl (fun w' hC => (by have cAx := hC.cell cAx; have cBx := hC.cell cBx; have d0 := hC.cell d0; have d1 := hC.cell d1; have d2 := hC.cell d2; have d3 := hC.cell d3; go_simp; rfl)) (fun K hK => ?_); go_simp; refine hK _ ?_; clear hK K) | (refine calm_no rfl rfl (fun K hK => ?_); go_simp; refine hK _ ?_; clear hK K))
        (first | (apply calm_call rfl rfl rfl Try.func17 (by kernel_rfl) rfl (by go_simp; rfl); exact (fun w' hC => ext_of_same (KC.out w')); intro K hK; go_simp; refine hK _ ?_; clear hK K) | (refine calm_no rfl rfl (fun K hK => ?_); go_simp; refine hK _ ?_; clear hK K))
        (first | (refine calm_yes rfl rfl (fun w' hC => (by have cAx := hC.cell cAx; have cBx := hC.cell cBx; have d0 := hC.cell d0; have d1 := hC.cell d1; have d2 := hC.cell d2; have d3 := hC.cell d3; go_simp; rfl)) (fun K hK => ?_); go_simp; refine hK _ ?_; clear hK K) | (refine calm_no rfl rfl (fun K hK => ?_); go_simp; refine hK _ ?_; clear hK K))
        (first | (refine calm_yes rfl rfl (fun w' hC => (by have cAx := hC.cell cAx; have cBx := hC.cell cBx; have d0 := hC.cell d0; have d1 := hC.cell d1; have d2 := hC.cell d2; have d3 := hC.cell d3; go_simp; rfl)) (fun K hK => ?_); go_simp; refine hK _ ?_; clear hK K) | (refine calm_no rfl rfl (fun K hK => ?_); go_simp; refine hK _ ?_; clear hK K))
        (first | (refine calm_yes rfl rfl (fun w' hC => (by have cAx := hC.cell cAx; have cBx := hC.cell cBx; have d0 := hC.cell d0; have d1 := hC.cell d1; have d2 := hC.cell d2; have d3 := hC.cell d3; go_simp; rfl)) (fun K hK => ?_); go_simp; refine hK _ ?_; clear hK K) | (refine calm_no rfl rfl (fun K hK => ?_); go_simp; refine hK _ ?_; clear hK K))
        (first | (refine calm_yes rfl rfl (fun w' hC => (by have cAx := hC.cell cAx; have cBx := hC.cell cBx; have d0 := hC.cell d0; have d1 := hC.cell d1; have d2 := hC.cell d2; have d3 := hC.cell d3; go_simp; rfl)) (fun K hK => ?_); go_simp; refine hK _ ?_; clear hK K) | (refine calm_no rfl rfl (fun K hK => ?_); go_simp; refine hK _ ?_; clear hK K))
        (first | (refine calm_yes rfl rfl (fun w' hC => (by have cAx := hC.cell cAx; have cBx := hC.cell cBx; have d0 := hC.cell d0; have d1 := hC.cell d1; have d2 := hC.cell d2; have d3 := hC.cell d3; go_simp; rfl)) (fun K hK => ?_); go_simp; refine hK _ ?_; clear hK K) | (refine calm_no rfl rfl (fun K hK => ?_); go_simp; refine hK _ ?_; clear hK K))
        (first | (refine calm_yes rfl rfl (fun w' hC => (by have cAx := hC.cell cAx; have cBx := hC.cell cBx; have d0 := hC.cell d0; have d1 := hC.cell d1; have d2 := hC.cell d2; have d3 := hC.cell d3; go_simp; rfl)) (fun K hK => ?_); go_simp; refine hK _ ?_; clear hK K) | (refine calm_no rfl rfl (fun K hK => ?_); go_simp; refine hK _ ?_; clear hK K))
        (first | (refine calm_yes rfl rfl (fun w' hC => (by have cAx := hC.cell cAx; have cBx := hC.cell cBx; have d0 := hC.cell d0; have d1 := hC.cell d1; have d2 := hC.cell d2; have d3 := hC.cell d3; go_simp; rfl)) (fun K hK => ?_); go_simp; refine hK _ ?_; clear hK K) | (refine calm_no rfl rfl (fun K hK => ?_); go_simp; refine hK _ ?_; clear hK K))
        (first | (refine calm_yes rfl rfl (fun w' hC => (by have cAx := hC.cell cAx; have cBx := hC.cell cBx; have d0 := hC.cell d0; have d1 := hC.cell d1; have d2 := hC.cell d2; have d3 := hC.cell d3; go_simp; rfl)) (fun K hK => ?_); go_simp; refine hK _ ?_; clear hK K) | (refine calm_no rfl rfl (fun K hK => ?_); go_simp; refine hK _ ?_; clear hK K))
        (first | (refine calm_yes rfl rfl (fun w' hC => (by have cAx := hC.cell cAx; have cBx := hC.cell cBx; have d0 := hC.cell d0; have d1 := hC.cell d1; have d2 := hC.cell d2; have d3 := hC.cell d3; go_simp; rfl)) (fun K hK => ?_); go_simp; refine hK _ ?_; clear hK K) | (refine calm_no rfl rfl (fun K hK => ?_); go_simp; refine hK _ ?_; clear hK K))
        (first | (refine calm_yes rfl rfl (fun w' hC => (by have cAx := hC.cell cAx; have cBx := hC.cell cBx; have d0 := hC.cell d0; have d1 := hC.cell d1; have d2 := hC.cell d2; have d3 := hC.cell d3; go_simp; rfl)) (fun K hK => ?_); go_simp; refine hK _ ?_; clear hK K) | (refine calm_no rfl rfl (fun K hK => ?_); go_simp; refine hK _ ?_; clear hK K))
        (first | (refine calm_yes rfl rfl (fun w' hC => (by have cAx := hC.cell cAx; have cBx := hC.cell cBx; have d0 := hC.cell d0; have d1 := hC.cell d1; have d2 := hC.cell d2; have d3 := hC.cell d3; go_simp; rfl)) (fun K hK => ?_); go_simp; refine hK _ ?_; clear hK K) | (refine calm_no rfl rfl (fun K hK => ?_); go_simp; refine hK _ ?_; clear hK K))
        (first | (refine calm_yes rfl rfl (fun w' hC => (by have cAx := hC.cell cAx; have cBx := hC.cell cBx; have d0 := hC.cell d0; have d1 := hC.cell d1; have d2 := hC.cell d2; have d3 := hC.cell d3; go_simp; rfl)) (fun K hK => ?_); go_simp; refine hK _ ?_; clear hK K) | (refine calm_no rfl rfl (fun K hK => ?_); go_simp; refine hK _ ?_; clear hK K))
        (first | (refine calm_yes rfl rfl (fun w' hC => (by have cAx := hC.cell cAx; have cBx := hC.cell cBx; have d0 := hC.cell d0; have d1 := hC.cell d1; have d2 := hC.cell d2; have d3 := hC.cell d3; go_simp; rfl)) (fun K hK => ?_); go_simp; refine hK _ ?_; clear hK K) | (refine calm_no rfl rfl (fun K hK => ?_); go_simp; refine hK _ ?_; clear hK K))
        (first | (refine calm_yes rfl rfl (fun w' hC => (by have cAx := hC.cell cAx; have cBx := hC.cell cBx; have d0 := hC.cell d0; have d1 := hC.cell d1; have d2 := hC.cell d2; have d3 := hC.cell d3; go_simp; rfl)) (fun K hK => ?_); go_simp; refine hK _ ?_; clear hK K) | (refine calm_no rfl rfl (fun K hK => ?_); go_simp; refine hK _ ?_; clear hK K))
        (first | (refine calm_yes rfl rfl (fun w' hC => (by have cAx := hC.cell cAx; have cBx := hC.cell cBx; have d0 := hC.cell d0; have d1 := hC.cell d1; have d2 := hC.cell d2; have d3 := hC.cell d3; go_simp; rfl)) (fun K hK => ?_); go_simp; refine hK _ ?_; clear hK K) | (refine calm_no rfl rfl (fun K hK => ?_); go_simp; refine hK _ ?_; clear hK K))
        (first | (apply calm_call rfl rfl rfl Try.func10 (by kernel_rfl) rfl (by go_simp; rfl); exact (fun w' hC => KA.out _ cap2 w' (HQ1.out.ext rgR_stab (ext_cls hC))); intro K hK; go_simp; refine hK _ ?_; clear hK K) | (refine calm_no rfl rfl (fun K hK => ?_); go_simp; refine hK _ ?_; clear hK K))
        (first | (apply calm_call rfl rfl rfl Try.func17 (by kernel_rfl) rfl (by go_simp; rfl); exact (fun w' hC => ext_of_same (KD.out w')); intro K hK; go_simp; refine hK _ ?_; clear hK K) | (refine calm_no rfl rfl (fun K hK => ?_); go_simp; refine hK _ ?_; clear hK K))
        (first | (refine calm_yes rfl rfl (fun w' hC => (by have cAx := hC.cell cAx; have cBx := hC.cell cBx; have d0 := hC.cell d0; have d1 := hC.cell d1; have d2 := hC.cell d2; have d3 := hC.cell d3; go_simp; rfl)) (fun K hK => ?_); go_simp; refine hK _ ?_; clear hK K) | (refine calm_no rfl rfl (fun K hK => ?_); go_simp; refine hK _ ?_; clear hK K))
        (first | (refine calm_yes rfl rfl (fun w' hC => (by have cAx := hC.cell cAx; have cBx := hC.cell cBx; have d0 := hC.cell d0; have d1 := hC.cell d1; have d2 := hC.cell d2; have d3 := hC.cell d3; go_simp; rfl)) (fun K hK => ?_); go_simp; refine hK _ ?_; clear hK K) | (refine calm_no rfl rfl (fun K hK => ?_); go_simp; refine hK _ ?_; clear hK K))
        (first | (refine calm_yes rfl rfl (fun w' hC => (by have cAx := hC.cell cAx; have cBx := hC.cell cBx; have d0 := hC.cell d0; have d1 := hC.cell d1; have d2 := hC.cell d2; have d3 := hC.cell d3; go_simp; rfl)) (fun K hK => ?_); go_simp; refine hK _ ?_; clear hK K) | (refine calm_no rfl rfl (fun K hK => ?_); go_simp; refine hK _ ?_; clear hK K))
        (first | (refine calm_yes rfl rfl (fun w' hC => (by have cAx := hC.cell cAx; have cBx := hC.cell cBx; have d0 := hC.cell d0; have d1 := hC.cell d1; have d2 := hC.cell d2; have d3 := hC.cell d3; go_simp; rfl)) (fun K hK => ?_); go_simp; refine hK _ ?_; clear hK K) | (refine calm_no rfl rfl (fun K hK => ?_); go_simp; refine hK _ ?_; clear hK K))
        (first | (refine calm_yes rfl rfl (fun w' hC => (by have cAx := hC.cell cAx; have cBx := hC.cell cBx; have d0 := hC.cell d0; have d1 := hC.cell d1; have d2 := hC.cell d2; have d3 := hC.cell d3; go_simp; rfl)) (fun K hK => ?_); go_simp; refine hK _ ?_; clear hK K) | (refine calm_no rfl rfl (fun K hK => ?_); go_simp; refine hK _ ?_; clear hK K))
        (first | (refine calm_yes rfl rfl (fun w' hC => (by have cAx := hC.cell cAx; have cBx := hC.cell cBx; have d0 := hC.cell d0; have d1 := hC.cell d1; have d2 := hC.cell d2; have d3 := hC.cell d3; go_simp; rfl)) (fun K hK => ?_); go_simp; refine hK _ ?_; clear hK K) | (refine calm_no rfl rfl (fun K hK => ?_); go_simp; refine hK _ ?_; clear hK K))
        (first | (refine calm_yes rfl rfl (fun w' hC => (by have cAx := hC.cell cAx; have cBx := hC.cell cBx; have d0 := hC.cell d0; have d1 := hC.cell d1; have d2 := hC.cell d2; have d3 := hC.cell d3; go_simp; rfl)) (fun K hK => ?_); go_simp; refine hK _ ?_; clear hK K) | (refine calm_no rfl rfl (fun K hK => ?_); go_simp; refine hK _ ?_; clear hK K))
        (first | (refine calm_yes rfl rfl (fun w' hC => (by have cAx := hC.cell cAx; have cBx := hC.cell cBx; have d0 := hC.cell d0; have d1 := hC.cell d1; have d2 := hC.cell d2; have d3 := hC.cell d3; go_simp; rfl)) (fun K hK => ?_); go_simp; refine hK _ ?_; clear hK K) | (refine calm_no rfl rfl (fun K hK => ?_); go_simp; refine hK _ ?_; clear hK K))
        (first | (refine calm_yes rfl rfl (fun w' hC => (by have cAx := hC.cell cAx; have cBx := hC.cell cBx; have d0 := hC.cell d0; have d1 := hC.cell d1; have d2 := hC.cell d2; have d3 := hC.cell d3; go_simp; rfl)) (fun K hK => ?_); go_simp; refine hK _ ?_; clear hK K) | (refine calm_no rfl rfl (fun K hK => ?_); go_simp; refine hK _ ?_; clear hK K))
        (first | (refine calm_yes rfl rfl (fun w' hC => (by have cAx := hC.cell cAx; have cBx := hC.cell cBx; have d0 := hC.cell d0; have d1 := hC.cell d1; have d2 := hC.cell d2; have d3 := hC.cell d3; go_simp; rfl)) (fun K hK => ?_); go_simp; refine hK _ ?_; clear hK K) | (refine calm_no rfl rfl (fun K hK => ?_); go_simp; refine hK _ ?_; clear hK K))
        (first | (refine calm_yes rfl rfl (fun w' hC => (by have cAx := hC.cell cAx; have cBx := hC.cell cBx; have d0 := hC.cell d0; have d1 := hC.cell d1; have d2 := hC.cell d2; have d3 := hC.cell d3; go_simp; rfl)) (fun K hK => ?_); go_simp; refine hK _ ?_; clear hK K) | (refine calm_no rfl rfl (fun K hK => ?_); go_simp; refine hK _ ?_; clear hK K))
        (first | (apply calm_call rfl rfl rfl Try.func17 (by kernel_rfl) rfl (by go_simp; rfl); exact (fun w' hC => ext_of_same (KC.out w')); intro K hK; go_simp; refine hK _ ?_; clear hK K) | (refine calm_no rfl rfl (fun K hK => ?_); go_simp; refine hK _ ?_; clear hK K))
        (first | (refine calm_yes rfl rfl (fun w' hC => (by have cAx := hC.cell cAx; have cBx := hC.cell cBx; have d0 := hC.cell d0; have d1 := hC.cell d1; have d2 := hC.cell d2; have d3 := hC.cell d3; go_simp; rfl)) (fun K hK => ?_); go_simp; refine hK _ ?_; clear hK K) | (refine calm_no rfl rfl (fun K hK => ?_); go_simp; refine hK _ ?_; clear hK K))
        (first | (refine calm_yes rfl rfl (fun w' hC => (by have cAx := hC.cell cAx; have cBx := hC.cell cBx; have d0 := hC.cell d0; have d1 := hC.cell d1; have d2 := hC.cell d2; have d3 := hC.cell d3; go_simp; rfl)) (fun K hK => ?_); go_simp; refine hK _ ?_; clear hK K) | (refine calm_no rfl rfl (fun K hK => ?_); go_simp; refine hK _ ?_; clear hK K))
        (first | (refine calm_yes rfl rfl (fun w' hC => (by have cAx := hC.cell cAx; have cBx := hC.cell cBx; have d0 := hC.cell d0; have d1 := hC.cell d1; have d2 := hC.cell d2; have d3 := hC.cell d3; go_simp; rfl)) (fun K hK => ?_); go_simp; refine hK _ ?_; clear hK K) | (refine calm_no rfl rfl (fun K hK => ?_); go_simp; refine hK _ ?_; clear hK K))
        (first | (refine calm_yes rfl rfl (fun w' hC => (by have cAx := hC.cell cAx; have cBx := hC.cell cBx; have d0 := hC.cell d0; have d1 := hC.cell d1; have d2 := hC.cell d2; have d3 := hC.cell d3; go_simp; rfl)) (fun K hK => ?_); go_simp; refine hK _ ?_; clear hK K) | (refine calm_no rfl rfl (fun K hK => ?_); go_simp; refine hK _ ?_; clear hK K))
        refine calm_done (fun w7 hb => ?_)
        clear cAx cBx d0 d1 d2 d3
        replace E := Lib.hid (Ext.trans E.out hb)
        replace Q2 := Lib.hid (Q2.out.ext rgR_stab hb)
        replace Q3 := Lib.hid (Q3.out.ext rgR_stab hb)
        replace Ax := Lib.hid (Cls.cell hb Ax.out)
        replace Bx := Lib.hid (Cls.cell hb Bx.out)
        replace RB := Lib.hid (RB.out.ext hb)
        have lRB := RB.out.lt
        replace HQ1 := Lib.hid (HQ1.out.ext rgR_stab hb)
        clear hb
        have cAx := Ax.out
        have cBx := Bx.out
        have d0 := RB.out.cell_of (i := 0) rfl
        have d1 := RB.out.cell_of (i := 1) rfl
        have d2 := RB.out.cell_of (i := 2) rfl
        have d3 := RB.out.cell_of (i := 3) rfl
        go_wp2
        go_ret
        exact ⟨rfl, E.out⟩
    · have e1 : (y0 != y1) = true := by simp [hyy]
      clear hyy
      go_wp2_with fail
      refine wp_region_calm [0,1,2,3,4,5,6,7,8,9,10,11,12,13,14,15,16,17,18,19,20,21,22,23,24,25,26,27,28,29,30,31,32,33,34,35,36,37,38,39] [] (by kernel_rfl) (by kernel_rfl) ?_
      (first | (refine calm_yes rfl rfl (fun w' hC => (by have cAx := hC.cell cAx; have cAy := hC.cell cAy; have cBx := hC.cell cBx; have cBy := hC.cell cBy; go_simp; rfl)) (fun K hK => ?_); go_simp; refine hK _ ?_; clear hK K) | (refine calm_no rfl rfl (fun K hK => ?_); go_simp; refine hK _ ?_; clear hK K))
      (first | (refine calm_yes rfl rfl (fun w' hC => (by have cAx := hC.cell cAx; have cAy := hC.cell cAy; have cBx := hC.cell cBx; have cBy := hC.cell cBy; go_simp; rfl)) (fun K hK => ?_); go_simp; refine hK _ ?_; clear hK K) | (refine calm_no rfl rfl (fun K hK => ?_); go_simp; refine hK _ ?_; clear hK K))
      (apply calm_call rfl rfl rfl Try.func15 (by kernel_rfl) rfl (by go_simp; rfl); exact (fun w' hC => c_equalRings A2 A3 cap2 cap3 rs w' (Q2.out.ext rgR_stab (ext_cls hC)) (Q3.out.ext rgR_stab (ext_cls hC)) hrsM Hq.out); intro K hK; go_simp; refine hK _ ?_; clear hK K)
      (first | (refine calm_yes rfl rfl (fun w' hC => (by have cAx := hC.cell cAx; have cAy := hC.cell cAy; have cBx := hC.cell cBx; have cBy := hC.cell cBy; go_simp; rfl)) (fun K hK => ?_); go_simp; refine hK _ ?_; clear hK K) | (refine calm_no rfl rfl (fun K hK => ?_); go_simp; refine hK _ ?_; clear hK K))
      (first | (refine calm_yes rfl rfl (fun w' hC => (by have cAx := hC.cell cAx; have cAy := hC.cell cAy; have cBx := hC.cell cBx; have cBy := hC.cell cBy; go_simp; rfl)) (fun K hK => ?_); go_simp; refine hK _ ?_; clear hK K) | (refine calm_no rfl rfl (fun K hK => ?_); go_simp; refine hK _ ?_; clear hK K))
      (first | (refine calm_yes rfl rfl (fun w' hC => (by have cAx := hC.cell cAx; have cAy := hC.cell cAy; have cBx := hC.cell cBx; have cBy := hC.cell cBy; go_simp; rfl)) (fun K hK => ?_); go_simp; refine hK _ ?_; clear hK K) | (refine calm_no rfl rfl (fun K hK => ?_); go_simp; refine hK _ ?_; clear hK K))
      (first | (refine calm_yes rfl rfl (fun w' hC => (by have cAx := hC.cell cAx; have cAy := hC.cell cAy; have cBx := hC.cell cBx; have cBy := hC.cell cBy; go_simp; rfl)) (fun K hK => ?_); go_simp; refine hK _ ?_; clear hK K) | (refine calm_no rfl rfl (fun K hK => ?_); go_simp; refine hK _ ?_; clear hK K))
      (first | (refine calm_yes rfl rfl (fun w' hC => (by have cAx := hC.cell cAx; have cAy := hC.cell cAy; have cBx := hC.cell cBx; have cBy := hC.cell cBy; go_simp; rfl)) (fun K hK => ?_); go_simp; refine hK _ ?_; clear hK K) | (refine calm_no rfl rfl (fun K hK => ?_); go_simp; refine hK _ ?_; clear hK K))
      (first | (refine calm_yes rfl rfl (fun w' hC => (by have cAx := hC.cell cAx; have cAy := hC.cell cAy; have cBx := hC.cell cBx; have cBy := hC.cell cBy; go_simp; rfl)) (fun K hK => ?_); go_simp; refine hK _ ?_; clear hK K) | (refine calm_no rfl rfl (fun K hK => ?_); go_simp; refine hK _ ?_; clear hK K))
      (first | (refine calm_yes rfl rfl (fun w' hC => (by have cAx := hC.cell cAx; have cAy := hC.cell cAy; have cBx := hC.cell cBx; have cBy := hC.cell cBy; go_simp; rfl)) (fun K hK => ?_); go_simp; refine hK _ ?_; clear hK K) | (refine calm_no rfl rfl (fun K hK => ?_); go_simp; refine hK _ ?_; clear hK K))
      (first | (refine calm_yes rfl rfl (fun w' hC => (by have cAx := hC.cell cAx; have cAy := hC.cell cAy; have cBx := hC.cell cBx; have cBy := hC.cell cBy; go_simp; rfl)) (fun K hK => ?_); go_simp; refine hK _ ?_; clear hK K) | (refine calm_no rfl rfl (fun K hK => ?_); go_simp; refine hK _ ?_; clear hK K))
      (first | (refine calm_yes rfl rfl (fun w' hC => (by have cAx := hC.cell cAx; have cAy := hC.cell cAy; have cBx := hC.cell cBx; have cBy := hC.cell cBy; go_simp; rfl)) (fun K hK => ?_); go_simp; refine hK _ ?_; clear hK K) | (refine calm_no rfl rfl (fun K hK => ?_); go_simp; refine hK _ ?_; clear hK K))
      (first | (refine calm_yes rfl rfl (fun w' hC => (by have cAx := hC.cell cAx; have cAy := hC.cell cAy; have cBx := hC.cell cBx; have cBy := hC.cell cBy; go_simp; rfl)) (fun K hK => ?_); go_simp; refine hK _ ?_; clear hK K) | (refine calm_no rfl rfl (fun K hK => ?_); go_simp; refine hK _ ?_; clear hK K))
      (first | (refine calm_yes rfl rfl (fun w' hC => (by have cAx := hC.cell cAx; have cAy := hC.cell cAy; have cBx := hC.cell cBx; have cBy := hC.cell cBy; go_simp; rfl)) (fun K hK => ?_); go_simp; refine hK _ ?_; clear hK K) | (refine calm_no rfl rfl (fun K hK => ?_); go_simp; refine hK _ ?_; clear hK K))
      (first | (refine calm_yes rfl rfl (fun w' hC => (by have cAx := hC.cell cAx; have cAy := hC.cell cAy; have cBx := hC.cell cBx; have cBy := hC.cell cBy; go_simp; rfl)) (fun K hK => ?_); go_simp; refine hK _ ?_; clear hK K) | (refine calm_no rfl rfl (fun K hK => ?_); go_simp; refine hK _ ?_; clear hK K))
      (first | (refine calm_yes rfl rfl (fun w' hC => (by have cAx := hC.cell cAx; have cAy := hC.cell cAy; have cBx := hC.cell cBx; have cBy := hC.cell cBy; go_simp; rfl)) (fun K hK => ?_); go_simp; refine hK _ ?_; clear hK K) | (refine calm_no rfl rfl (fun K hK => ?_); go_simp; refine hK _ ?_; clear hK K))
      (first | (refine calm_yes rfl rfl (fun w' hC => (by have cAx := hC.cell cAx; have cAy := hC.cell cAy; have cBx := hC.cell cBx; have cBy := hC.cell cBy; go_simp; rfl)) (fun K hK => ?_); go_simp; refine hK _ ?_; clear hK K) | (refine calm_no rfl rfl (fun K hK => ?_); go_simp; refine hK _ ?_; clear hK K))
      (first | (refine calm_yes rfl rfl (fun w' hC => (by have cAx := hC.cell cAx; have cAy := hC.cell cAy; have cBx := hC.cell cBx; have cBy := hC.cell cBy; go_simp; rfl)) (fun K hK => ?_); go_simp; refine hK _ ?_; clear hK K) | (refine calm_no rfl rfl (fun K hK => ?_); go_simp; refine hK _ ?_; clear hK K))
      (first | (refine calm_yes rfl rfl (fun w' hC => (by have cAx := hC.cell cAx; have cAy := hC.cell cAy; have cBx := hC.cell cBx; have cBy := hC.cell cBy; go_simp; rfl)) (fun K hK => ?_); go_simp; refine hK _ ?_; clear hK K) | (refine calm_no rfl rfl (fun K hK => ?_); go_simp; refine hK _ ?_; clear hK K))
      (first | (refine calm_yes rfl rfl (fun w' hC => (by have cAx := hC.cell cAx; have cAy := hC.cell cAy; have cBx := hC.cell cBx; have cBy := hC.cell cBy; go_simp; rfl)) (fun K hK => ?_); go_simp; refine hK _ ?_; clear hK K) | (refine calm_no rfl rfl (fun K hK => ?_); go_simp; refine hK _ ?_; clear hK K))
      (first | (refine calm_yes rfl rfl (fun w' hC => (by have cAx := hC.cell cAx; have cAy := hC.cell cAy; have cBx := hC.cell cBx; have cBy := hC.cell cBy; go_simp; rfl)) (fun K hK => ?_); go_simp; refine hK _ ?_; clear hK K) | (refine calm_no rfl rfl (fun K hK => ?_); go_simp; refine hK _ ?_; clear hK K))
      (first | (refine calm_yes rfl rfl (fun w' hC => (by have cAx := hC.cell cAx; have cAy := hC.cell cAy; have cBx := hC.cell cBx; have cBy := hC.cell cBy; go_simp; rfl)) (fun K hK => ?_); go_simp; refine hK _ ?_; clear hK K) | (refine calm_no rfl rfl (fun K hK => ?_); go_simp; refine hK _ ?_; clear hK K))
      (first | (refine calm_yes rfl rfl (fun w' hC => (by have cAx := hC.cell cAx; have cAy := hC.cell cAy; have cBx := hC.cell cBx; have cBy := hC.cell cBy; go_simp; rfl)) (fun K hK => ?_); go_simp; refine hK _ ?_; clear hK K) | (refine calm_no rfl rfl (fun K hK => ?_); go_simp; refine hK _ ?_; clear hK K))
      (first | (refine calm_yes rfl rfl (fun w' hC => (by have cAx := hC.cell cAx; have cAy := hC.cell cAy; have cBx := hC.cell cBx; have cBy := hC.cell cBy; go_simp; rfl)) (fun K hK => ?_); go_simp; refine hK _ ?_; clear hK K) | (refine calm_no rfl rfl (fun K hK => ?_); go_simp; refine hK _ ?_; clear hK K))
      (first | (refine calm_yes rfl rfl (fun w' hC => (by have cAx := hC.cell cAx; have cAy := hC.cell cAy; have cBx := hC.cell cBx; have cBy := hC.cell cBy; go_simp; rfl)) (fun K hK => ?_); go_simp; refine hK _ ?_; clear hK K) | (refine calm_no rfl rfl (fun K hK => ?_); go_simp; refine hK _ ?_; clear hK K))
      (first | (refine calm_yes rfl rfl (fun w' hC => (by have cAx := hC.cell cAx; have cAy := hC.cell cAy; have cBx := hC.cell cBx; have cBy := hC.cell cBy; go_simp; rfl)) (fun K hK => ?_); go_simp; refine hK _ ?_; clear hK K) | (refine calm_no rfl rfl (fun K hK => ?_); go_simp; refine hK _ ?_; clear hK K))
      (first | (refine calm_yes rfl rfl (fun w' hC => (by have cAx := hC.cell cAx; have cAy := hC.cell cAy; have cBx := hC.cell cBx; have cBy := hC.cell cBy; go_simp; rfl)) (fun K hK => ?_); go_simp; refine hK _ ?_; clear hK K) | (refine calm_no rfl rfl (fun K hK => ?_); go_simp; refine hK _ ?_; clear hK K))
      (first | (refine calm_yes rfl rfl (fun w' hC => (by have cAx := hC.cell cAx; have cAy := hC.cell cAy; have cBx := hC.cell cBx; have cBy := hC.cell cBy; go_simp; rfl)) (fun K hK => ?_); go_simp; refine hK _ ?_; clear hK K) | (refine calm_no rfl rfl (fun K hK => ?_); go_simp; refine hK _ ?_; clear hK K))
      (first | (refine calm_yes rfl rfl (fun w' hC => (by have cAx := hC.cell cAx; have cAy := hC.cell cAy; have cBx := hC.cell cBx; have cBy := hC.cell cBy; go_simp; rfl)) (fun K hK => ?_); go_simp; refine hK _ ?_; clear hK K) | (refine calm_no rfl rfl (fun K hK => ?_); go_simp; refine hK _ ?_; clear hK K))
      (first | (refine calm_yes rfl rfl (fun w' hC => (by have cAx := hC.cell cAx; have cAy := hC.cell cAy; have cBx := hC.cell cBx; have cBy := hC.cell cBy; go_simp; rfl)) (fun K hK => ?_); go_simp; refine hK _ ?_; clear hK K) | (refine calm_no rfl rfl (fun K hK => ?_); go_simp; refine hK _ ?_; clear hK K))
      (first | (refine calm_yes rfl rfl (fun w' hC => (by have cAx := hC.cell cAx; have cAy := hC.cell cAy; have cBx := hC.cell cBx; have cBy := hC.cell cBy; go_simp; rfl)) (fun K hK => ?_); go_simp; refine hK _ ?_; clear hK K) | (refine calm_no rfl rfl (fun K hK => ?_); go_simp; refine hK _ ?_; clear hK K))
      (first | (refine calm_yes rfl rfl (fun w' hC => (by have cAx := hC.cell cAx; have cAy := hC.cell cAy; have cBx := hC.cell cBx; have cBy := hC.cell cBy; go_simp; rfl)) (fun K hK => ?_); go_simp; refine hK _ ?_; clear hK K) | (refine calm_no rfl rfl (fun K hK => ?_); go_simp; refine hK _ ?_; clear hK K))
      (first | (refine calm_yes rfl rfl (fun w' hC => (by have cAx := hC.cell cAx; have cAy := hC.cell cAy; have cBx := hC.cell cBx; have cBy := hC.cell cBy; go_simp; rfl)) (fun K hK => ?_); go_simp; refine hK _ ?_; clear hK K) | (refine calm_no rfl rfl (fun K hK => ?_); go_simp; refine hK _ ?_; clear hK K))
      (first | (refine calm_yes rfl rfl (fun w' hC => (by have cAx := hC.cell cAx; have cAy := hC.cell cAy; have cBx := hC.cell cBx; have cBy := hC.cell cBy; go_simp; rfl)) (fun K hK => ?_); go_simp; refine hK _ ?_; clear hK K) | (refine calm_no rfl rfl (fun K hK => ?_); go_simp; refine hK _ ?_; clear hK K))
      (first | (refine calm_yes rfl rfl (fun w' hC => (by have cAx := hC.cell cAx; have cAy := hC.cell cAy; have cBx := hC.cell cBx; have cBy := hC.cell cBy; go_simp; rfl)) (fun K hK => ?_); go_simp; refine hK _ ?_; clear hK K) | (refine calm_no rfl rfl (fun K hK => ?_); go_simp; refine hK _ ?_; clear hK K))
      (first | (refine calm_yes rfl rfl (fun w' hC => (by have cAx := hC.cell cAx; have cAy := hC.cell cAy; have cBx := hC.cell cBx; have cBy := hC.cell cBy; go_simp; rfl)) (fun K hK => ?_); go_simp; refine hK _ ?_; clear hK K) | (refine calm_no rfl rfl (fun K hK => ?_); go_simp; refine hK _ ?_; clear hK K))
      (first | (refine calm_yes rfl rfl (fun w' hC => (by have cAx := hC.cell cAx; have cAy := hC.cell cAy; have cBx := hC.cell cBx; have cBy := hC.cell cBy; go_simp; rfl)) (fun K hK => ?_); go_simp; refine hK _ ?_; clear hK K) | (refine calm_no rfl rfl (fun K hK => ?_); go_simp; refine hK _ ?_; clear hK K))
      (first | (refine calm_yes rfl rfl (fun w' hC => (by have cAx := hC.cell cAx; have cAy := hC.cell cAy; have cBx := hC.cell cBx; have cBy := hC.cell cBy; go_simp; rfl)) (fun K hK => ?_); go_simp; refine hK _ ?_; clear hK K) | (refine calm_no rfl rfl (fun K hK => ?_); go_simp; refine hK _ ?_; clear hK K))
      (first | (refine calm_yes rfl rfl (fun w' hC => (by have cAx := hC.cell cAx; have cAy := hC.cell cAy; have cBx := hC.cell cBx; have cBy := hC.cell cBy; go_simp; rfl)) (fun K hK => ?_); go_simp; refine hK _ ?_; clear hK K) | (refine calm_no rfl rfl (fun K hK => ?_); go_simp; refine hK _ ?_; clear hK K))
      (first | (refine calm_yes rfl rfl (fun w' hC => (by have cAx := hC.cell cAx; have cAy := hC.cell cAy; have cBx := hC.cell cBx; have cBy := hC.cell cBy; go_simp; rfl)) (fun K hK => ?_); go_simp; refine hK _ ?_; clear hK K) | (refine calm_no rfl rfl (fun K hK => ?_); go_simp; refine hK _ ?_; clear hK K))
      refine calm_done (fun w4 hb => ?_)
      clear cAx cAy cBx cBy
      replace E := Lib.hid (Ext.trans E.out hb)
      replace Q2 := Lib.hid (Q2.out.ext rgR_stab hb)
      replace Q3 := Lib.hid (Q3.out.ext rgR_stab hb)
      replace Ax := Lib.hid (Cls.cell hb Ax.out)
      replace Ay := Lib.hid (Cls.cell hb Ay.out)
      replace Bx := Lib.hid (Cls.cell hb Bx.out)
      replace By := Lib.hid (Cls.cell hb By.out)
      clear hb
      have cAx := Ax.out
      have cAy := Ay.out
      have cBx := Bx.out
      have cBy := By.out
      go_wp2_with fail
      clear cAx cAy cBx cBy
      refine (c_equalRings A2 A3 cap2 cap3 rs _ Q2.out Q3.out (by omega) Hq.out).mono ?_
      rintro e w5 ⟨rfl, hb⟩
      replace E := Lib.hid (Ext.trans E.out hb)
      replace Q2 := Lib.hid (Q2.out.ext rgR_stab hb)
      replace Q3 := Lib.hid (Q3.out.ext rgR_stab hb)
      replace Ax := Lib.hid (Cls.cell hb Ax.out)
      replace Ay := Lib.hid (Cls.cell hb Ay.out)
      replace Bx := Lib.hid (Cls.cell hb Bx.out)
      replace By := Lib.hid (Cls.cell hb By.out)
      clear hb
      have cAx := Ax.out
      have cAy := Ay.out
      have cBx := Bx.out
      have cBy := By.out
      go_wp2
      go_ret
      exact ⟨rfl, E.out⟩
  · have hnI : (1048576 : Int) < (bs.length : Int) := by omega
    clear h
    go_enter Try.func4, Try.ntmps4
    go_wp2
    go_ret
    exact ⟨rfl, Below.refl _ _⟩

theorem opens0 : Opens Try.prog 22 (slR byteR 1 ) :=  opens_slice Try.underlying22 (by kernel_rfl) (by decide) (opens_byte Try.underlying5)
set_option maxRecDepth 100000 in
theorem lifted (os : Os) (started : os.Started) (H : Type) (enc : TypeId × Value → H) :
    ReturnsInHanded {} Try.checked os 4 .any (Rows.fnStrokeRingsLevelSpec.pre6 enc Try.prog Try.f4 Rows.fnStrokeRingsLevelRow.domain false) (Rows.fnStrokeRingsLevelSpec.post enc Try.prog Try.f4 false true false false) := by
  refine returnsInHanded_of_change (C := Try.checked) own started (by kernel_rfl) Try.func4
    (ChangeSpec.witness6 (enc := enc) (C := Try.checked) false ⟨#[], #[.slice none 0 0], []⟩ 8 (by kernel_rfl) (by kernel_rfl) (by kernel_rfl) (by kernel_rfl)) ?_
  intro W base args ds gs before hval0 hW hcnd _
  have hval : ∀ (j : Nat) t v, Try.f4.params[j]? = some t → args[j]? = some v → Value.okWide Try.prog W .any base t v := hval0
  have hW' := hW
  obtain ⟨p, q, hA0, hV, rfl, hfz, hnd⟩ := hW
  have hA : DataW.TrodAll enc Try.prog W 0 (fun _ => true) true Try.f4.params.toList args.toList ds p := hA0
  rw [Try.params4] at hA hval
  obtain ⟨v0, vs0, d0, ds0, p0, q0, hargs, rfl, rfl, h0, r0⟩ := trodAll_cons hA
  obtain ⟨rfl, rfl, rfl⟩ := trodAll_nil r0
  obtain rfl : args = #[v0] := by cases args; simp_all
  obtain ⟨rfl, rfl, rfl⟩ := trodVars_none hV
  obtain ⟨a0, len0, cap0, rfl⟩ := okWide_slice Try.underlying22 (hval 0 22 v0 rfl rfl)
  have k0 := h0
  have lt0 : ∀ x ∈ p0, x.block < W.heap.size := by obtain ⟨m, hm⟩ := k0; exact DataW.trod_lt m _ _ _ hm
  obtain ⟨xs0, rfl, w0, wl0, wc0⟩ := open_arg rfl opens0 h0
  clear hA0 hval0
  refine (walk a0 cap0 xs0 W w0 wl0 wc0).mono fun e W' ⟨he, bel⟩ => ?_
  subst he
  exact ⟨_, rfl, _, _, _, [], _, [], hW', trodAll_mk1 (shut_bool Try.underlying4 _), (trodAll_cons_mk (Below.trod laidOut (by kernel_rfl) (of_decide_eq_true (by kernel_rfl)) k0 bel lt0) trodAll_mk0), rfl, bel.frame _, fun h => by cases h⟩
theorem over : Rows.fnStrokeRingsLevelRow.holds Try.pinned (OpenSpec.ofChange Rows.fnStrokeRingsLevelSpec) :=
  OpenClaim.holds_of_wide 4 Try.f4 rfl rfl rfl rfl rfl rfl rfl ⟨rfl, rfl, rfl, rfl, rfl⟩ rfl rfl rfl rfl rfl (by kernel_rfl) Try.func4 (by kernel_rfl)
    (of_decide_eq_true (by kernel_rfl)) (by unfold Func.isWrapper; first | (rw [if_pos (by decide +kernel)]; kernel_rfl) | (rw [if_neg (by decide +kernel)]; exact ⟨rfl, rfl⟩))
    (fun os started H enc _ => lifted os started H enc)

theorem proved : Rows.FnStrokeRingsLevelSaid := over

end Go.Proofs.Ytjiikjkaadfalaa.fnStrokeRingsLevel

