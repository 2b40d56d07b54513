/- A clean polygon has the same box around it as the polygon that it was, whatever the bytes that the polygon is drawn from. -/
import Derived.Test.YtonilmpodijgeaaClean2
import Derived.Test.YtonilmpodijgeaaCleanBox
import Derived.Test.YtonilmpodijgeaaDrawClean
import Derived.Test.YtonilmpodijgeaaEqual
import Derived.Test.YtonilmpodijgeaaOpen
namespace Go.Proofs.Ytonilmpodijgeaa.fnCleanRingBox
open Go Go.RowKit Go.ChangeShapes Go.WideShapes Go.ChangeAt Go.Deep Reg

theorem own : ownKnob Try.prog.godebug = none := by kernel_rfl
theorem laidOut : laidOutB Try.prog = true := by kernel_rfl
theorem cleanN_le : ∀ (k : Nat) (xs : List Pt), (cleanN k xs).length ≤ xs.length := by
  intro k
  induction k with
  | zero => intro xs; exact Nat.le_refl _
  | succ k ih =>
    intro xs
    simp only [cleanN]
    split
    · exact Nat.le_refl _
    · rename_i i hi
      exact Nat.le_trans (ih _) (List.length_eraseIdx_le ..)
theorem cleanR_le (ps : List Pt) : (cleanR ps).length ≤ ps.length := by
  unfold cleanR
  split
  · exact cleanN_le _ _
  · simp

set_option maxRecDepth 100000 in
set_option maxHeartbeats 4000000 in
theorem walk (A : Option Addr) (cap : Nat) (bs : List Int) (w : World) (h : In byteR 1 w A bs) (hlc : bs.length ≤ cap) (hcm : cap ≤ maxLen) :
    Calls Try.prog 10 #[.slice A bs.length cap] w fun e w' => e = .returned (.bool true) ∧ Below w.heap.size w w' := by
  unfold maxLen at hcm
  by_cases hn : bs.length ≤ 1048576
  · have hnI : ¬ (1048576 : Int) < (bs.length : Int) := by omega
    go_enter Try.func10, Try.ntmps10
    go_wp2_with fail
    refine (c_DrawCleanRing A cap bs w h hlc (by omega)).mono ?_
    rintro e w1 ⟨A1, cap1, ps, rfl, hps, ho1, hb1⟩
    have O1 := Lib.hid ho1
    have E1 := Lib.hid hb1
    have P1 : Hid (Pts w1 A1 ps) := Lib.hid (own_in (R := ptR) (enc := ptC) ptC_len (by decide) O1.out (fun _ => rfl))
    have hle := cleanR_le ps
    have Hbx : Hid ((cleanR ps).length ≠ 0 → boxR (cleanR ps) = boxR ps ∧ boxOk1 ps = true ∧ boxOk1 (cleanR ps) = true) := Lib.hid boxR_cleanR
    generalize hR : cleanR ps = rs at *
    have HR := Lib.hid hR
    clear ho1 hb1 hR h hn
    go_wp2_with fail
    refine (c_iCleanRing _ _ ps w1 P1.out O1.out.slok (by omega)).mono ?_; rw [HR.out]; rintro e w2 ⟨A2, cap2, rfl, ho2, hb2⟩
    have E2 := Lib.hid (Ext.trans E1.out hb2)
    have P2 := Lib.hid (P1.out.ext ptR_stab hb2)
    have Q2 : Hid (Pts w2 A2 rs) := Lib.hid (own_in (R := ptR) (enc := ptC) ptC_len (by decide) ho2 (fun _ => rfl))
    clear ho2 hb2
    go_wp2_with fail
    refine (c_sCleanRing _ _ ps w2 P2.out (by omega)).mono ?_; rw [HR.out]; rintro e w3 ⟨A3, cap3, rfl, hp3, hb3⟩
    have P3 := Lib.hid hp3
    have E3 := Lib.hid (Ext.trans E2.out hb3)
    have Q3 := Lib.hid (Q2.out.ext ptR_stab hb3)
    have PP3 := Lib.hid (P2.out.ext ptR_stab hb3)
    clear hp3 hb3
    go_wp2_with fail
    refine (c_equalPoints A2 A3 cap2 cap3 rs rs w3 Q3.out P3.out (by omega) (by omega)).mono ?_
    rw [decide_eq_true (rfl : rs = rs)]; rintro e w4 ⟨rfl, hb4⟩
    have E4 := Lib.hid (Ext.trans E3.out hb4)
    have Q4 := Lib.hid (Q3.out.ext ptR_stab hb4)
    have PP4 := Lib.hid (PP3.out.ext ptR_stab hb4)
    clear hb4
    by_cases h0 : rs.length = 0
    · have hb : (((rs.length : Nat) : Int) == 0) = true := by simp; exact List.eq_nil_of_length_eq_zero h0
      clear h0
      go_wp2_with fail
      refine (c_sCleanRing _ _ ps w4 PP4.out (by omega)).mono ?_; rw [HR.out]; rintro e w5 ⟨A5, cap5, rfl, hp5, hb5⟩
      have P5 := Lib.hid hp5
      have E5 := Lib.hid (Ext.trans E4.out hb5)
      have Q5 := Lib.hid (Q4.out.ext ptR_stab hb5)
      clear hp5 hb5
      go_wp2_with fail
      refine (c_equalPoints A2 A5 cap2 cap5 rs rs w5 Q5.out P5.out (by omega) (by omega)).mono ?_
      rw [decide_eq_true (rfl : rs = rs)]; rintro e w6 ⟨rfl, hb6⟩
      have E6 := Lib.hid (Ext.trans E5.out hb6)
      clear hb6
      go_wp2
      go_ret
      exact ⟨rfl, E6.out⟩
    · have hb : (((rs.length : Nat) : Int) == 0) = false := by simp; intro hh; subst hh; simp at h0
      obtain ⟨g1, g2, g3⟩ := Hbx.out h0
      have G := Lib.hid (And.intro g1 (And.intro g2 g3))
      clear h0 g1 g2 g3
      obtain ⟨B, hB⟩ : ∃ B, boxR ps = B := ⟨_, rfl⟩
      have HB := Lib.hid hB
      clear hB
      go_wp2_with fail
      refine (c_BoxOf A1 cap1 ps w4 PP4.out (by omega)).mono ?_; rw [HB.out, G.out.2.1]; rintro e w5 ⟨rfl, hb5⟩
      have E5 := Lib.hid (Ext.trans E4.out hb5)
      have Q5 := Lib.hid (Q4.out.ext ptR_stab hb5)
      have R5 := Lib.hid (Row.new w5 34 (bxC B))
      clear hb5
      go_wp2_with fail
      refine (c_BoxOf A2 cap2 rs _ (Q5.out.ext ptR_stab (ext_alloc _ _)) (by omega)).mono ?_; rw [G.out.1, HB.out, G.out.2.2]; rintro e w6 ⟨rfl, hb6⟩
      have R6 := R5.out.ext hb6
      have E6 := Lib.hid (Ext.trans (Ext.trans E5.out (ext_alloc _ _)) hb6)
      have c0 := R6.cell_of (i := 0) rfl
      have c1 := R6.cell_of (i := 1) rfl
      have c2 := R6.cell_of (i := 2) rfl
      have c3 := R6.cell_of (i := 3) rfl
      have hgl := R6.lt
      have E7 := Lib.hid (Ext.trans E6.out (ext_alloc w6 (.cells (bxC B).toArray 34)))
      clear R6 hb6
      go_wp2
      go_ret
      exact ⟨rfl, E7.out⟩
  · have hnI : (1048576 : Int) < (bs.length : Int) := by omega
    go_enter Try.func10, Try.ntmps10
    go_wp2
    go_ret
    exact ⟨rfl, Below.refl _ _⟩

theorem opens0 : Opens Try.prog 47 (slR byteR 1 ) :=  opens_slice Try.underlying47 (by kernel_rfl) (by decide) (opens_byte Try.underlying5)
set_option maxRecDepth 100000 in
theorem lifted (os : Os) (started : os.Started) (H : Type) (enc : TypeId × Value → H) :
    ReturnsInHanded {} Try.checked os 10 .any (Rows.fnCleanRingBoxSpec.pre6 enc Try.prog Try.f10 Rows.fnCleanRingBoxRow.domain false) (Rows.fnCleanRingBoxSpec.post enc Try.prog Try.f10 false true false false) := by
  refine returnsInHanded_of_change (C := Try.checked) own started (by kernel_rfl) Try.func10
    (ChangeSpec.witness6 (enc := enc) (C := Try.checked) false ⟨#[], #[.slice none 0 0], []⟩ 8 (by kernel_rfl) (by kernel_rfl) (by kernel_rfl) (by kernel_rfl)) ?_
  intro W base args ds gs before hval0 hW hcnd _
  have hval : ∀ (j : Nat) t v, Try.f10.params[j]? = some t → args[j]? = some v → Value.okWide Try.prog W .any base t v := hval0
  have hW' := hW
  obtain ⟨p, q, hA0, hV, rfl, hfz, hnd⟩ := hW
  have hA : DataW.TrodAll enc Try.prog W 0 (fun _ => true) true Try.f10.params.toList args.toList ds p := hA0
  rw [Try.params10] at hA hval
  obtain ⟨v0, vs0, d0, ds0, p0, q0, hargs, rfl, rfl, h0, r0⟩ := trodAll_cons hA
  obtain ⟨rfl, rfl, rfl⟩ := trodAll_nil r0
  obtain rfl : args = #[v0] := by cases args; simp_all
  obtain ⟨rfl, rfl, rfl⟩ := trodVars_none hV
  obtain ⟨a0, len0, cap0, rfl⟩ := okWide_slice Try.underlying47 (hval 0 47 v0 rfl rfl)
  have k0 := h0
  have lt0 : ∀ x ∈ p0, x.block < W.heap.size := by obtain ⟨m, hm⟩ := k0; exact DataW.trod_lt m _ _ _ hm
  obtain ⟨xs0, rfl, w0, wl0, wc0⟩ := open_arg rfl opens0 h0
  clear hA0 hval0
  refine (walk a0 cap0 xs0 W w0 wl0 wc0).mono fun e W' ⟨he, bel⟩ => ?_
  subst he
  exact ⟨_, rfl, _, _, _, [], _, [], hW', trodAll_mk1 (shut_bool Try.underlying4 _), (trodAll_cons_mk (Below.trod laidOut (by kernel_rfl) (of_decide_eq_true (by kernel_rfl)) k0 bel lt0) trodAll_mk0), rfl, bel.frame _, fun h => by cases h⟩
theorem over : Rows.fnCleanRingBoxRow.holds Try.pinned (OpenSpec.ofChange Rows.fnCleanRingBoxSpec) :=
  OpenClaim.holds_of_wide 10 Try.f10 rfl rfl rfl rfl rfl rfl rfl ⟨rfl, rfl, rfl, rfl, rfl⟩ rfl rfl rfl rfl rfl (by kernel_rfl) Try.func10 (by kernel_rfl)
    (of_decide_eq_true (by kernel_rfl)) (by unfold Func.isWrapper; first | (rw [if_pos (by decide +kernel)]; kernel_rfl) | (rw [if_neg (by decide +kernel)]; exact ⟨rfl, rfl⟩))
    (fun os started H enc _ => lifted os started H enc)

theorem proved : Rows.FnCleanRingBoxSaid := over

end Go.Proofs.Ytonilmpodijgeaa.fnCleanRingBox
