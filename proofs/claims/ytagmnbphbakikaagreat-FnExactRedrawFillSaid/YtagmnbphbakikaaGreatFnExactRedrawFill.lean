/- RedrawFill of the program and RedrawFill of the reference return the same for every scene, place and fill, in memory of its own; the arguments are left as they were. -/
import Derived.Test.YtagmnbphbakikaaGreatFillE
import Derived.Test.YtagmnbphbakikaaGreatMg22
import Derived.Test.YtagmnbphbakikaaGreatMg27
import Derived.Test.YtagmnbphbakikaaGreatMg9
import Derived.Test.YtagmnbphbakikaaGreatJoin
namespace Go.Proofs.YtagmnbphbakikaaGreat.fnExactRedrawFill
open Go Go.RowKit Go.ChangeShapes Go.WideShapes Go.ChangeAt Go.Deep Reg
attribute [local go_sem] calmAt calmUpon

theorem own : ownKnob Tryz.prog.godebug = none := by kernel_rfl
theorem laidOut : laidOutB Tryz.prog = true := by kernel_rfl
def FF (W H : Int) (fs : List FlD) (y : FlD) : Nat → Value → World → Prop := fun i v w => match i with
  | 1 => ∃ b, v = .agg #[.int .i64 W, .int .i64 H, .slice (some ⟨b, 0, none⟩) fs.length fs.length] ∧ Fls w (some ⟨b, 0, none⟩) fs
  | 4 => ∃ xs : List Value, v = .agg xs.toArray ∧ flR w y xs
  | _ => True
theorem ff_ext (W H : Int) (fs : List FlD) (y : FlD) : ∀ i v w w', FF W H fs y i v w → Ext w w' → FF W H fs y i v w' := by
  intro i v w w' h hx
  unfold FF at *
  split at h
  · obtain ⟨b, h1, h2⟩ := h; exact ⟨b, h1, h2.ext flR_stab hx⟩
  · obtain ⟨xs, h1, h2⟩ := h; exact ⟨xs, h1, flR_stab _ _ _ _ h2 hx⟩
  · trivial
set_option maxRecDepth 100000 in
set_option maxHeartbeats 16000000 in
theorem walk (x : Int × Int × List FlD) (xs : List Value) (at_ : Int) (y : FlD) (ys : List Value) (w : World) (hu : scR w x xs) (hv : flR w y ys) :
    Calls Tryz.prog 3 #[.agg xs.toArray, .int .i64 at_, .agg ys.toArray] w fun e w' => e = .returned (.bool true) ∧ Below w.heap.size w w' := by
  obtain ⟨W, H, fs⟩ := x
  obtain ⟨A, cap, rfl, hF, hsl⟩ := hu
  obtain ⟨us, r, ⟨fx, fy⟩, ⟨tx, ty⟩, ts⟩ := y
  obtain ⟨A1, c1, A2, c2, rfl, hvb, s1, hst, s2⟩ := hv
  dsimp only at hF hsl hvb s1 hst s2
  have hl9 : fs.length ≤ 9223372036854775807 := by have h := hsl.2; unfold maxLen at h; omega
  have P := Lib.hid hF
  have HF := Lib.hid hvb
  have HS := Lib.hid hst
  have E := Lib.hid (Below.refl w.heap.size w)
  obtain ⟨M, hM⟩ : ∃ M, rdR W H fs at_ (us, r, (fx, fy), (tx, ty), ts) = M := ⟨_, rfl⟩
  have HML : Hid (M.1.2.2.length ≤ 1048576) := Lib.hid (by rw [← hM]; exact rdR_len W H fs at_ (us, r, (fx, fy), (tx, ty), ts))
  obtain ⟨⟨MW, MH, ms⟩, md⟩ := M
  have hml : ms.length ≤ 1048576 := HML.out
  have HM := Lib.hid hM
  clear hM hF hvb hst HML
  go_enter Tryz.func3, Tryz.ntmps3
  go_wp2_with fail
  first | refine gen_calls ?_ | refine gen_code ?_ | refine gen_list ?_
  intro w0 hW
  obtain ⟨hb, hR0, hR1⟩ := new2 hW
  clear hW
  replace E := Lib.hid (Ext.trans E.out hb)
  replace P := Lib.hid (P.out.ext flR_stab hb)
  replace HF := Lib.hid (HF.out.ext verbK_stab hb)
  replace HS := Lib.hid (HS.out.ext stR_stab hb)
  clear hb
  have R0 := Lib.hid hR0
  have lR0 := R0.out.lt
  clear hR0
  have R1 := Lib.hid hR1
  have lR1 := R1.out.lt
  clear hR1
  have k0 := R0.out.cell_of (i := 0) rfl
  have k1 := R0.out.cell_of (i := 1) rfl
  have k2 := R0.out.cell_of (i := 2) rfl
  have y0 := R1.out.cell_of (i := 0) rfl
  have y1 := R1.out.cell_of (i := 1) rfl
  have y2 := R1.out.cell_of (i := 2) rfl
  have y3 := R1.out.cell_of (i := 3) rfl
  have y4 := R1.out.cell_of (i := 4) rfl
  have y5 := R1.out.cell_of (i := 5) rfl
  have y6 := R1.out.cell_of (i := 6) rfl
  go_wp2_with fail
  clear k0 k1 k2 y0 y1 y2 y3 y4 y5 y6
  refine (c_szScene 1048576 W H A cap fs _ (by omega) (by omega) P.out hl9).mono ?_
  rintro e w1 ⟨m, rfl, hm, hb⟩
  replace E := Lib.hid (Ext.trans E.out hb)
  replace P := Lib.hid (P.out.ext flR_stab hb)
  replace HF := Lib.hid (HF.out.ext verbK_stab hb)
  replace HS := Lib.hid (HS.out.ext stR_stab hb)
  replace R0 := Lib.hid (R0.out.ext hb)
  have lR0 := R0.out.lt
  replace R1 := Lib.hid (R1.out.ext hb)
  have lR1 := R1.out.lt
  clear hb
  have k0 := R0.out.cell_of (i := 0) rfl
  have k1 := R0.out.cell_of (i := 1) rfl
  have k2 := R0.out.cell_of (i := 2) rfl
  have y0 := R1.out.cell_of (i := 0) rfl
  have y1 := R1.out.cell_of (i := 1) rfl
  have y2 := R1.out.cell_of (i := 2) rfl
  have y3 := R1.out.cell_of (i := 3) rfl
  have y4 := R1.out.cell_of (i := 4) rfl
  have y5 := R1.out.cell_of (i := 5) rfl
  have y6 := R1.out.cell_of (i := 6) rfl
  have Hm := Lib.hid hm
  clear hm
  by_cases hneg : m < 0
  · go_wp2
    go_ret
    exact ⟨rfl, E.out⟩
  · have hm1 := (Hm.out (by omega)).1
    have Hsm := Lib.hid (Hm.out (by omega)).2
    have hl := Hsm.out.1
    go_wp2_with fail
    clear k0 k1 k2 y0 y1 y2 y3 y4 y5 y6
    refine (c_szFill m A1 c1 (us, r, (fx, fy), (tx, ty), ts) A2 c2 _ (by omega) hm1 HF.out s1 s2).mono ?_
    rintro e w2 ⟨m2, rfl, hm2, hb⟩
    replace E := Lib.hid (Ext.trans E.out hb)
    replace P := Lib.hid (P.out.ext flR_stab hb)
    replace HF := Lib.hid (HF.out.ext verbK_stab hb)
    replace HS := Lib.hid (HS.out.ext stR_stab hb)
    replace R0 := Lib.hid (R0.out.ext hb)
    have lR0 := R0.out.lt
    replace R1 := Lib.hid (R1.out.ext hb)
    have lR1 := R1.out.lt
    clear hb
    have k0 := R0.out.cell_of (i := 0) rfl
    have k1 := R0.out.cell_of (i := 1) rfl
    have k2 := R0.out.cell_of (i := 2) rfl
    have y0 := R1.out.cell_of (i := 0) rfl
    have y1 := R1.out.cell_of (i := 1) rfl
    have y2 := R1.out.cell_of (i := 2) rfl
    have y3 := R1.out.cell_of (i := 3) rfl
    have y4 := R1.out.cell_of (i := 4) rfl
    have y5 := R1.out.cell_of (i := 5) rfl
    have y6 := R1.out.cell_of (i := 6) rfl
    have Hm2 := Lib.hid hm2
    clear hm2
    by_cases hneg2 : m2 < 0
    · go_wp2
      go_ret
      exact ⟨rfl, E.out⟩
    have Hsf := Lib.hid (Hm2.out (by omega)).2
    have hul : us.length ≤ 1048576 := Hsf.out.1
    have htl : ts.length ≤ 1048576 := Hsf.out.2.2.2
    have HSA := Lib.hid (show ∀ b : Nat, SlOk (some ⟨b, 0, none⟩) fs.length fs.length from fun b => slok_some hl)
    clear Hm Hm2 hl9
    have hFF := ff_ext W H fs (us, r, (fx, fy), (tx, ty), ts)
    go_wp2_with fail
    refine wp_region_invJ [0, 2, 3] [(1, some 31), (4, some 34), (5, some 35), (6, some 29), (7, some 36), (8, some 37), (9, some 8), (10, none), (11, some 9)] (by kernel_rfl) (by kernel_rfl)
      (FjJ 5 w2.heap.size ((MW, MH, ms), md) (FF W H fs (us, r, (fx, fy), (tx, ty), ts))) (fun _ _ _ _ h hx => h.ext hFF hx) ?_ ?_
    · intro vals w'
      refine FjJ.start (fun i hi hl v w => ?_) (fun i hi => ?_)
      · match i, hi with
        | 0, _ => trivial
        | 1, _ => exact absurd hl (by decide)
        | 2, _ => trivial
        | 3, _ => trivial
        | 4, _ => exact absurd hl (by decide)
      · rcases Nat.lt_or_ge i 12 with h9 | h9
        · match i, hi, h9 with
          | 5, _, _ => rfl
          | 6, _, _ => rfl
          | 7, _, _ => rfl
          | 8, _, _ => rfl
          | 9, _, _ => rfl
          | 10, _, _ => rfl
          | 11, _, _ => rfl
        · exact getD_out (n := 12) rfl h9
    iterate 3 ((refine calm_yes rfl rfl (fun w' hC => (by have k0 := hC.cell k0; have k1 := hC.cell k1; have k2 := hC.cell k2; have y0 := hC.cell y0; have y1 := hC.cell y1; have y2 := hC.cell y2; have y3 := hC.cell y3; have y4 := hC.cell y4; have y5 := hC.cell y5; have y6 := hC.cell y6; go_simp; rfl)) (fun K hK => ?_); go_simp; refine hK _ ?_; clear hK K))
    refine calm_nil ?_
    clear k0 k1 k2 y0 y1 y2 y3 y4 y5 y6
    refine ⟨List.forall_mem_cons.2 ⟨?_, List.forall_mem_cons.2 ⟨?_, List.forall_mem_cons.2 ⟨?_, List.forall_mem_cons.2 ⟨?_, List.forall_mem_cons.2 ⟨?_, List.forall_mem_cons.2 ⟨?_, List.forall_mem_cons.2 ⟨?_, List.forall_mem_cons.2 ⟨?_, List.forall_mem_cons.2 ⟨?_, by simp⟩⟩⟩⟩⟩⟩⟩⟩⟩, ?_⟩
    · exact FjJ.early_op (i := 1) (by decide) rfl (fun vals => rfl) rfl rfl Tryz.func8 (by kernel_rfl) rfl (fun vals => (by kernel_rfl)) hFF (fun w' hC => (c_toScene W H A cap fs w' (P.out.ext flR_stab (Below.trans (Below.refl _ w2).drew hC)) Hsm.out).mono fun e w'' ⟨b, cs9, he, _, hr, hf, hb⟩ => ⟨_, he, ⟨b, rfl, (hf.in_ hr).imp (fun _ _ h => flO_R h)⟩, hb⟩)
    · exact FjJ.early_op (i := 4) (by decide) rfl (fun vals => rfl) rfl rfl Tryz.func9 (by kernel_rfl) rfl (fun vals => (by kernel_rfl)) hFF (fun w' hC => (c_toFill A1 c1 (us, r, (fx, fy), (tx, ty), ts) A2 c2 w' (HF.out.ext verbK_stab (Below.trans (Below.refl _ w2).drew hC)) (HS.out.ext stR_stab (Below.trans (Below.refl _ w2).drew hC)) Hsf.out).mono fun e w'' ⟨xs, he, hu, hb⟩ => ⟨_, he, ⟨xs, rfl, flO_R hu⟩, hb⟩)
    · refine FjJ.call_op rfl (fun vals => rfl) (args := fun vals => #[vals 1, .int .i64 at_, vals 4]) rfl rfl Tryz.func7 (by kernel_rfl) rfl (fun vals => (by kernel_rfl)) hFF rfl (fun vals w' hC hE => ?_)
      obtain ⟨b1, k1, q1⟩ := hE 1 (by decide) (by kernel_rfl)
      obtain ⟨xs4, k4, q4⟩ := hE 4 (by decide) (by kernel_rfl)
      obtain ⟨A7, e7, A8, e8, rfl, hv7, s7, hs7, s8⟩ := q4
      dsimp only
      rw [k1, k4]
      refine (c_sRedrawFill W H _ fs.length fs at_ A7 e7 (us, r, (fx, fy), (tx, ty), ts) A8 e8 w' q1 (HSA.out b1) hv7 s7 hs7 s8 Hsm.out Hsf.out).mono ?_
      rw [HM.out]
      rintro e w'' ⟨A', cap', rfl, ho, hb⟩
      exact ⟨A', cap', rfl, ho, hb⟩
    · exact FjJ.move_op rfl (fun vals => rfl) rfl rfl (fun vals => (by kernel_rfl)) (by kernel_rfl)
    · exact FjJ.ext0_op rfl (fun vals => rfl) rfl rfl (fun vals => (by kernel_rfl)) (by kernel_rfl)
    · exact FjJ.ext1_op rfl (fun vals => rfl) rfl rfl (fun vals => (by kernel_rfl)) (by kernel_rfl)
    · exact FjJ.alloc_op rfl (fun vals => rfl) rfl rfl hFF rfl
    · exact FjJ.store_op rfl (fun vals => rfl) rfl rfl rfl (fun vals => (by kernel_rfl)) (fun vals => (by kernel_rfl)) (by kernel_rfl) (by kernel_rfl) (by kernel_rfl)
    · exact FjJ.asg_op rfl (fun vals => rfl) rfl rfl (fun vals => (by kernel_rfl)) (by kernel_rfl)
    · intro listed vals w3 hx hall hJ K hK
      obtain ⟨A3, cap3, g, k1, k8, k2, k3, ho⟩ := hJ.done (hall 5 (by decide)) (hall 9 (by decide)) (hall 10 (by decide)) (hall 11 (by decide))
      replace k1 : vals 9 = .pointer (some ⟨g, 0, none⟩) := k1
      replace k8 : vals 11 = .bool md := k8
      simp only [canon, List.foldl_cons, List.foldl_nil]
      rw [k1, k8]
      generalize vals = vv at *
      go_simp
      refine hK _ ?_
      clear hK K hJ hall k1 k8
      dsimp only at k3 ho
      have V3 := Lib.hid (cos_own ho)
      have RM := Lib.hid k3
      have lRM := k3.lt
      clear ho k3
      replace E := Lib.hid (Ext.trans E.out hx)
      replace P := Lib.hid (P.out.ext flR_stab hx)
      replace HF := Lib.hid (HF.out.ext verbK_stab hx)
      replace HS := Lib.hid (HS.out.ext stR_stab hx)
      replace R0 := Lib.hid (R0.out.ext hx)
      have lR0 := R0.out.lt
      replace R1 := Lib.hid (R1.out.ext hx)
      have lR1 := R1.out.lt
      clear hx
      have k0 := R0.out.cell_of (i := 0) rfl
      have k1 := R0.out.cell_of (i := 1) rfl
      have k2 := R0.out.cell_of (i := 2) rfl
      have y0 := R1.out.cell_of (i := 0) rfl
      have y1 := R1.out.cell_of (i := 1) rfl
      have y2 := R1.out.cell_of (i := 2) rfl
      have y3 := R1.out.cell_of (i := 3) rfl
      have y4 := R1.out.cell_of (i := 4) rfl
      have y5 := R1.out.cell_of (i := 5) rfl
      have y6 := R1.out.cell_of (i := 6) rfl
      clear k0 k1 k2 y0 y1 y2 y3 y4 y5 y6
      have E3 := Lib.hid E.out
      have P3 := Lib.hid P.out
      have F3 := Lib.hid HF.out
      have S3 := Lib.hid HS.out
      have V33 := Lib.hid V3.out
      have RM3 := Lib.hid RM.out
      have R30 := Lib.hid R0.out
      have R31 := Lib.hid R1.out
      clear E
      have E := Lib.hid (Below.refl w3.heap.size w3)
      have k0 := R0.out.cell_of (i := 0) rfl
      have k1 := R0.out.cell_of (i := 1) rfl
      have k2 := R0.out.cell_of (i := 2) rfl
      have y0 := R1.out.cell_of (i := 0) rfl
      have y1 := R1.out.cell_of (i := 1) rfl
      have y2 := R1.out.cell_of (i := 2) rfl
      have y3 := R1.out.cell_of (i := 3) rfl
      have y4 := R1.out.cell_of (i := 4) rfl
      have y5 := R1.out.cell_of (i := 5) rfl
      have y6 := R1.out.cell_of (i := 6) rfl
      go_wp2_with fail
      clear k0 k1 k2 y0 y1 y2 y3 y4 y5 y6
      refine (c_toScene W H A cap fs _ P.out Hsm.out).mono ?_
      rintro e w4 ⟨b4, cs4, rfl, hg4, hr4, hf4, hb⟩
      replace P := Lib.hid (P.out.ext flR_stab hb)
      replace HF := Lib.hid (HF.out.ext verbK_stab hb)
      replace HS := Lib.hid (HS.out.ext stR_stab hb)
      replace R0 := Lib.hid (R0.out.ext hb)
      have lR0 := R0.out.lt
      replace R1 := Lib.hid (R1.out.ext hb)
      have lR1 := R1.out.lt
      replace E := Lib.hid (Ext.trans E.out hb)
      replace V3 := Lib.hid (V3.out.ext coR_stab hb)
      replace RM := Lib.hid (RM.out.ext hb)
      have lRM := RM.out.lt
      clear hb
      have Q4 := Lib.hid (((hf4.in_ hr4).imp (fun _ _ h => flO_R h)))
      have RR := Lib.hid (hr4)
      clear hr4
      have FR := Lib.hid (hf4)
      clear hf4
      have k0 := R0.out.cell_of (i := 0) rfl
      have k1 := R0.out.cell_of (i := 1) rfl
      have k2 := R0.out.cell_of (i := 2) rfl
      have y0 := R1.out.cell_of (i := 0) rfl
      have y1 := R1.out.cell_of (i := 1) rfl
      have y2 := R1.out.cell_of (i := 2) rfl
      have y3 := R1.out.cell_of (i := 3) rfl
      have y4 := R1.out.cell_of (i := 4) rfl
      have y5 := R1.out.cell_of (i := 5) rfl
      have y6 := R1.out.cell_of (i := 6) rfl
      go_wp2_with fail
      clear k0 k1 k2 y0 y1 y2 y3 y4 y5 y6
      first | refine gen_calls ?_ | refine gen_code ?_ | refine gen_list ?_
      intro w5 hW
      obtain ⟨hb, hR5⟩ := new1 hW
      clear hW
      replace P := Lib.hid (P.out.ext flR_stab hb)
      replace HF := Lib.hid (HF.out.ext verbK_stab hb)
      replace HS := Lib.hid (HS.out.ext stR_stab hb)
      replace R0 := Lib.hid (R0.out.ext hb)
      have lR0 := R0.out.lt
      replace R1 := Lib.hid (R1.out.ext hb)
      have lR1 := R1.out.lt
      replace E := Lib.hid (Ext.trans E.out hb)
      replace V3 := Lib.hid (V3.out.ext coR_stab hb)
      replace RM := Lib.hid (RM.out.ext hb)
      have lRM := RM.out.lt
      replace Q4 := Lib.hid (Q4.out.ext flR_stab hb)
      replace RR := Lib.hid (RR.out.ext hb)
      have lRR := RR.out.lt
      replace FR := Lib.hid (FR.out.ext hb)
      clear hb
      have R5 := Lib.hid hR5
      have lR5 := R5.out.lt
      clear hR5
      have k0 := R0.out.cell_of (i := 0) rfl
      have k1 := R0.out.cell_of (i := 1) rfl
      have k2 := R0.out.cell_of (i := 2) rfl
      have y0 := R1.out.cell_of (i := 0) rfl
      have y1 := R1.out.cell_of (i := 1) rfl
      have y2 := R1.out.cell_of (i := 2) rfl
      have y3 := R1.out.cell_of (i := 3) rfl
      have y4 := R1.out.cell_of (i := 4) rfl
      have y5 := R1.out.cell_of (i := 5) rfl
      have y6 := R1.out.cell_of (i := 6) rfl
      have hz35 : w3.heap.size ≤ w5.heap.size := E.out.size
      clear k0 k1 k2 y0 y1 y2 y3 y4 y5 y6
      have k0 := R0.out.cell_of (i := 0) rfl
      have k1 := R0.out.cell_of (i := 1) rfl
      have k2 := R0.out.cell_of (i := 2) rfl
      have y0 := R1.out.cell_of (i := 0) rfl
      have y1 := R1.out.cell_of (i := 1) rfl
      have y2 := R1.out.cell_of (i := 2) rfl
      have y3 := R1.out.cell_of (i := 3) rfl
      have y4 := R1.out.cell_of (i := 4) rfl
      have y5 := R1.out.cell_of (i := 5) rfl
      have y6 := R1.out.cell_of (i := 6) rfl
      have d0 := R5.out.cell_of (i := 0) rfl
      have d1 := R5.out.cell_of (i := 1) rfl
      have d2 := R5.out.cell_of (i := 2) rfl
      go_wp2_with fail
      clear k0 k1 k2 y0 y1 y2 y3 y4 y5 y6 d0 d1 d2
      refine (c_toFill A1 c1 (us, r, (fx, fy), (tx, ty), ts) A2 c2 _ HF.out HS.out Hsf.out).mono ?_
      rintro e w6 ⟨us6, rfl, hu6, hb⟩
      obtain ⟨b6, b8, rfl, hv6, hs6, hk6⟩ := FilK.of_flO hu6 hz35 (Nat.le_trans hz35 hb.size) Hsf.out
      replace P := Lib.hid (P.out.ext flR_stab hb)
      replace HF := Lib.hid (HF.out.ext verbK_stab hb)
      replace HS := Lib.hid (HS.out.ext stR_stab hb)
      replace R0 := Lib.hid (R0.out.ext hb)
      have lR0 := R0.out.lt
      replace R1 := Lib.hid (R1.out.ext hb)
      have lR1 := R1.out.lt
      replace E := Lib.hid (Ext.trans E.out hb)
      replace V3 := Lib.hid (V3.out.ext coR_stab hb)
      replace RM := Lib.hid (RM.out.ext hb)
      have lRM := RM.out.lt
      replace Q4 := Lib.hid (Q4.out.ext flR_stab hb)
      replace RR := Lib.hid (RR.out.ext hb)
      have lRR := RR.out.lt
      replace FR := Lib.hid (FR.out.ext hb)
      replace R5 := Lib.hid (R5.out.ext hb)
      have lR5 := R5.out.lt
      clear hb
      have V6 := Lib.hid (hv6)
      clear hv6
      have S6 := Lib.hid (hs6)
      clear hs6
      have L6 := Lib.hid (hk6)
      clear hk6
      have k0 := R0.out.cell_of (i := 0) rfl
      have k1 := R0.out.cell_of (i := 1) rfl
      have k2 := R0.out.cell_of (i := 2) rfl
      have y0 := R1.out.cell_of (i := 0) rfl
      have y1 := R1.out.cell_of (i := 1) rfl
      have y2 := R1.out.cell_of (i := 2) rfl
      have y3 := R1.out.cell_of (i := 3) rfl
      have y4 := R1.out.cell_of (i := 4) rfl
      have y5 := R1.out.cell_of (i := 5) rfl
      have y6 := R1.out.cell_of (i := 6) rfl
      have d0 := R5.out.cell_of (i := 0) rfl
      have d1 := R5.out.cell_of (i := 1) rfl
      have d2 := R5.out.cell_of (i := 2) rfl
      clear hu6
      clear k0 k1 k2 y0 y1 y2 y3 y4 y5 y6 d0 d1 d2
      have K4 : Hid (FlsK w3.heap.size w6.heap.size w6 (.slice (some ⟨b4, 0, none⟩) fs.length fs.length) fs.length) := Lib.hid ⟨⟨E.out.size, Nat.le_refl _⟩, FlsS.of_row FR.out RR.out hg4 Hsm.out⟩
      have k0 := R0.out.cell_of (i := 0) rfl
      have k1 := R0.out.cell_of (i := 1) rfl
      have k2 := R0.out.cell_of (i := 2) rfl
      have y0 := R1.out.cell_of (i := 0) rfl
      have y1 := R1.out.cell_of (i := 1) rfl
      have y2 := R1.out.cell_of (i := 2) rfl
      have y3 := R1.out.cell_of (i := 3) rfl
      have y4 := R1.out.cell_of (i := 4) rfl
      have y5 := R1.out.cell_of (i := 5) rfl
      have y6 := R1.out.cell_of (i := 6) rfl
      have d0 := R5.out.cell_of (i := 0) rfl
      have d1 := R5.out.cell_of (i := 1) rfl
      have d2 := R5.out.cell_of (i := 2) rfl
      go_wp2_with fail
      clear k0 k1 k2 y0 y1 y2 y3 y4 y5 y6 d0 d1 d2
      first | refine gen_calls ?_ | refine gen_code ?_ | refine gen_list ?_
      intro w7 hW
      obtain ⟨hb, hR7⟩ := new1 hW
      clear hW
      replace P := Lib.hid (P.out.ext flR_stab hb)
      replace HF := Lib.hid (HF.out.ext verbK_stab hb)
      replace HS := Lib.hid (HS.out.ext stR_stab hb)
      replace R0 := Lib.hid (R0.out.ext hb)
      have lR0 := R0.out.lt
      replace R1 := Lib.hid (R1.out.ext hb)
      have lR1 := R1.out.lt
      replace E := Lib.hid (Ext.trans E.out hb)
      replace V3 := Lib.hid (V3.out.ext coR_stab hb)
      replace RM := Lib.hid (RM.out.ext hb)
      have lRM := RM.out.lt
      replace Q4 := Lib.hid (Q4.out.ext flR_stab hb)
      replace R5 := Lib.hid (R5.out.ext hb)
      have lR5 := R5.out.lt
      replace V6 := Lib.hid (V6.out.ext verbK_stab hb)
      replace S6 := Lib.hid (S6.out.ext stR_stab hb)
      replace L6 := Lib.hid (L6.out.ext hb)
      replace K4 := Lib.hid (K4.out.ext hb)
      clear hb
      have R7 := Lib.hid hR7
      have lR7 := R7.out.lt
      clear hR7
      have k0 := R0.out.cell_of (i := 0) rfl
      have k1 := R0.out.cell_of (i := 1) rfl
      have k2 := R0.out.cell_of (i := 2) rfl
      have y0 := R1.out.cell_of (i := 0) rfl
      have y1 := R1.out.cell_of (i := 1) rfl
      have y2 := R1.out.cell_of (i := 2) rfl
      have y3 := R1.out.cell_of (i := 3) rfl
      have y4 := R1.out.cell_of (i := 4) rfl
      have y5 := R1.out.cell_of (i := 5) rfl
      have y6 := R1.out.cell_of (i := 6) rfl
      have d0 := R5.out.cell_of (i := 0) rfl
      have d1 := R5.out.cell_of (i := 1) rfl
      have d2 := R5.out.cell_of (i := 2) rfl
      have hz67 : w6.heap.size ≤ w7.heap.size := K4.out.1.2
      have hz37 : w3.heap.size ≤ w7.heap.size := E.out.size
      clear k0 k1 k2 y0 y1 y2 y3 y4 y5 y6 d0 d1 d2
      have k0 := R0.out.cell_of (i := 0) rfl
      have k1 := R0.out.cell_of (i := 1) rfl
      have k2 := R0.out.cell_of (i := 2) rfl
      have y0 := R1.out.cell_of (i := 0) rfl
      have y1 := R1.out.cell_of (i := 1) rfl
      have y2 := R1.out.cell_of (i := 2) rfl
      have y3 := R1.out.cell_of (i := 3) rfl
      have y4 := R1.out.cell_of (i := 4) rfl
      have y5 := R1.out.cell_of (i := 5) rfl
      have y6 := R1.out.cell_of (i := 6) rfl
      have d0 := R5.out.cell_of (i := 0) rfl
      have d1 := R5.out.cell_of (i := 1) rfl
      have d2 := R5.out.cell_of (i := 2) rfl
      have v0 := R7.out.cell_of (i := 0) rfl
      have v1 := R7.out.cell_of (i := 1) rfl
      have v2 := R7.out.cell_of (i := 2) rfl
      have v3 := R7.out.cell_of (i := 3) rfl
      have v4 := R7.out.cell_of (i := 4) rfl
      have v5 := R7.out.cell_of (i := 5) rfl
      have v6 := R7.out.cell_of (i := 6) rfl
      go_wp2_with fail
      clear k0 k1 k2 y0 y1 y2 y3 y4 y5 y6 d0 d1 d2 v0 v1 v2 v3 v4 v5 v6
      refine (c_iRedrawFill W H _ fs.length fs at_ _ _ (us, r, (fx, fy), (tx, ty), ts) _ _ _ Q4.out (HSA.out b4) V6.out (slok_some hul) S6.out (slok_some htl) Hsm.out Hsf.out).mono ?_
      rw [HM.out]
      rintro e w8 ⟨A5, cap5, rfl, ho5, hb⟩
      replace P := Lib.hid (P.out.ext flR_stab hb)
      replace HF := Lib.hid (HF.out.ext verbK_stab hb)
      replace HS := Lib.hid (HS.out.ext stR_stab hb)
      replace R0 := Lib.hid (R0.out.ext hb)
      have lR0 := R0.out.lt
      replace R1 := Lib.hid (R1.out.ext hb)
      have lR1 := R1.out.lt
      replace E := Lib.hid (Ext.trans E.out hb)
      replace V3 := Lib.hid (V3.out.ext coR_stab hb)
      replace RM := Lib.hid (RM.out.ext hb)
      have lRM := RM.out.lt
      replace Q4 := Lib.hid (Q4.out.ext flR_stab hb)
      replace R5 := Lib.hid (R5.out.ext hb)
      have lR5 := R5.out.lt
      replace V6 := Lib.hid (V6.out.ext verbK_stab hb)
      replace S6 := Lib.hid (S6.out.ext stR_stab hb)
      replace L6 := Lib.hid (L6.out.ext hb)
      replace K4 := Lib.hid (K4.out.ext hb)
      replace R7 := Lib.hid (R7.out.ext hb)
      have lR7 := R7.out.lt
      clear hb
      have O := Lib.hid (ho5)
      clear ho5
      have k0 := R0.out.cell_of (i := 0) rfl
      have k1 := R0.out.cell_of (i := 1) rfl
      have k2 := R0.out.cell_of (i := 2) rfl
      have y0 := R1.out.cell_of (i := 0) rfl
      have y1 := R1.out.cell_of (i := 1) rfl
      have y2 := R1.out.cell_of (i := 2) rfl
      have y3 := R1.out.cell_of (i := 3) rfl
      have y4 := R1.out.cell_of (i := 4) rfl
      have y5 := R1.out.cell_of (i := 5) rfl
      have y6 := R1.out.cell_of (i := 6) rfl
      have d0 := R5.out.cell_of (i := 0) rfl
      have d1 := R5.out.cell_of (i := 1) rfl
      have d2 := R5.out.cell_of (i := 2) rfl
      have v0 := R7.out.cell_of (i := 0) rfl
      have v1 := R7.out.cell_of (i := 1) rfl
      have v2 := R7.out.cell_of (i := 2) rfl
      have v3 := R7.out.cell_of (i := 3) rfl
      have v4 := R7.out.cell_of (i := 4) rfl
      have v5 := R7.out.cell_of (i := 5) rfl
      have v6 := R7.out.cell_of (i := 6) rfl
      have hz68 : w6.heap.size ≤ w8.heap.size := K4.out.1.2
      have hdd : (md != md) = false := by simp
      clear k0 k1 k2 y0 y1 y2 y3 y4 y5 y6 d0 d1 d2 v0 v1 v2 v3 v4 v5 v6
      have m0 := RM.out.cell_of (i := 0) rfl
      have m1 := RM.out.cell_of (i := 1) rfl
      have m2 := RM.out.cell_of (i := 2) rfl
      go_wp2_with fail
      clear m0 m1 m2
      first | refine gen_calls ?_ | refine gen_code ?_ | refine gen_list ?_
      intro w9 hW
      obtain ⟨hb, hR9⟩ := new1 hW
      clear hW
      replace P := Lib.hid (P.out.ext flR_stab hb)
      replace HF := Lib.hid (HF.out.ext verbK_stab hb)
      replace HS := Lib.hid (HS.out.ext stR_stab hb)
      replace R0 := Lib.hid (R0.out.ext hb)
      have lR0 := R0.out.lt
      replace R1 := Lib.hid (R1.out.ext hb)
      have lR1 := R1.out.lt
      replace E := Lib.hid (Ext.trans E.out hb)
      replace V3 := Lib.hid (V3.out.ext coR_stab hb)
      replace RM := Lib.hid (RM.out.ext hb)
      have lRM := RM.out.lt
      replace Q4 := Lib.hid (Q4.out.ext flR_stab hb)
      replace R5 := Lib.hid (R5.out.ext hb)
      have lR5 := R5.out.lt
      replace V6 := Lib.hid (V6.out.ext verbK_stab hb)
      replace S6 := Lib.hid (S6.out.ext stR_stab hb)
      replace L6 := Lib.hid (L6.out.ext hb)
      replace K4 := Lib.hid (K4.out.ext hb)
      replace R7 := Lib.hid (R7.out.ext hb)
      have lR7 := R7.out.lt
      replace O := Lib.hid (own_ext O.out hb)
      clear hb
      have R9 := Lib.hid hR9
      have lR9 := R9.out.lt
      clear hR9
      have m0 := RM.out.cell_of (i := 0) rfl
      have m1 := RM.out.cell_of (i := 1) rfl
      have m2 := RM.out.cell_of (i := 2) rfl
      clear m0 m1 m2
      have m0 := RM.out.cell_of (i := 0) rfl
      have m1 := RM.out.cell_of (i := 1) rfl
      have m2 := RM.out.cell_of (i := 2) rfl
      have x0 := R9.out.cell_of (i := 0) rfl
      have x1 := R9.out.cell_of (i := 1) rfl
      have x2 := R9.out.cell_of (i := 2) rfl
      go_wp2_with fail
      clear m0 m1 m2 x0 x1 x2
      refine (c_eqFrame MW MH A5 A3 cap5 cap3 ms _ (cos_own O.out) V3.out hml).mono ?_
      rintro e w9a ⟨rfl, hb⟩
      replace P := Lib.hid (P.out.ext flR_stab hb)
      replace HF := Lib.hid (HF.out.ext verbK_stab hb)
      replace HS := Lib.hid (HS.out.ext stR_stab hb)
      replace R0 := Lib.hid (R0.out.ext hb)
      have lR0 := R0.out.lt
      replace R1 := Lib.hid (R1.out.ext hb)
      have lR1 := R1.out.lt
      replace E := Lib.hid (Ext.trans E.out hb)
      replace V3 := Lib.hid (V3.out.ext coR_stab hb)
      replace RM := Lib.hid (RM.out.ext hb)
      have lRM := RM.out.lt
      replace Q4 := Lib.hid (Q4.out.ext flR_stab hb)
      replace R5 := Lib.hid (R5.out.ext hb)
      have lR5 := R5.out.lt
      replace V6 := Lib.hid (V6.out.ext verbK_stab hb)
      replace S6 := Lib.hid (S6.out.ext stR_stab hb)
      replace L6 := Lib.hid (L6.out.ext hb)
      replace K4 := Lib.hid (K4.out.ext hb)
      replace R7 := Lib.hid (R7.out.ext hb)
      have lR7 := R7.out.lt
      replace O := Lib.hid (own_ext O.out hb)
      replace R9 := Lib.hid (R9.out.ext hb)
      have lR9 := R9.out.lt
      clear hb
      have m0 := RM.out.cell_of (i := 0) rfl
      have m1 := RM.out.cell_of (i := 1) rfl
      have m2 := RM.out.cell_of (i := 2) rfl
      have x0 := R9.out.cell_of (i := 0) rfl
      have x1 := R9.out.cell_of (i := 1) rfl
      have x2 := R9.out.cell_of (i := 2) rfl
      clear m0 m1 m2 x0 x1 x2
      have k0 := R0.out.cell_of (i := 0) rfl
      have k1 := R0.out.cell_of (i := 1) rfl
      have k2 := R0.out.cell_of (i := 2) rfl
      have y0 := R1.out.cell_of (i := 0) rfl
      have y1 := R1.out.cell_of (i := 1) rfl
      have y2 := R1.out.cell_of (i := 2) rfl
      have y3 := R1.out.cell_of (i := 3) rfl
      have y4 := R1.out.cell_of (i := 4) rfl
      have y5 := R1.out.cell_of (i := 5) rfl
      have y6 := R1.out.cell_of (i := 6) rfl
      have d0 := R5.out.cell_of (i := 0) rfl
      have d1 := R5.out.cell_of (i := 1) rfl
      have d2 := R5.out.cell_of (i := 2) rfl
      have v0 := R7.out.cell_of (i := 0) rfl
      have v1 := R7.out.cell_of (i := 1) rfl
      have v2 := R7.out.cell_of (i := 2) rfl
      have v3 := R7.out.cell_of (i := 3) rfl
      have v4 := R7.out.cell_of (i := 4) rfl
      have v5 := R7.out.cell_of (i := 5) rfl
      have v6 := R7.out.cell_of (i := 6) rfl
      go_wp2_with fail
      refine wp_region_calm [0,1] [2,3,4] (by kernel_rfl) (by kernel_rfl) ?_
      iterate 2 ((refine calm_yes rfl rfl (fun w' hC => (by have k0 := hC.cell k0; have k1 := hC.cell k1; have k2 := hC.cell k2; have d0 := hC.cell d0; have d1 := hC.cell d1; have d2 := hC.cell d2; go_simp; rfl)) (fun K hK => ?_); go_simp; refine hK _ ?_; clear hK K))
      refine calm_nil (fun wa hCa => ?_)
      clear k0 k1 k2 y0 y1 y2 y3 y4 y5 y6 d0 d1 d2 v0 v1 v2 v3 v4 v5 v6
      have Ea := ext_cls hCa
      refine late_fn rfl rfl rfl Tryz.func8 (by kernel_rfl) rfl (by go_simp) (fun wb hxb K hK => (c_toScene W H A cap fs wb (P.out.ext flR_stab (Ext.trans Ea hxb)) Hsm.out).mono ?_)
      rintro e wc ⟨b7, cs7, rfl, _, hr7, hf7, hb⟩
      have Ec := Ext.trans (Ext.trans Ea hxb) hb
      have hCc := Cls.ext (Cls.ext hCa hxb) hb
      have Q7 := Lib.hid ((hf7.in_ hr7).imp (fun _ _ h => flO_R h))
      refine ⟨_, rfl, hK _ _ ⟨fun _ => hCc, ?_⟩⟩
      clear hK K
      refine late_fn rfl rfl rfl Tryz.func12 (by kernel_rfl) rfl (by go_simp) (fun wd hxd K hK => (c_eqScene W H _ _ fs.length fs.length fs wd (Q4.out.ext flR_stab (Ext.trans Ec hxd)) (Q7.out.ext flR_stab hxd) Hsm.out).mono ?_)
      rintro e we ⟨rfl, hbe⟩
      refine ⟨_, rfl, hK _ _ ⟨fun _ => Cls.ext (Cls.ext hCc hxd) hbe, ?_⟩⟩
      clear hK K
      have E8 := Lib.hid (Ext.trans Ec (Ext.trans hxd hbe))
      clear hr7 hf7 hb hbe hxb hxd hCa hCc Ea Ec Q7
      refine late_free (by kernel_rfl) rfl rfl (fun wf hxf K hK => ?_)
      go_simp
      refine hK _ _ ?_
      clear hK K
      refine late_nil (fun wz hxz => ?_)
      have hb := Ext.trans E8.out (Ext.trans hxf hxz)
      clear hxf hxz E8
      replace P := Lib.hid (P.out.ext flR_stab hb)
      replace HF := Lib.hid (HF.out.ext verbK_stab hb)
      replace HS := Lib.hid (HS.out.ext stR_stab hb)
      replace R0 := Lib.hid (R0.out.ext hb)
      have lR0 := R0.out.lt
      replace R1 := Lib.hid (R1.out.ext hb)
      have lR1 := R1.out.lt
      replace E := Lib.hid (Ext.trans E.out hb)
      replace V3 := Lib.hid (V3.out.ext coR_stab hb)
      replace RM := Lib.hid (RM.out.ext hb)
      have lRM := RM.out.lt
      replace Q4 := Lib.hid (Q4.out.ext flR_stab hb)
      replace R5 := Lib.hid (R5.out.ext hb)
      have lR5 := R5.out.lt
      replace V6 := Lib.hid (V6.out.ext verbK_stab hb)
      replace S6 := Lib.hid (S6.out.ext stR_stab hb)
      replace L6 := Lib.hid (L6.out.ext hb)
      replace K4 := Lib.hid (K4.out.ext hb)
      replace R7 := Lib.hid (R7.out.ext hb)
      have lR7 := R7.out.lt
      replace O := Lib.hid (own_ext O.out hb)
      replace R9 := Lib.hid (R9.out.ext hb)
      have lR9 := R9.out.lt
      clear hb
      have k0 := R0.out.cell_of (i := 0) rfl
      have k1 := R0.out.cell_of (i := 1) rfl
      have k2 := R0.out.cell_of (i := 2) rfl
      have y0 := R1.out.cell_of (i := 0) rfl
      have y1 := R1.out.cell_of (i := 1) rfl
      have y2 := R1.out.cell_of (i := 2) rfl
      have y3 := R1.out.cell_of (i := 3) rfl
      have y4 := R1.out.cell_of (i := 4) rfl
      have y5 := R1.out.cell_of (i := 5) rfl
      have y6 := R1.out.cell_of (i := 6) rfl
      have d0 := R5.out.cell_of (i := 0) rfl
      have d1 := R5.out.cell_of (i := 1) rfl
      have d2 := R5.out.cell_of (i := 2) rfl
      have v0 := R7.out.cell_of (i := 0) rfl
      have v1 := R7.out.cell_of (i := 1) rfl
      have v2 := R7.out.cell_of (i := 2) rfl
      have v3 := R7.out.cell_of (i := 3) rfl
      have v4 := R7.out.cell_of (i := 4) rfl
      have v5 := R7.out.cell_of (i := 5) rfl
      have v6 := R7.out.cell_of (i := 6) rfl
      go_wp2_with fail
      refine wp_region_calm [0,1] [2,3,4] (by kernel_rfl) (by kernel_rfl) ?_
      iterate 2 ((refine calm_yes rfl rfl (fun w' hC => (by have y0 := hC.cell y0; have y1 := hC.cell y1; have y2 := hC.cell y2; have y3 := hC.cell y3; have y4 := hC.cell y4; have y5 := hC.cell y5; have y6 := hC.cell y6; have v0 := hC.cell v0; have v1 := hC.cell v1; have v2 := hC.cell v2; have v3 := hC.cell v3; have v4 := hC.cell v4; have v5 := hC.cell v5; have v6 := hC.cell v6; go_simp; rfl)) (fun K hK => ?_); go_simp; refine hK _ ?_; clear hK K))
      refine calm_nil (fun wa hCa => ?_)
      clear k0 k1 k2 y0 y1 y2 y3 y4 y5 y6 d0 d1 d2 v0 v1 v2 v3 v4 v5 v6
      have Ea := ext_cls hCa
      refine late_fn rfl rfl rfl Tryz.func9 (by kernel_rfl) rfl (by go_simp) (fun wb hxb K hK => (c_toFill A1 c1 (us, r, (fx, fy), (tx, ty), ts) A2 c2 wb (HF.out.ext verbK_stab (Ext.trans Ea hxb)) (HS.out.ext stR_stab (Ext.trans Ea hxb)) Hsf.out).mono ?_)
      rintro e wc ⟨us7, rfl, hu7, hb⟩
      obtain ⟨A7, e7, A8, e8, rfl, hv7, _, hs7, _⟩ := flO_R hu7
      have Ec := Ext.trans (Ext.trans Ea hxb) hb
      have hCc := Cls.ext (Cls.ext hCa hxb) hb
      refine ⟨_, rfl, hK _ _ ⟨fun _ => hCc, ?_⟩⟩
      clear hK K
      refine late_fn rfl rfl rfl Tryz.func13 (by kernel_rfl) rfl (by go_simp) (fun wd hxd K hK => (c_eqFill (some ⟨b6, 0, none⟩) A7 us.length e7 (us, r, (fx, fy), (tx, ty), ts) (some ⟨b8, 0, none⟩) A8 ts.length e8 wd (V6.out.ext verbK_stab (Ext.trans Ec hxd)) (S6.out.ext stR_stab (Ext.trans Ec hxd)) (hv7.ext verbK_stab hxd) (hs7.ext stR_stab hxd) Hsf.out).mono ?_)
      rintro e we ⟨rfl, hbe⟩
      refine ⟨_, rfl, hK _ _ ⟨fun _ => Cls.ext (Cls.ext hCc hxd) hbe, ?_⟩⟩
      clear hK K
      have E8 := Lib.hid (Ext.trans Ec (Ext.trans hxd hbe))
      clear hu7 hv7 hs7 hb hbe hxb hxd hCa hCc Ea Ec
      refine late_free (by kernel_rfl) rfl rfl (fun wf hxf K hK => ?_)
      go_simp
      refine hK _ _ ?_
      clear hK K
      refine late_nil (fun wz hxz => ?_)
      have hb := Ext.trans E8.out (Ext.trans hxf hxz)
      clear hxf hxz E8
      replace P := Lib.hid (P.out.ext flR_stab hb)
      replace HF := Lib.hid (HF.out.ext verbK_stab hb)
      replace HS := Lib.hid (HS.out.ext stR_stab hb)
      replace R0 := Lib.hid (R0.out.ext hb)
      have lR0 := R0.out.lt
      replace R1 := Lib.hid (R1.out.ext hb)
      have lR1 := R1.out.lt
      replace E := Lib.hid (Ext.trans E.out hb)
      replace V3 := Lib.hid (V3.out.ext coR_stab hb)
      replace RM := Lib.hid (RM.out.ext hb)
      have lRM := RM.out.lt
      replace Q4 := Lib.hid (Q4.out.ext flR_stab hb)
      replace R5 := Lib.hid (R5.out.ext hb)
      have lR5 := R5.out.lt
      replace V6 := Lib.hid (V6.out.ext verbK_stab hb)
      replace S6 := Lib.hid (S6.out.ext stR_stab hb)
      replace L6 := Lib.hid (L6.out.ext hb)
      replace K4 := Lib.hid (K4.out.ext hb)
      replace R7 := Lib.hid (R7.out.ext hb)
      have lR7 := R7.out.lt
      replace O := Lib.hid (own_ext O.out hb)
      replace R9 := Lib.hid (R9.out.ext hb)
      have lR9 := R9.out.lt
      clear hb
      have k0 := R0.out.cell_of (i := 0) rfl
      have k1 := R0.out.cell_of (i := 1) rfl
      have k2 := R0.out.cell_of (i := 2) rfl
      have y0 := R1.out.cell_of (i := 0) rfl
      have y1 := R1.out.cell_of (i := 1) rfl
      have y2 := R1.out.cell_of (i := 2) rfl
      have y3 := R1.out.cell_of (i := 3) rfl
      have y4 := R1.out.cell_of (i := 4) rfl
      have y5 := R1.out.cell_of (i := 5) rfl
      have y6 := R1.out.cell_of (i := 6) rfl
      have d0 := R5.out.cell_of (i := 0) rfl
      have d1 := R5.out.cell_of (i := 1) rfl
      have d2 := R5.out.cell_of (i := 2) rfl
      have v0 := R7.out.cell_of (i := 0) rfl
      have v1 := R7.out.cell_of (i := 1) rfl
      have v2 := R7.out.cell_of (i := 2) rfl
      have v3 := R7.out.cell_of (i := 3) rfl
      have v4 := R7.out.cell_of (i := 4) rfl
      have v5 := R7.out.cell_of (i := 5) rfl
      have v6 := R7.out.cell_of (i := 6) rfl
      go_wp2_with fail
      refine (c_markSceneW W H K4.out 1 (by omega) (by omega)).mono ?_
      rintro e w10 ⟨k10, rfl, hk10, hk10b, hm10⟩
      clear k0 k1 k2 y0 y1 y2 y3 y4 y5 y6 d0 d1 d2 v0 v1 v2 v3 v4 v5 v6
      replace O := Lib.hid (O.out.mkd hm10 hz67)
      replace E : Hid (Below w3.heap.size w3 w10) := Lib.hid (Below.trans E.out hm10.below)
      replace L6 := Lib.hid (L6.out.mk hm10)
      replace R7 := Lib.hid (R7.out.mkd hm10 (Nat.le_refl _))
      replace R9 := Lib.hid (R9.out.mkd hm10 hz68)
      clear hm10 K4 Q4 R5 lR5 V6 S6
      have v0 := R7.out.cell_of (i := 0) rfl
      have v1 := R7.out.cell_of (i := 1) rfl
      have v2 := R7.out.cell_of (i := 2) rfl
      have v3 := R7.out.cell_of (i := 3) rfl
      have v4 := R7.out.cell_of (i := 4) rfl
      have v5 := R7.out.cell_of (i := 5) rfl
      have v6 := R7.out.cell_of (i := 6) rfl
      go_wp2_with fail
      clear v0 v1 v2 v3 v4 v5 v6
      refine (c_markFill1 r (fx, fy) (tx, ty) L6.out k10 (by omega) (by omega)).mono ?_
      rintro e w11 ⟨k11, rfl, hk11, hm11⟩
      replace O := Lib.hid (O.out.mkd hm11 hz67)
      replace R9 := Lib.hid (R9.out.mkd hm11 hz68)
      replace E : Hid (Below w3.heap.size w3 w11) := Lib.hid (Below.trans E.out hm11.below)
      replace P := Lib.hid (P3.out.ext flR_stab E.out)
      replace HF := Lib.hid (F3.out.ext verbK_stab E.out)
      replace HS := Lib.hid (S3.out.ext stR_stab E.out)
      replace V3 := Lib.hid (V33.out.ext coR_stab E.out)
      replace RM := Lib.hid (RM3.out.ext E.out)
      replace R0 := Lib.hid (R30.out.ext E.out)
      replace R1 := Lib.hid (R31.out.ext E.out)
      clear hm11 L6 R7 lR7
      have hkD : decide (k11 < 0) = false := by simp; omega
      have hkN : ¬ k11 < 0 := by omega
      have m0 := RM.out.cell_of (i := 0) rfl
      have m1 := RM.out.cell_of (i := 1) rfl
      have m2 := RM.out.cell_of (i := 2) rfl
      have x0 := R9.out.cell_of (i := 0) rfl
      have x1 := R9.out.cell_of (i := 1) rfl
      have x2 := R9.out.cell_of (i := 2) rfl
      go_wp2_with fail
      clear m0 m1 m2 x0 x1 x2
      refine (c_eqFrame MW MH A5 A3 cap5 cap3 ms _ (cos_own O.out) V3.out hml).mono ?_
      rintro e w12 ⟨rfl, hb⟩
      replace P := Lib.hid (P.out.ext flR_stab hb)
      replace HF := Lib.hid (HF.out.ext verbK_stab hb)
      replace HS := Lib.hid (HS.out.ext stR_stab hb)
      replace R0 := Lib.hid (R0.out.ext hb)
      have lR0 := R0.out.lt
      replace R1 := Lib.hid (R1.out.ext hb)
      have lR1 := R1.out.lt
      replace E := Lib.hid (Ext.trans E.out hb)
      replace V3 := Lib.hid (V3.out.ext coR_stab hb)
      replace RM := Lib.hid (RM.out.ext hb)
      have lRM := RM.out.lt
      replace O := Lib.hid (own_ext O.out hb)
      replace R9 := Lib.hid (R9.out.ext hb)
      have lR9 := R9.out.lt
      clear hb
      have m0 := RM.out.cell_of (i := 0) rfl
      have m1 := RM.out.cell_of (i := 1) rfl
      have m2 := RM.out.cell_of (i := 2) rfl
      have x0 := R9.out.cell_of (i := 0) rfl
      have x1 := R9.out.cell_of (i := 1) rfl
      have x2 := R9.out.cell_of (i := 2) rfl
      have hzo : w3.heap.size ≤ w12.heap.size := E.out.size
      clear m0 m1 m2 x0 x1 x2
      have x0 := R9.out.cell_of (i := 0) rfl
      have x1 := R9.out.cell_of (i := 1) rfl
      have x2 := R9.out.cell_of (i := 2) rfl
      go_wp2_with fail
      clear x0 x1 x2
      refine (c_markFrame MW MH O.out 1 (by omega) (by omega) (by omega)).mono ?_
      rintro e wp ⟨rfl, hop, hgp⟩
      replace E : Hid (Below w3.heap.size w3 wp) := Lib.hid (own_below E.out (O.out.rebase hz37) hgp hzo)
      replace R9 := Lib.hid (R9.out.grownNe O.out (by decide) hgp)
      replace O := Lib.hid hop
      replace P := Lib.hid (P3.out.ext flR_stab E.out)
      replace HF := Lib.hid (F3.out.ext verbK_stab E.out)
      replace HS := Lib.hid (S3.out.ext stR_stab E.out)
      replace V3 := Lib.hid (V33.out.ext coR_stab E.out)
      replace RM := Lib.hid (RM3.out.ext E.out)
      replace R0 := Lib.hid (R30.out.ext E.out)
      replace R1 := Lib.hid (R31.out.ext E.out)
      clear hop hgp
      have x0 := R9.out.cell_of (i := 0) rfl
      have x1 := R9.out.cell_of (i := 1) rfl
      have x2 := R9.out.cell_of (i := 2) rfl
      go_wp2_with fail
      clear x0 x1 x2
      refine (c_heldFrame MW MH 1 O.out (by omega) (by omega) (by omega)).mono ?_
      rintro e wq ⟨rfl, hb⟩
      replace P := Lib.hid (P.out.ext flR_stab hb)
      replace HF := Lib.hid (HF.out.ext verbK_stab hb)
      replace HS := Lib.hid (HS.out.ext stR_stab hb)
      replace R0 := Lib.hid (R0.out.ext hb)
      have lR0 := R0.out.lt
      replace R1 := Lib.hid (R1.out.ext hb)
      have lR1 := R1.out.lt
      replace E := Lib.hid (Ext.trans E.out hb)
      replace V3 := Lib.hid (V3.out.ext coR_stab hb)
      replace RM := Lib.hid (RM.out.ext hb)
      have lRM := RM.out.lt
      replace O := Lib.hid (own_ext O.out hb)
      replace R9 := Lib.hid (R9.out.ext hb)
      have lR9 := R9.out.lt
      clear hb
      have x0 := R9.out.cell_of (i := 0) rfl
      have x1 := R9.out.cell_of (i := 1) rfl
      have x2 := R9.out.cell_of (i := 2) rfl
      clear x0 x1 x2
      have k0 := R0.out.cell_of (i := 0) rfl
      have k1 := R0.out.cell_of (i := 1) rfl
      have k2 := R0.out.cell_of (i := 2) rfl
      have y0 := R1.out.cell_of (i := 0) rfl
      have y1 := R1.out.cell_of (i := 1) rfl
      have y2 := R1.out.cell_of (i := 2) rfl
      have y3 := R1.out.cell_of (i := 3) rfl
      have y4 := R1.out.cell_of (i := 4) rfl
      have y5 := R1.out.cell_of (i := 5) rfl
      have y6 := R1.out.cell_of (i := 6) rfl
      go_wp2_with fail
      refine wp_region_invJ [0, 2, 3] [(1, some 100), (4, some 103), (5, some 104), (6, some 98), (7, some 105), (8, some 106), (9, some 17), (10, none), (11, some 18)] (by kernel_rfl) (by kernel_rfl)
        (FjJ 5 wq.heap.size ((MW, MH, ms), md) (FF W H fs (us, r, (fx, fy), (tx, ty), ts))) (fun _ _ _ _ h hx => h.ext hFF hx) ?_ ?_
      · intro vals w'
        refine FjJ.start (fun i hi hl v w => ?_) (fun i hi => ?_)
        · match i, hi with
          | 0, _ => trivial
          | 1, _ => exact absurd hl (by decide)
          | 2, _ => trivial
          | 3, _ => trivial
          | 4, _ => exact absurd hl (by decide)
        · rcases Nat.lt_or_ge i 12 with h9 | h9
          · match i, hi, h9 with
            | 5, _, _ => rfl
            | 6, _, _ => rfl
            | 7, _, _ => rfl
            | 8, _, _ => rfl
            | 9, _, _ => rfl
            | 10, _, _ => rfl
            | 11, _, _ => rfl
          · exact getD_out (n := 12) rfl h9
      iterate 3 ((refine calm_yes rfl rfl (fun w' hC => (by have k0 := hC.cell k0; have k1 := hC.cell k1; have k2 := hC.cell k2; have y0 := hC.cell y0; have y1 := hC.cell y1; have y2 := hC.cell y2; have y3 := hC.cell y3; have y4 := hC.cell y4; have y5 := hC.cell y5; have y6 := hC.cell y6; go_simp; rfl)) (fun K hK => ?_); go_simp; refine hK _ ?_; clear hK K))
      refine calm_nil ?_
      clear k0 k1 k2 y0 y1 y2 y3 y4 y5 y6
      refine ⟨List.forall_mem_cons.2 ⟨?_, List.forall_mem_cons.2 ⟨?_, List.forall_mem_cons.2 ⟨?_, List.forall_mem_cons.2 ⟨?_, List.forall_mem_cons.2 ⟨?_, List.forall_mem_cons.2 ⟨?_, List.forall_mem_cons.2 ⟨?_, List.forall_mem_cons.2 ⟨?_, List.forall_mem_cons.2 ⟨?_, by simp⟩⟩⟩⟩⟩⟩⟩⟩⟩, ?_⟩
      · exact FjJ.early_op (i := 1) (by decide) rfl (fun vals => rfl) rfl rfl Tryz.func8 (by kernel_rfl) rfl (fun vals => (by kernel_rfl)) hFF (fun w' hC => (c_toScene W H A cap fs w' (P.out.ext flR_stab (Below.trans (Below.refl _ wq).drew hC)) Hsm.out).mono fun e w'' ⟨b, cs9, he, _, hr, hf, hb⟩ => ⟨_, he, ⟨b, rfl, (hf.in_ hr).imp (fun _ _ h => flO_R h)⟩, hb⟩)
      · exact FjJ.early_op (i := 4) (by decide) rfl (fun vals => rfl) rfl rfl Tryz.func9 (by kernel_rfl) rfl (fun vals => (by kernel_rfl)) hFF (fun w' hC => (c_toFill A1 c1 (us, r, (fx, fy), (tx, ty), ts) A2 c2 w' (HF.out.ext verbK_stab (Below.trans (Below.refl _ wq).drew hC)) (HS.out.ext stR_stab (Below.trans (Below.refl _ wq).drew hC)) Hsf.out).mono fun e w'' ⟨xs, he, hu, hb⟩ => ⟨_, he, ⟨xs, rfl, flO_R hu⟩, hb⟩)
      · refine FjJ.call_op rfl (fun vals => rfl) (args := fun vals => #[vals 1, .int .i64 at_, vals 4]) rfl rfl Tryz.func10 (by kernel_rfl) rfl (fun vals => (by kernel_rfl)) hFF rfl (fun vals w' hC hE => ?_)
        obtain ⟨b1, k1, q1⟩ := hE 1 (by decide) (by kernel_rfl)
        obtain ⟨xs4, k4, q4⟩ := hE 4 (by decide) (by kernel_rfl)
        obtain ⟨A7, e7, A8, e8, rfl, hv7, s7, hs7, s8⟩ := q4
        dsimp only
        rw [k1, k4]
        refine (c_iRedrawFill W H _ fs.length fs at_ A7 e7 (us, r, (fx, fy), (tx, ty), ts) A8 e8 w' q1 (HSA.out b1) hv7 s7 hs7 s8 Hsm.out Hsf.out).mono ?_
        rw [HM.out]
        rintro e w'' ⟨A', cap', rfl, ho, hb⟩
        exact ⟨A', cap', rfl, ho, hb⟩
      · exact FjJ.move_op rfl (fun vals => rfl) rfl rfl (fun vals => (by kernel_rfl)) (by kernel_rfl)
      · exact FjJ.ext0_op rfl (fun vals => rfl) rfl rfl (fun vals => (by kernel_rfl)) (by kernel_rfl)
      · exact FjJ.ext1_op rfl (fun vals => rfl) rfl rfl (fun vals => (by kernel_rfl)) (by kernel_rfl)
      · exact FjJ.alloc_op rfl (fun vals => rfl) rfl rfl hFF rfl
      · exact FjJ.store_op rfl (fun vals => rfl) rfl rfl rfl (fun vals => (by kernel_rfl)) (fun vals => (by kernel_rfl)) (by kernel_rfl) (by kernel_rfl) (by kernel_rfl)
      · exact FjJ.asg_op rfl (fun vals => rfl) rfl rfl (fun vals => (by kernel_rfl)) (by kernel_rfl)
      · intro listed vals wr hx hall hJ K hK
        obtain ⟨A6, cap6, g6, k1, k8, k2, k3, ho⟩ := hJ.done (hall 5 (by decide)) (hall 9 (by decide)) (hall 10 (by decide)) (hall 11 (by decide))
        replace k1 : vals 9 = .pointer (some ⟨g6, 0, none⟩) := k1
        replace k8 : vals 11 = .bool md := k8
        simp only [canon, List.foldl_cons, List.foldl_nil]
        rw [k1, k8]
        generalize vals = vv at *
        go_simp
        refine hK _ ?_
        clear hK K hJ hall k1 k8
        dsimp only at k3 ho
        have V16 := Lib.hid (cos_own ho)
        have R6 := Lib.hid k3
        have lR6 := k3.lt
        clear ho k3
        replace P := Lib.hid (P.out.ext flR_stab hx)
        replace HF := Lib.hid (HF.out.ext verbK_stab hx)
        replace HS := Lib.hid (HS.out.ext stR_stab hx)
        replace R0 := Lib.hid (R0.out.ext hx)
        have lR0 := R0.out.lt
        replace R1 := Lib.hid (R1.out.ext hx)
        have lR1 := R1.out.lt
        replace E := Lib.hid (Ext.trans E.out hx)
        replace V3 := Lib.hid (V3.out.ext coR_stab hx)
        replace RM := Lib.hid (RM.out.ext hx)
        have lRM := RM.out.lt
        replace O := Lib.hid (own_ext O.out hx)
        replace R9 := Lib.hid (R9.out.ext hx)
        have lR9 := R9.out.lt
        clear hx
        have k0 := R0.out.cell_of (i := 0) rfl
        have k1 := R0.out.cell_of (i := 1) rfl
        have k2 := R0.out.cell_of (i := 2) rfl
        have y0 := R1.out.cell_of (i := 0) rfl
        have y1 := R1.out.cell_of (i := 1) rfl
        have y2 := R1.out.cell_of (i := 2) rfl
        have y3 := R1.out.cell_of (i := 3) rfl
        have y4 := R1.out.cell_of (i := 4) rfl
        have y5 := R1.out.cell_of (i := 5) rfl
        have y6 := R1.out.cell_of (i := 6) rfl
        clear k0 k1 k2 y0 y1 y2 y3 y4 y5 y6
        have m0 := RM.out.cell_of (i := 0) rfl
        have m1 := RM.out.cell_of (i := 1) rfl
        have m2 := RM.out.cell_of (i := 2) rfl
        have x0 := R6.out.cell_of (i := 0) rfl
        have x1 := R6.out.cell_of (i := 1) rfl
        have x2 := R6.out.cell_of (i := 2) rfl
        go_wp2_with fail
        clear m0 m1 m2 x0 x1 x2
        refine (c_eqFrame MW MH A6 A3 cap6 cap3 ms _ V16.out V3.out hml).mono ?_
        rintro e ws ⟨rfl, hb⟩
        replace P := Lib.hid (P.out.ext flR_stab hb)
        replace HF := Lib.hid (HF.out.ext verbK_stab hb)
        replace HS := Lib.hid (HS.out.ext stR_stab hb)
        replace R0 := Lib.hid (R0.out.ext hb)
        have lR0 := R0.out.lt
        replace R1 := Lib.hid (R1.out.ext hb)
        have lR1 := R1.out.lt
        replace E := Lib.hid (Ext.trans E.out hb)
        replace V3 := Lib.hid (V3.out.ext coR_stab hb)
        replace RM := Lib.hid (RM.out.ext hb)
        have lRM := RM.out.lt
        replace O := Lib.hid (own_ext O.out hb)
        replace R9 := Lib.hid (R9.out.ext hb)
        have lR9 := R9.out.lt
        replace V16 := Lib.hid (V16.out.ext coR_stab hb)
        replace R6 := Lib.hid (R6.out.ext hb)
        have lR6 := R6.out.lt
        clear hb
        have m0 := RM.out.cell_of (i := 0) rfl
        have m1 := RM.out.cell_of (i := 1) rfl
        have m2 := RM.out.cell_of (i := 2) rfl
        have x0 := R6.out.cell_of (i := 0) rfl
        have x1 := R6.out.cell_of (i := 1) rfl
        have x2 := R6.out.cell_of (i := 2) rfl
        clear m0 m1 m2 x0 x1 x2
        have x0 := R9.out.cell_of (i := 0) rfl
        have x1 := R9.out.cell_of (i := 1) rfl
        have x2 := R9.out.cell_of (i := 2) rfl
        go_wp2_with fail
        clear x0 x1 x2
        refine (c_heldFrame MW MH 1 O.out (by omega) (by omega) (by omega)).mono ?_
        rintro e wt ⟨rfl, hb⟩
        replace P := Lib.hid (P.out.ext flR_stab hb)
        replace HF := Lib.hid (HF.out.ext verbK_stab hb)
        replace HS := Lib.hid (HS.out.ext stR_stab hb)
        replace R0 := Lib.hid (R0.out.ext hb)
        have lR0 := R0.out.lt
        replace R1 := Lib.hid (R1.out.ext hb)
        have lR1 := R1.out.lt
        replace E := Lib.hid (Ext.trans E.out hb)
        replace V3 := Lib.hid (V3.out.ext coR_stab hb)
        replace RM := Lib.hid (RM.out.ext hb)
        have lRM := RM.out.lt
        replace O := Lib.hid (own_ext O.out hb)
        replace R9 := Lib.hid (R9.out.ext hb)
        have lR9 := R9.out.lt
        replace V16 := Lib.hid (V16.out.ext coR_stab hb)
        replace R6 := Lib.hid (R6.out.ext hb)
        have lR6 := R6.out.lt
        clear hb
        have x0 := R9.out.cell_of (i := 0) rfl
        have x1 := R9.out.cell_of (i := 1) rfl
        have x2 := R9.out.cell_of (i := 2) rfl
        go_wp2
        go_ret
        exact ⟨rfl, Ext.trans E3.out E.out⟩

theorem opens0 : Opens Tryz.prog 24 (scR ) :=  opens_sc (opens_struct3 (c0 := 1) (c1 := 1) (c2 := 1) Tryz.underlying24 (by kernel_rfl) (by kernel_rfl) (by kernel_rfl) (opens_int (by kernel_rfl)) (opens_int (by kernel_rfl)) (opens_slice Tryz.underlying22 (by kernel_rfl) (by decide) (opens_fl (opens_struct3 (c0 := 1) (c1 := 1) (c2 := 5) Tryz.underlying32 (by kernel_rfl) (by kernel_rfl) (by kernel_rfl) (opens_slice Tryz.underlying25 (by kernel_rfl) (by decide) (opens_vb Tryz.underlying109 (by kernel_rfl) (by kernel_rfl) (by kernel_rfl) (by kernel_rfl) (by kernel_rfl) (by kernel_rfl) Tryz.underlying107 Tryz.underlying27 (by kernel_rfl) (by kernel_rfl) (by kernel_rfl) (by kernel_rfl) (by kernel_rfl) (by kernel_rfl) (by kernel_rfl))) (opens_int (by kernel_rfl)) (opens_struct3 (c0 := 2) (c1 := 2) (c2 := 1) Tryz.underlying30 (by kernel_rfl) (by kernel_rfl) (by kernel_rfl) (opens_pt Tryz.underlying27 (by kernel_rfl) (by kernel_rfl) (by kernel_rfl) (by kernel_rfl) (by kernel_rfl) (by kernel_rfl) (by kernel_rfl)) (opens_pt Tryz.underlying27 (by kernel_rfl) (by kernel_rfl) (by kernel_rfl) (by kernel_rfl) (by kernel_rfl) (by kernel_rfl) (by kernel_rfl)) (opens_slice Tryz.underlying28 (by kernel_rfl) (by decide) (opens_st Tryz.underlying172 (by kernel_rfl) (by kernel_rfl) (by kernel_rfl) (by kernel_rfl) (by kernel_rfl) (by kernel_rfl) (opens_bx Tryz.underlying170 (by kernel_rfl) (by kernel_rfl) (by kernel_rfl) (by kernel_rfl))))))))) 
theorem opens2 : Opens Tryz.prog 32 (flR ) :=  opens_fl (opens_struct3 (c0 := 1) (c1 := 1) (c2 := 5) Tryz.underlying32 (by kernel_rfl) (by kernel_rfl) (by kernel_rfl) (opens_slice Tryz.underlying25 (by kernel_rfl) (by decide) (opens_vb Tryz.underlying109 (by kernel_rfl) (by kernel_rfl) (by kernel_rfl) (by kernel_rfl) (by kernel_rfl) (by kernel_rfl) Tryz.underlying107 Tryz.underlying27 (by kernel_rfl) (by kernel_rfl) (by kernel_rfl) (by kernel_rfl) (by kernel_rfl) (by kernel_rfl) (by kernel_rfl))) (opens_int (by kernel_rfl)) (opens_struct3 (c0 := 2) (c1 := 2) (c2 := 1) Tryz.underlying30 (by kernel_rfl) (by kernel_rfl) (by kernel_rfl) (opens_pt Tryz.underlying27 (by kernel_rfl) (by kernel_rfl) (by kernel_rfl) (by kernel_rfl) (by kernel_rfl) (by kernel_rfl) (by kernel_rfl)) (opens_pt Tryz.underlying27 (by kernel_rfl) (by kernel_rfl) (by kernel_rfl) (by kernel_rfl) (by kernel_rfl) (by kernel_rfl) (by kernel_rfl)) (opens_slice Tryz.underlying28 (by kernel_rfl) (by decide) (opens_st Tryz.underlying172 (by kernel_rfl) (by kernel_rfl) (by kernel_rfl) (by kernel_rfl) (by kernel_rfl) (by kernel_rfl) (opens_bx Tryz.underlying170 (by kernel_rfl) (by kernel_rfl) (by kernel_rfl) (by kernel_rfl)))))) 
set_option maxRecDepth 100000 in
theorem lifted (os : Os) (started : os.Started) (H : Type) (enc : TypeId × Value → H) :
    ReturnsInHanded {} Tryz.checked os 3 .any (Rows.fnExactRedrawFillSpec.pre6 enc Tryz.prog Tryz.f3 Rows.fnExactRedrawFillRow.domain false) (Rows.fnExactRedrawFillSpec.post enc Tryz.prog Tryz.f3 false true false false) := by
  refine returnsInHanded_of_change (C := Tryz.checked) own started (by kernel_rfl) Tryz.func3
    (ChangeSpec.witness6 (enc := enc) (C := Tryz.checked) false ⟨#[], #[ .agg #[.int .i64 0, .int .i64 0, .slice none 0 0], .int .i64 0,  .agg #[.slice none 0 0, .int .i64 0, .int .i64 0, .int .i64 0, .int .i64 0, .int .i64 0, .slice none 0 0]], []⟩ 8 (by kernel_rfl) (by kernel_rfl) (by kernel_rfl) (by kernel_rfl)) ?_
  intro W base args ds gs before hval0 hW hcnd _
  have hval : ∀ (j : Nat) t v, Tryz.f3.params[j]? = some t → args[j]? = some v → Value.okWide Tryz.prog W .any base t v := hval0
  have hW' := hW
  obtain ⟨p, q, hA0, hV, rfl, hfz, hnd⟩ := hW
  have hA : DataW.TrodAll enc Tryz.prog W 0 (fun _ => true) true Tryz.f3.params.toList args.toList ds p := hA0
  rw [Tryz.params3] at hA hval
  obtain ⟨v0, vs0, d0, ds0, p0, q0, hargs, rfl, rfl, h0, r0⟩ := trodAll_cons hA
  obtain ⟨v1, vs1, d1, ds1, p1, q1, rfl, rfl, rfl, h1, r1⟩ := trodAll_cons r0
  obtain ⟨v2, vs2, d2, ds2, p2, q2, rfl, rfl, rfl, h2, r2⟩ := trodAll_cons r1
  obtain ⟨rfl, rfl, rfl⟩ := trodAll_nil r2
  obtain rfl : args = #[v0, v1, v2] := by cases args; simp_all
  obtain ⟨rfl, rfl, rfl⟩ := trodVars_none hV
  obtain ⟨n1, rfl⟩ := okWide_int Tryz.underlying3 (hval 1 3 v1 rfl rfl)
  have k0 := h0
  have lt0 : ∀ x ∈ p0, x.block < W.heap.size := by obtain ⟨m, hm⟩ := k0; exact DataW.trod_lt m _ _ _ hm
  have k1 := h1
  have lt1 : ∀ x ∈ p1, x.block < W.heap.size := by obtain ⟨m, hm⟩ := k1; exact DataW.trod_lt m _ _ _ hm
  have k2 := h2
  have lt2 : ∀ x ∈ p2, x.block < W.heap.size := by obtain ⟨m, hm⟩ := k2; exact DataW.trod_lt m _ _ _ hm
  obtain ⟨x0, us0, rfl, z0⟩ := open_struct_arg Tryz.underlying24 opens0 (hval 0 24 _ rfl rfl) h0
  obtain ⟨x2, us2, rfl, z2⟩ := open_struct_arg Tryz.underlying32 opens2 (hval 2 32 _ rfl rfl) h2
  clear hA0 hval0
  refine (walk x0 us0 n1 x2 us2 W z0 z2).mono fun e W' ⟨he, bel⟩ => ?_
  subst he
  exact ⟨_, rfl, _, _, _, [], _, [], hW', trodAll_mk1 (shut_bool Tryz.underlying4 _), (trodAll_cons_mk (Below.trod laidOut (by kernel_rfl) (of_decide_eq_true (by kernel_rfl)) k0 bel lt0) (trodAll_cons_mk (Below.trod laidOut (by kernel_rfl) (of_decide_eq_true (by kernel_rfl)) k1 bel lt1) (trodAll_cons_mk (Below.trod laidOut (by kernel_rfl) (of_decide_eq_true (by kernel_rfl)) k2 bel lt2) trodAll_mk0))), rfl, bel.frame _, fun h => by cases h⟩
theorem joinedA : joinA Tryz.pinned.checked.prog 3 Tryz.f3 Rows.fnExactRedrawFillSpec Rows.fnExactRedrawFillRow = true := by kernel_rfl
theorem joinedB : joinB Tryz.pinned.checked.prog Rows.fnExactRedrawFillRow = true := by kernel_rfl
theorem over : Rows.fnExactRedrawFillRow.holds Tryz.pinned (OpenSpec.ofChange Rows.fnExactRedrawFillSpec) :=
  OpenClaim.holds_of_wide 3 Tryz.f3 rfl rfl rfl rfl rfl rfl rfl ⟨rfl, rfl, rfl, rfl, rfl⟩ rfl rfl rfl rfl rfl (by kernel_rfl) Tryz.func3 (joined_of joinedA joinedB)
    (of_decide_eq_true (by kernel_rfl)) (by unfold Func.isWrapper; first | (rw [if_pos (by decide +kernel)]; kernel_rfl) | (rw [if_neg (by decide +kernel)]; exact ⟨rfl, rfl⟩))
    (fun os started H enc _ => lifted os started H enc)

theorem proved : Rows.FnExactRedrawFillSaid := over

end Go.Proofs.YtagmnbphbakikaaGreat.fnExactRedrawFill
