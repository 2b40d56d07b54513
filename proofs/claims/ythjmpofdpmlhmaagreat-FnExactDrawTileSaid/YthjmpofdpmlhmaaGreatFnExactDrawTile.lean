/- DrawTile of the program and DrawTile of the reference return the same for every picture, scene and tile, in memory of its own; the arguments are left as they were. -/
import Derived.Test.YthjmpofdpmlhmaaGreatFillE
import Derived.Test.YthjmpofdpmlhmaaGreatFrameO
import Derived.Test.YthjmpofdpmlhmaaGreatFrameF
import Derived.Test.YthjmpofdpmlhmaaGreatFrameK
import Derived.Test.YthjmpofdpmlhmaaGreatJoin
namespace Go.Proofs.YthjmpofdpmlhmaaGreat.fnExactDrawTile
open Go Go.RowKit Go.ChangeShapes Go.WideShapes Go.ChangeAt Go.Deep Reg
attribute [local go_sem] calmAt calmUpon

theorem own : ownKnob Tryz.prog.godebug = none := by kernel_rfl
theorem laidOut : laidOutB Tryz.prog = true := by kernel_rfl
def FF (W H : Int) (cs : List Bx4) (W2 H2 : Int) (fs : List FlD) : Nat → Value → World → Prop := fun i v w => match i with
  | 1 => ∃ b, v = frV W H (some ⟨b, 0, none⟩) cs.length cs.length ∧ Cos w (some ⟨b, 0, none⟩) cs
  | 3 => ∃ b, v = .agg #[.int .i64 W2, .int .i64 H2, .slice (some ⟨b, 0, none⟩) fs.length fs.length] ∧ Fls w (some ⟨b, 0, none⟩) fs
  | _ => True
theorem ff_ext (W H : Int) (cs : List Bx4) (W2 H2 : Int) (fs : List FlD) : ∀ i v w w', FF W H cs W2 H2 fs i v w → Ext w w' → FF W H cs W2 H2 fs i v w' := by
  intro i v w w' h hx
  unfold FF at *
  split at h
  · obtain ⟨b, h1, h2⟩ := h; exact ⟨b, h1, h2.ext coR_stab hx⟩
  · obtain ⟨b, h1, h2⟩ := h; exact ⟨b, h1, h2.ext flR_stab hx⟩
  · trivial
set_option maxRecDepth 100000 in
set_option maxHeartbeats 16000000 in
theorem walk (x : Int × Int × List Bx4) (xs : List Value) (y : Int × Int × List FlD) (ys : List Value) (t : Int) (w : World) (hu : frR w x xs) (hv : scR w y ys) :
    Calls Tryz.prog 3 #[.agg xs.toArray, .agg ys.toArray, .int .i64 t] w fun e w' => e = .returned (.bool true) ∧ Below w.heap.size w w' := by
  obtain ⟨W, H, cs⟩ := x
  obtain ⟨A, cap, rfl, hco, hcs⟩ := hu
  obtain ⟨W2, H2, fs⟩ := y
  obtain ⟨As, scap, rfl, hF, hfs⟩ := hv
  dsimp only at hco hcs hF hfs
  have hl9 : fs.length ≤ 9223372036854775807 := by have h := hfs.2; unfold maxLen at h; omega
  have hc9 : cs.length ≤ 9223372036854775807 := by have h := hcs.2; unfold maxLen at h; omega
  have P := Lib.hid hF
  have C := Lib.hid hco
  have E := Lib.hid (Below.refl w.heap.size w)
  obtain ⟨M, hM⟩ : ∃ M, dtR W H cs W2 H2 fs t = M := ⟨_, rfl⟩
  have HML : Hid (cs.length ≤ 1048576 → M.1.2.2.length ≤ 1048576) := Lib.hid (fun h => by rw [← hM]; exact dtR_len W2 H2 fs t h)
  obtain ⟨⟨MW, MH, ms⟩, md⟩ := M
  have HM := Lib.hid hM
  clear hM hF hco
  go_enter Tryz.func3, Tryz.ntmps3
  go_wp2_with fail
  first | refine gen_calls ?_ | refine gen_code ?_ | refine gen_list ?_
  intro w0 hW
  obtain ⟨hb, hR0, hR1⟩ := new2 hW
  clear hW
  replace E := Lib.hid (Ext.trans E.out hb)
  replace P := Lib.hid (P.out.ext flR_stab hb)
  replace C := Lib.hid (C.out.ext coR_stab hb)
  clear hb
  have R0 := Lib.hid hR0
  have lR0 := R0.out.lt
  clear hR0
  have R1 := Lib.hid hR1
  have lR1 := R1.out.lt
  clear hR1
  have k0 := R0.out.cell_of (i := 0) rfl
  have k1 := R0.out.cell_of (i := 1) rfl
  have k2 := R0.out.cell_of (i := 2) rfl
  have s0 := R1.out.cell_of (i := 0) rfl
  have s1 := R1.out.cell_of (i := 1) rfl
  have s2 := R1.out.cell_of (i := 2) rfl
  go_wp2_with fail
  clear k0 k1 k2 s0 s1 s2
  refine (c_szFrame W H A cs.length cap 1048576 _ (by omega) (by omega) hc9).mono ?_
  rintro e w1 ⟨m, rfl, hm, hb⟩
  replace E := Lib.hid (Ext.trans E.out hb)
  replace P := Lib.hid (P.out.ext flR_stab hb)
  replace C := Lib.hid (C.out.ext coR_stab hb)
  replace R0 := Lib.hid (R0.out.ext hb)
  have lR0 := R0.out.lt
  replace R1 := Lib.hid (R1.out.ext hb)
  have lR1 := R1.out.lt
  clear hb
  have k0 := R0.out.cell_of (i := 0) rfl
  have k1 := R0.out.cell_of (i := 1) rfl
  have k2 := R0.out.cell_of (i := 2) rfl
  have s0 := R1.out.cell_of (i := 0) rfl
  have s1 := R1.out.cell_of (i := 1) rfl
  have s2 := R1.out.cell_of (i := 2) rfl
  have Hm := Lib.hid hm
  clear hm
  by_cases hneg : m < 0
  · go_wp2
    go_ret
    exact ⟨rfl, E.out⟩
  · have hcl : cs.length ≤ 1048576 := by have := Hm.out (by omega); omega
    have hmu : m ≤ 1048576 := by have := Hm.out (by omega); omega
    have hml := HML.out hcl
    clear Hm HML
    go_wp2_with fail
    clear k0 k1 k2 s0 s1 s2
    refine (c_szScene m W2 H2 As scap fs _ (by omega) (by omega) P.out hl9).mono ?_
    rintro e w2 ⟨m2, rfl, hm2, hb⟩
    replace E := Lib.hid (Ext.trans E.out hb)
    replace P := Lib.hid (P.out.ext flR_stab hb)
    replace C := Lib.hid (C.out.ext coR_stab hb)
    replace R0 := Lib.hid (R0.out.ext hb)
    have lR0 := R0.out.lt
    replace R1 := Lib.hid (R1.out.ext hb)
    have lR1 := R1.out.lt
    clear hb
    have k0 := R0.out.cell_of (i := 0) rfl
    have k1 := R0.out.cell_of (i := 1) rfl
    have k2 := R0.out.cell_of (i := 2) rfl
    have s0 := R1.out.cell_of (i := 0) rfl
    have s1 := R1.out.cell_of (i := 1) rfl
    have s2 := R1.out.cell_of (i := 2) rfl
    have Hm2 := Lib.hid hm2
    clear hm2
    by_cases hneg2 : m2 < 0
    · go_wp2
      go_ret
      exact ⟨rfl, E.out⟩
    have Hsm := Lib.hid (Hm2.out (by omega)).2
    have hl := Hsm.out.1
    clear Hm2 hl9 hc9
    have hFF := ff_ext W H cs W2 H2 fs
    go_wp2_with fail
    refine wp_region_invJ [0, 2, 4] [(1, some 31), (3, some 33), (5, some 35), (6, some 29), (7, some 36), (8, some 37), (9, some 8), (10, none), (11, some 9)] (by kernel_rfl) (by kernel_rfl)
      (FjJ 5 w2.heap.size ((MW, MH, ms), md) (FF W H cs W2 H2 fs)) (fun _ _ _ _ h hx => h.ext hFF hx) ?_ ?_
    · intro vals w'
      refine FjJ.start (fun i hi hl v w => ?_) (fun i hi => ?_)
      · match i, hi with
        | 0, _ => trivial
        | 1, _ => exact absurd hl (by decide)
        | 2, _ => trivial
        | 3, _ => exact absurd hl (by decide)
        | 4, _ => trivial
      · rcases Nat.lt_or_ge i 12 with h9 | h9
        · match i, hi, h9 with
          | 5, _, _ => rfl
          | 6, _, _ => rfl
          | 7, _, _ => rfl
          | 8, _, _ => rfl
          | 9, _, _ => rfl
          | 10, _, _ => rfl
          | 11, _, _ => rfl
        · exact getD_out (n := 12) rfl h9
    iterate 3 ((refine calm_yes rfl rfl (fun w' hC => (by have k0 := hC.cell k0; have k1 := hC.cell k1; have k2 := hC.cell k2; have s0 := hC.cell s0; have s1 := hC.cell s1; have s2 := hC.cell s2; go_simp; rfl)) (fun K hK => ?_); go_simp; refine hK _ ?_; clear hK K))
    refine calm_nil ?_
    clear k0 k1 k2 s0 s1 s2
    refine ⟨List.forall_mem_cons.2 ⟨?_, List.forall_mem_cons.2 ⟨?_, List.forall_mem_cons.2 ⟨?_, List.forall_mem_cons.2 ⟨?_, List.forall_mem_cons.2 ⟨?_, List.forall_mem_cons.2 ⟨?_, List.forall_mem_cons.2 ⟨?_, List.forall_mem_cons.2 ⟨?_, List.forall_mem_cons.2 ⟨?_, by simp⟩⟩⟩⟩⟩⟩⟩⟩⟩, ?_⟩
    · exact FjJ.early_op (i := 1) (by decide) rfl (fun vals => rfl) rfl rfl Tryz.func8 (by kernel_rfl) rfl (fun vals => (by kernel_rfl)) hFF (fun w' hC => (c_toFrame W H A cap cs w' (C.out.ext coR_stab (Below.trans (Below.refl _ w2).drew hC)) hcl).mono fun e w'' ⟨b, he, _, hr, hb⟩ => ⟨_, he, ⟨b, rfl, cos_row hr⟩, hb⟩)
    · exact FjJ.early_op (i := 3) (by decide) rfl (fun vals => rfl) rfl rfl Tryz.func9 (by kernel_rfl) rfl (fun vals => (by kernel_rfl)) hFF (fun w' hC => (c_toScene W2 H2 As scap fs w' (P.out.ext flR_stab (Below.trans (Below.refl _ w2).drew hC)) Hsm.out).mono fun e w'' ⟨b, cs9, he, _, hr, hf, hb⟩ => ⟨_, he, ⟨b, rfl, (hf.in_ hr).imp (fun _ _ h => flO_R h)⟩, hb⟩)
    · refine FjJ.call_op rfl (fun vals => rfl) (args := fun vals => #[vals 1, vals 3, .int .i64 t]) rfl rfl Tryz.func7 (by kernel_rfl) rfl (fun vals => (by kernel_rfl)) hFF rfl (fun vals w' hC hE => ?_)
      obtain ⟨b1, k1, q1⟩ := hE 1 (by decide) (by kernel_rfl)
      obtain ⟨b3, k3, q3⟩ := hE 3 (by decide) (by kernel_rfl)
      dsimp only
      rw [k1, k3]
      refine (c_sDrawTile W H _ cs.length cs W2 H2 _ fs.length fs t w' q1 q3 hcl Hsm.out).mono ?_
      rw [HM.out]
      rintro e w'' ⟨A', cap', rfl, ho, hb⟩
      exact ⟨A', cap', rfl, ho, hb⟩
    · exact FjJ.move_op rfl (fun vals => rfl) rfl rfl (fun vals => (by kernel_rfl)) (by kernel_rfl)
    · exact FjJ.ext0_op rfl (fun vals => rfl) rfl rfl (fun vals => (by kernel_rfl)) (by kernel_rfl)
    · exact FjJ.ext1_op rfl (fun vals => rfl) rfl rfl (fun vals => (by kernel_rfl)) (by kernel_rfl)
    · exact FjJ.alloc_op rfl (fun vals => rfl) rfl rfl hFF rfl
    · exact FjJ.store_op rfl (fun vals => rfl) rfl rfl rfl (fun vals => (by kernel_rfl)) (fun vals => (by kernel_rfl)) (by kernel_rfl) (by kernel_rfl) (by kernel_rfl)
    · exact FjJ.asg_op rfl (fun vals => rfl) rfl rfl (fun vals => (by kernel_rfl)) (by kernel_rfl)
    · intro listed vals w3 hx hall hJ K hK
      obtain ⟨A3, cap3, g, k1, k8, k2, k3, ho⟩ := hJ.done (hall 5 (by decide)) (hall 9 (by decide)) (hall 10 (by decide)) (hall 11 (by decide))
      replace k1 : vals 9 = .pointer (some ⟨g, 0, none⟩) := k1
      replace k8 : vals 11 = .bool md := k8
      simp only [canon, List.foldl_cons, List.foldl_nil]
      rw [k1, k8]
      generalize vals = vv at *
      go_simp
      refine hK _ ?_
      clear hK K hJ hall k1 k8
      dsimp only at k3 ho
      have hz3 : w2.heap.size ≤ w3.heap.size := hx.size
      have V3 := Lib.hid (cos_own ho)
      have RM := Lib.hid k3
      have lRM := k3.lt
      clear ho k3
      replace E := Lib.hid (Ext.trans E.out hx)
      replace P := Lib.hid (P.out.ext flR_stab hx)
      replace C := Lib.hid (C.out.ext coR_stab hx)
      replace R0 := Lib.hid (R0.out.ext hx)
      have lR0 := R0.out.lt
      replace R1 := Lib.hid (R1.out.ext hx)
      have lR1 := R1.out.lt
      clear hx
      have k0 := R0.out.cell_of (i := 0) rfl
      have k1 := R0.out.cell_of (i := 1) rfl
      have k2 := R0.out.cell_of (i := 2) rfl
      have s0 := R1.out.cell_of (i := 0) rfl
      have s1 := R1.out.cell_of (i := 1) rfl
      have s2 := R1.out.cell_of (i := 2) rfl
      clear k0 k1 k2 s0 s1 s2
      have E3 := Lib.hid E.out
      have P3 := Lib.hid P.out
      have C3 := Lib.hid C.out
      have V33 := Lib.hid V3.out
      have RM3 := Lib.hid RM.out
      have R30 := Lib.hid R0.out
      have R31 := Lib.hid R1.out
      clear E
      have E := Lib.hid (Below.refl w3.heap.size w3)
      have k0 := R0.out.cell_of (i := 0) rfl
      have k1 := R0.out.cell_of (i := 1) rfl
      have k2 := R0.out.cell_of (i := 2) rfl
      have s0 := R1.out.cell_of (i := 0) rfl
      have s1 := R1.out.cell_of (i := 1) rfl
      have s2 := R1.out.cell_of (i := 2) rfl
      go_wp2_with fail
      clear k0 k1 k2 s0 s1 s2
      refine (c_toFrame W H A cap cs _ C.out hcl).mono ?_
      rintro e w4 ⟨b4, rfl, hg4, hr4, hb⟩
      replace P := Lib.hid (P.out.ext flR_stab hb)
      replace C := Lib.hid (C.out.ext coR_stab hb)
      replace R0 := Lib.hid (R0.out.ext hb)
      have lR0 := R0.out.lt
      replace R1 := Lib.hid (R1.out.ext hb)
      have lR1 := R1.out.lt
      replace E := Lib.hid (Ext.trans E.out hb)
      replace V3 := Lib.hid (V3.out.ext coR_stab hb)
      replace RM := Lib.hid (RM.out.ext hb)
      have lRM := RM.out.lt
      clear hb
      have FR := Lib.hid (hr4)
      clear hr4
      have k0 := R0.out.cell_of (i := 0) rfl
      have k1 := R0.out.cell_of (i := 1) rfl
      have k2 := R0.out.cell_of (i := 2) rfl
      have s0 := R1.out.cell_of (i := 0) rfl
      have s1 := R1.out.cell_of (i := 1) rfl
      have s2 := R1.out.cell_of (i := 2) rfl
      have lFR := FR.out.lt
      go_wp2_with fail
      clear k0 k1 k2 s0 s1 s2
      first | refine gen_calls ?_ | refine gen_code ?_ | refine gen_list ?_
      intro w5 hW
      obtain ⟨hb, hR5⟩ := new1 hW
      clear hW
      replace P := Lib.hid (P.out.ext flR_stab hb)
      replace C := Lib.hid (C.out.ext coR_stab hb)
      replace R0 := Lib.hid (R0.out.ext hb)
      have lR0 := R0.out.lt
      replace R1 := Lib.hid (R1.out.ext hb)
      have lR1 := R1.out.lt
      replace E := Lib.hid (Ext.trans E.out hb)
      replace V3 := Lib.hid (V3.out.ext coR_stab hb)
      replace RM := Lib.hid (RM.out.ext hb)
      have lRM := RM.out.lt
      replace FR := Lib.hid (FR.out.ext hb)
      have lFR := FR.out.lt
      clear hb
      have R5 := Lib.hid hR5
      have lR5 := R5.out.lt
      clear hR5
      have k0 := R0.out.cell_of (i := 0) rfl
      have k1 := R0.out.cell_of (i := 1) rfl
      have k2 := R0.out.cell_of (i := 2) rfl
      have s0 := R1.out.cell_of (i := 0) rfl
      have s1 := R1.out.cell_of (i := 1) rfl
      have s2 := R1.out.cell_of (i := 2) rfl
      have hz35 : w3.heap.size ≤ w5.heap.size := E.out.size
      clear k0 k1 k2 s0 s1 s2
      have k0 := R0.out.cell_of (i := 0) rfl
      have k1 := R0.out.cell_of (i := 1) rfl
      have k2 := R0.out.cell_of (i := 2) rfl
      have s0 := R1.out.cell_of (i := 0) rfl
      have s1 := R1.out.cell_of (i := 1) rfl
      have s2 := R1.out.cell_of (i := 2) rfl
      go_wp2_with fail
      clear k0 k1 k2 s0 s1 s2
      refine (c_toScene W2 H2 As scap fs _ P.out Hsm.out).mono ?_
      rintro e w6 ⟨b6, cs6, rfl, hg6, hr6, hf6, hb⟩
      replace P := Lib.hid (P.out.ext flR_stab hb)
      replace C := Lib.hid (C.out.ext coR_stab hb)
      replace R0 := Lib.hid (R0.out.ext hb)
      have lR0 := R0.out.lt
      replace R1 := Lib.hid (R1.out.ext hb)
      have lR1 := R1.out.lt
      replace E := Lib.hid (Ext.trans E.out hb)
      replace V3 := Lib.hid (V3.out.ext coR_stab hb)
      replace RM := Lib.hid (RM.out.ext hb)
      have lRM := RM.out.lt
      replace FR := Lib.hid (FR.out.ext hb)
      have lFR := FR.out.lt
      replace R5 := Lib.hid (R5.out.ext hb)
      have lR5 := R5.out.lt
      clear hb
      have Q6 := Lib.hid (((hf6.in_ hr6).imp (fun _ _ h => flO_R h)))
      have K6 := Lib.hid ((show FlsK w3.heap.size w6.heap.size w6 (.slice (some ⟨b6, 0, none⟩) fs.length fs.length) fs.length from ⟨⟨E.out.size, Nat.le_refl _⟩, FlsS.of_row (hf6.rebase hz35) hr6 (Nat.le_trans hz35 hg6) Hsm.out⟩))
      have KF := Lib.hid ((show NumK w3.heap.size w6.heap.size 4 w6 63 (.slice (some ⟨b4, 0, none⟩) cs.length cs.length) cs.length from ⟨⟨E.out.size, Nat.le_refl _⟩, NumS.of_row FR.out hg4 (Nat.le_of_eq (flat_len bxC_len cs).symm) (bxC_int cs) hcl⟩))
      have CF := Lib.hid ((cos_row FR.out))
      have k0 := R0.out.cell_of (i := 0) rfl
      have k1 := R0.out.cell_of (i := 1) rfl
      have k2 := R0.out.cell_of (i := 2) rfl
      have s0 := R1.out.cell_of (i := 0) rfl
      have s1 := R1.out.cell_of (i := 1) rfl
      have s2 := R1.out.cell_of (i := 2) rfl
      clear hr6 hf6
      clear k0 k1 k2 s0 s1 s2
      clear FR lFR
      have k0 := R0.out.cell_of (i := 0) rfl
      have k1 := R0.out.cell_of (i := 1) rfl
      have k2 := R0.out.cell_of (i := 2) rfl
      have s0 := R1.out.cell_of (i := 0) rfl
      have s1 := R1.out.cell_of (i := 1) rfl
      have s2 := R1.out.cell_of (i := 2) rfl
      have x0 := R5.out.cell_of (i := 0) rfl
      have x1 := R5.out.cell_of (i := 1) rfl
      have x2 := R5.out.cell_of (i := 2) rfl
      go_wp2_with fail
      clear k0 k1 k2 s0 s1 s2 x0 x1 x2
      first | refine gen_calls ?_ | refine gen_code ?_ | refine gen_list ?_
      intro w7 hW
      obtain ⟨hb, hR7⟩ := new1 hW
      clear hW
      replace P := Lib.hid (P.out.ext flR_stab hb)
      replace C := Lib.hid (C.out.ext coR_stab hb)
      replace R0 := Lib.hid (R0.out.ext hb)
      have lR0 := R0.out.lt
      replace R1 := Lib.hid (R1.out.ext hb)
      have lR1 := R1.out.lt
      replace E := Lib.hid (Ext.trans E.out hb)
      replace V3 := Lib.hid (V3.out.ext coR_stab hb)
      replace RM := Lib.hid (RM.out.ext hb)
      have lRM := RM.out.lt
      replace R5 := Lib.hid (R5.out.ext hb)
      have lR5 := R5.out.lt
      replace Q6 := Lib.hid (Q6.out.ext flR_stab hb)
      replace K6 := Lib.hid (K6.out.ext hb)
      replace KF := Lib.hid (KF.out.ext hb)
      replace CF := Lib.hid (CF.out.ext coR_stab hb)
      clear hb
      have R7 := Lib.hid hR7
      have lR7 := R7.out.lt
      clear hR7
      have k0 := R0.out.cell_of (i := 0) rfl
      have k1 := R0.out.cell_of (i := 1) rfl
      have k2 := R0.out.cell_of (i := 2) rfl
      have s0 := R1.out.cell_of (i := 0) rfl
      have s1 := R1.out.cell_of (i := 1) rfl
      have s2 := R1.out.cell_of (i := 2) rfl
      have x0 := R5.out.cell_of (i := 0) rfl
      have x1 := R5.out.cell_of (i := 1) rfl
      have x2 := R5.out.cell_of (i := 2) rfl
      have hz67 : w6.heap.size ≤ w7.heap.size := K6.out.1.2
      have hz37 : w3.heap.size ≤ w7.heap.size := E.out.size
      clear k0 k1 k2 s0 s1 s2 x0 x1 x2
      have k0 := R0.out.cell_of (i := 0) rfl
      have k1 := R0.out.cell_of (i := 1) rfl
      have k2 := R0.out.cell_of (i := 2) rfl
      have s0 := R1.out.cell_of (i := 0) rfl
      have s1 := R1.out.cell_of (i := 1) rfl
      have s2 := R1.out.cell_of (i := 2) rfl
      have x0 := R5.out.cell_of (i := 0) rfl
      have x1 := R5.out.cell_of (i := 1) rfl
      have x2 := R5.out.cell_of (i := 2) rfl
      have q0 := R7.out.cell_of (i := 0) rfl
      have q1 := R7.out.cell_of (i := 1) rfl
      have q2 := R7.out.cell_of (i := 2) rfl
      go_wp2_with fail
      clear k0 k1 k2 s0 s1 s2 x0 x1 x2 q0 q1 q2
      refine (c_iDrawTile W H _ cs.length cs W2 H2 _ fs.length fs t _ CF.out Q6.out hcl Hsm.out (slok_some hcl)).mono ?_
      rw [HM.out]
      rintro e w8 ⟨A5, cap5, rfl, ho5, hb⟩
      replace P := Lib.hid (P.out.ext flR_stab hb)
      replace C := Lib.hid (C.out.ext coR_stab hb)
      replace R0 := Lib.hid (R0.out.ext hb)
      have lR0 := R0.out.lt
      replace R1 := Lib.hid (R1.out.ext hb)
      have lR1 := R1.out.lt
      replace E := Lib.hid (Ext.trans E.out hb)
      replace V3 := Lib.hid (V3.out.ext coR_stab hb)
      replace RM := Lib.hid (RM.out.ext hb)
      have lRM := RM.out.lt
      replace R5 := Lib.hid (R5.out.ext hb)
      have lR5 := R5.out.lt
      replace Q6 := Lib.hid (Q6.out.ext flR_stab hb)
      replace K6 := Lib.hid (K6.out.ext hb)
      replace KF := Lib.hid (KF.out.ext hb)
      replace CF := Lib.hid (CF.out.ext coR_stab hb)
      replace R7 := Lib.hid (R7.out.ext hb)
      have lR7 := R7.out.lt
      clear hb
      have O := Lib.hid (ho5)
      clear ho5
      have k0 := R0.out.cell_of (i := 0) rfl
      have k1 := R0.out.cell_of (i := 1) rfl
      have k2 := R0.out.cell_of (i := 2) rfl
      have s0 := R1.out.cell_of (i := 0) rfl
      have s1 := R1.out.cell_of (i := 1) rfl
      have s2 := R1.out.cell_of (i := 2) rfl
      have x0 := R5.out.cell_of (i := 0) rfl
      have x1 := R5.out.cell_of (i := 1) rfl
      have x2 := R5.out.cell_of (i := 2) rfl
      have q0 := R7.out.cell_of (i := 0) rfl
      have q1 := R7.out.cell_of (i := 1) rfl
      have q2 := R7.out.cell_of (i := 2) rfl
      have hzb : w6.heap.size ≤ w8.heap.size := K6.out.1.2
      have hdd : (md != md) = false := by simp
      clear k0 k1 k2 s0 s1 s2 x0 x1 x2 q0 q1 q2
      have m0 := RM.out.cell_of (i := 0) rfl
      have m1 := RM.out.cell_of (i := 1) rfl
      have m2 := RM.out.cell_of (i := 2) rfl
      go_wp2_with fail
      clear m0 m1 m2
      first | refine gen_calls ?_ | refine gen_code ?_ | refine gen_list ?_
      intro w9 hW
      obtain ⟨hb, hR9⟩ := new1 hW
      clear hW
      replace P := Lib.hid (P.out.ext flR_stab hb)
      replace C := Lib.hid (C.out.ext coR_stab hb)
      replace R0 := Lib.hid (R0.out.ext hb)
      have lR0 := R0.out.lt
      replace R1 := Lib.hid (R1.out.ext hb)
      have lR1 := R1.out.lt
      replace E := Lib.hid (Ext.trans E.out hb)
      replace V3 := Lib.hid (V3.out.ext coR_stab hb)
      replace RM := Lib.hid (RM.out.ext hb)
      have lRM := RM.out.lt
      replace R5 := Lib.hid (R5.out.ext hb)
      have lR5 := R5.out.lt
      replace Q6 := Lib.hid (Q6.out.ext flR_stab hb)
      replace K6 := Lib.hid (K6.out.ext hb)
      replace KF := Lib.hid (KF.out.ext hb)
      replace CF := Lib.hid (CF.out.ext coR_stab hb)
      replace R7 := Lib.hid (R7.out.ext hb)
      have lR7 := R7.out.lt
      replace O := Lib.hid (own_ext O.out hb)
      clear hb
      have R9 := Lib.hid hR9
      have lR9 := R9.out.lt
      clear hR9
      have m0 := RM.out.cell_of (i := 0) rfl
      have m1 := RM.out.cell_of (i := 1) rfl
      have m2 := RM.out.cell_of (i := 2) rfl
      clear m0 m1 m2
      have m0 := RM.out.cell_of (i := 0) rfl
      have m1 := RM.out.cell_of (i := 1) rfl
      have m2 := RM.out.cell_of (i := 2) rfl
      have y0 := R9.out.cell_of (i := 0) rfl
      have y1 := R9.out.cell_of (i := 1) rfl
      have y2 := R9.out.cell_of (i := 2) rfl
      go_wp2_with fail
      clear m0 m1 m2 y0 y1 y2
      refine (c_eqFrame MW MH A5 A3 cap5 cap3 ms _ (cos_own O.out) V3.out hml).mono ?_
      rintro e w10 ⟨rfl, hb⟩
      replace P := Lib.hid (P.out.ext flR_stab hb)
      replace C := Lib.hid (C.out.ext coR_stab hb)
      replace R0 := Lib.hid (R0.out.ext hb)
      have lR0 := R0.out.lt
      replace R1 := Lib.hid (R1.out.ext hb)
      have lR1 := R1.out.lt
      replace E := Lib.hid (Ext.trans E.out hb)
      replace V3 := Lib.hid (V3.out.ext coR_stab hb)
      replace RM := Lib.hid (RM.out.ext hb)
      have lRM := RM.out.lt
      replace R5 := Lib.hid (R5.out.ext hb)
      have lR5 := R5.out.lt
      replace Q6 := Lib.hid (Q6.out.ext flR_stab hb)
      replace K6 := Lib.hid (K6.out.ext hb)
      replace KF := Lib.hid (KF.out.ext hb)
      replace CF := Lib.hid (CF.out.ext coR_stab hb)
      replace R7 := Lib.hid (R7.out.ext hb)
      have lR7 := R7.out.lt
      replace O := Lib.hid (own_ext O.out hb)
      replace R9 := Lib.hid (R9.out.ext hb)
      have lR9 := R9.out.lt
      clear hb
      have m0 := RM.out.cell_of (i := 0) rfl
      have m1 := RM.out.cell_of (i := 1) rfl
      have m2 := RM.out.cell_of (i := 2) rfl
      have y0 := R9.out.cell_of (i := 0) rfl
      have y1 := R9.out.cell_of (i := 1) rfl
      have y2 := R9.out.cell_of (i := 2) rfl
      clear m0 m1 m2 y0 y1 y2
      have k0 := R0.out.cell_of (i := 0) rfl
      have k1 := R0.out.cell_of (i := 1) rfl
      have k2 := R0.out.cell_of (i := 2) rfl
      have x0 := R5.out.cell_of (i := 0) rfl
      have x1 := R5.out.cell_of (i := 1) rfl
      have x2 := R5.out.cell_of (i := 2) rfl
      go_wp2_with fail
      refine wp_region_calm [0,1] [2,3,4] (by kernel_rfl) (by kernel_rfl) ?_
      iterate 2 ((refine calm_yes rfl rfl (fun w' hC => (by have k0 := hC.cell k0; have k1 := hC.cell k1; have k2 := hC.cell k2; have x0 := hC.cell x0; have x1 := hC.cell x1; have x2 := hC.cell x2; go_simp; rfl)) (fun K hK => ?_); go_simp; refine hK _ ?_; clear hK K))
      refine calm_nil (fun wa hCa => ?_)
      clear k0 k1 k2 x0 x1 x2
      have Ea := ext_cls hCa
      refine late_fn rfl rfl rfl Tryz.func8 (by kernel_rfl) rfl (by go_simp) (fun wb hxb K hK => (c_toFrame W H A cap cs wb (C.out.ext coR_stab (Ext.trans Ea hxb)) hcl).mono ?_)
      rintro e wc ⟨b7, rfl, _, hr7, hb⟩
      have Ec := Ext.trans (Ext.trans Ea hxb) hb
      have hCc := Cls.ext (Cls.ext hCa hxb) hb
      have Z7 := Lib.hid (cos_row hr7)
      refine ⟨_, rfl, hK _ _ ⟨fun _ => hCc, ?_⟩⟩
      clear hK K
      refine late_fn rfl rfl rfl Tryz.func11 (by kernel_rfl) rfl (by go_simp) (fun wd hxd K hK => (c_eqFrame W H _ _ cs.length cs.length cs wd (CF.out.ext coR_stab (Ext.trans Ec hxd)) (Z7.out.ext coR_stab hxd) hcl).mono ?_)
      rintro e we ⟨rfl, hbe⟩
      refine ⟨_, rfl, hK _ _ ⟨fun _ => Cls.ext (Cls.ext hCc hxd) hbe, ?_⟩⟩
      clear hK K
      have E8 := Lib.hid (Ext.trans Ec (Ext.trans hxd hbe))
      clear hr7 hb hbe hxb hxd hCa hCc Ea Ec Z7
      refine late_free (by kernel_rfl) rfl rfl (fun wf hxf K hK => ?_)
      go_simp
      refine hK _ _ ?_
      clear hK K
      refine late_nil (fun wz hxz => ?_)
      have hb := Ext.trans E8.out (Ext.trans hxf hxz)
      clear hxf hxz E8
      replace P := Lib.hid (P.out.ext flR_stab hb)
      replace C := Lib.hid (C.out.ext coR_stab hb)
      replace R0 := Lib.hid (R0.out.ext hb)
      have lR0 := R0.out.lt
      replace R1 := Lib.hid (R1.out.ext hb)
      have lR1 := R1.out.lt
      replace E := Lib.hid (Ext.trans E.out hb)
      replace V3 := Lib.hid (V3.out.ext coR_stab hb)
      replace RM := Lib.hid (RM.out.ext hb)
      have lRM := RM.out.lt
      replace R5 := Lib.hid (R5.out.ext hb)
      have lR5 := R5.out.lt
      replace Q6 := Lib.hid (Q6.out.ext flR_stab hb)
      replace K6 := Lib.hid (K6.out.ext hb)
      replace KF := Lib.hid (KF.out.ext hb)
      replace CF := Lib.hid (CF.out.ext coR_stab hb)
      replace R7 := Lib.hid (R7.out.ext hb)
      have lR7 := R7.out.lt
      replace O := Lib.hid (own_ext O.out hb)
      replace R9 := Lib.hid (R9.out.ext hb)
      have lR9 := R9.out.lt
      clear hb
      have k0 := R0.out.cell_of (i := 0) rfl
      have k1 := R0.out.cell_of (i := 1) rfl
      have k2 := R0.out.cell_of (i := 2) rfl
      have x0 := R5.out.cell_of (i := 0) rfl
      have x1 := R5.out.cell_of (i := 1) rfl
      have x2 := R5.out.cell_of (i := 2) rfl
      clear k0 k1 k2 x0 x1 x2
      have s0 := R1.out.cell_of (i := 0) rfl
      have s1 := R1.out.cell_of (i := 1) rfl
      have s2 := R1.out.cell_of (i := 2) rfl
      have q0 := R7.out.cell_of (i := 0) rfl
      have q1 := R7.out.cell_of (i := 1) rfl
      have q2 := R7.out.cell_of (i := 2) rfl
      go_wp2_with fail
      refine wp_region_calm [0,1] [2,3,4] (by kernel_rfl) (by kernel_rfl) ?_
      iterate 2 ((refine calm_yes rfl rfl (fun w' hC => (by have s0 := hC.cell s0; have s1 := hC.cell s1; have s2 := hC.cell s2; have q0 := hC.cell q0; have q1 := hC.cell q1; have q2 := hC.cell q2; go_simp; rfl)) (fun K hK => ?_); go_simp; refine hK _ ?_; clear hK K))
      refine calm_nil (fun wa hCa => ?_)
      clear s0 s1 s2 q0 q1 q2
      have Ea := ext_cls hCa
      refine late_fn rfl rfl rfl Tryz.func9 (by kernel_rfl) rfl (by go_simp) (fun wb hxb K hK => (c_toScene W2 H2 As scap fs wb (P.out.ext flR_stab (Ext.trans Ea hxb)) Hsm.out).mono ?_)
      rintro e wc ⟨b7, cs7, rfl, _, hr7, hf7, hb⟩
      have Ec := Ext.trans (Ext.trans Ea hxb) hb
      have hCc := Cls.ext (Cls.ext hCa hxb) hb
      have Z7 := Lib.hid ((hf7.in_ hr7).imp (fun _ _ h => flO_R h))
      refine ⟨_, rfl, hK _ _ ⟨fun _ => hCc, ?_⟩⟩
      clear hK K
      refine late_fn rfl rfl rfl Tryz.func12 (by kernel_rfl) rfl (by go_simp) (fun wd hxd K hK => (c_eqScene W2 H2 _ _ fs.length fs.length fs wd (Q6.out.ext flR_stab (Ext.trans Ec hxd)) (Z7.out.ext flR_stab hxd) Hsm.out).mono ?_)
      rintro e we ⟨rfl, hbe⟩
      refine ⟨_, rfl, hK _ _ ⟨fun _ => Cls.ext (Cls.ext hCc hxd) hbe, ?_⟩⟩
      clear hK K
      have E8 := Lib.hid (Ext.trans Ec (Ext.trans hxd hbe))
      clear hr7 hf7 hb hbe hxb hxd hCa hCc Ea Ec Z7
      refine late_free (by kernel_rfl) rfl rfl (fun wf hxf K hK => ?_)
      go_simp
      refine hK _ _ ?_
      clear hK K
      refine late_nil (fun wz hxz => ?_)
      have hb := Ext.trans E8.out (Ext.trans hxf hxz)
      clear hxf hxz E8
      replace P := Lib.hid (P.out.ext flR_stab hb)
      replace C := Lib.hid (C.out.ext coR_stab hb)
      replace R0 := Lib.hid (R0.out.ext hb)
      have lR0 := R0.out.lt
      replace R1 := Lib.hid (R1.out.ext hb)
      have lR1 := R1.out.lt
      replace E := Lib.hid (Ext.trans E.out hb)
      replace V3 := Lib.hid (V3.out.ext coR_stab hb)
      replace RM := Lib.hid (RM.out.ext hb)
      have lRM := RM.out.lt
      replace R5 := Lib.hid (R5.out.ext hb)
      have lR5 := R5.out.lt
      replace Q6 := Lib.hid (Q6.out.ext flR_stab hb)
      replace K6 := Lib.hid (K6.out.ext hb)
      replace KF := Lib.hid (KF.out.ext hb)
      replace CF := Lib.hid (CF.out.ext coR_stab hb)
      replace R7 := Lib.hid (R7.out.ext hb)
      have lR7 := R7.out.lt
      replace O := Lib.hid (own_ext O.out hb)
      replace R9 := Lib.hid (R9.out.ext hb)
      have lR9 := R9.out.lt
      clear hb
      have s0 := R1.out.cell_of (i := 0) rfl
      have s1 := R1.out.cell_of (i := 1) rfl
      have s2 := R1.out.cell_of (i := 2) rfl
      have q0 := R7.out.cell_of (i := 0) rfl
      have q1 := R7.out.cell_of (i := 1) rfl
      have q2 := R7.out.cell_of (i := 2) rfl
      clear s0 s1 s2 q0 q1 q2
      have x0 := R5.out.cell_of (i := 0) rfl
      have x1 := R5.out.cell_of (i := 1) rfl
      have x2 := R5.out.cell_of (i := 2) rfl
      go_wp2_with fail
      clear x0 x1 x2
      refine (c_markFrameW W H KF.out 1 (by omega) (by omega)).mono ?_
      rintro e wm ⟨rfl, hm⟩
      replace O := Lib.hid (O.out.mkd hm hz67)
      replace K6 := Lib.hid (K6.out.mkd hm)
      replace R7 := Lib.hid (R7.out.mkd hm (Nat.le_refl _))
      replace R9 := Lib.hid (R9.out.mkd hm hzb)
      replace E : Hid (Below w3.heap.size w3 wm) := Lib.hid (Below.trans E.out hm.below)
      clear hm R5 lR5 CF Q6 KF
      have q0 := R7.out.cell_of (i := 0) rfl
      have q1 := R7.out.cell_of (i := 1) rfl
      have q2 := R7.out.cell_of (i := 2) rfl
      go_wp2_with fail
      clear q0 q1 q2
      refine (c_markSceneW W2 H2 K6.out (1 + 4 * (cs.length : Int)) (by omega) (by omega)).mono ?_
      rintro e wn ⟨k9, rfl, hk9, _, hm⟩
      replace O := Lib.hid (O.out.mkd hm hz67)
      replace R9 := Lib.hid (R9.out.mkd hm hzb)
      replace E : Hid (Below w3.heap.size w3 wn) := Lib.hid (Below.trans E.out hm.below)
      replace P := Lib.hid (P3.out.ext flR_stab E.out)
      replace C := Lib.hid (C3.out.ext coR_stab E.out)
      replace V3 := Lib.hid (V33.out.ext coR_stab E.out)
      replace RM := Lib.hid (RM3.out.ext E.out)
      replace R0 := Lib.hid (R30.out.ext E.out)
      replace R1 := Lib.hid (R31.out.ext E.out)
      clear hm K6 R7 lR7
      have hk9' : ¬ k9 < 0 := by omega
      have hkD : decide (k9 < 0) = false := by simp; omega
      have m0 := RM.out.cell_of (i := 0) rfl
      have m1 := RM.out.cell_of (i := 1) rfl
      have m2 := RM.out.cell_of (i := 2) rfl
      have y0 := R9.out.cell_of (i := 0) rfl
      have y1 := R9.out.cell_of (i := 1) rfl
      have y2 := R9.out.cell_of (i := 2) rfl
      go_wp2_with fail
      clear m0 m1 m2 y0 y1 y2
      refine (c_eqFrame MW MH A5 A3 cap5 cap3 ms _ (cos_own O.out) V3.out hml).mono ?_
      rintro e wo ⟨rfl, hb⟩
      replace P := Lib.hid (P.out.ext flR_stab hb)
      replace C := Lib.hid (C.out.ext coR_stab hb)
      replace R0 := Lib.hid (R0.out.ext hb)
      have lR0 := R0.out.lt
      replace R1 := Lib.hid (R1.out.ext hb)
      have lR1 := R1.out.lt
      replace E := Lib.hid (Ext.trans E.out hb)
      replace V3 := Lib.hid (V3.out.ext coR_stab hb)
      replace RM := Lib.hid (RM.out.ext hb)
      have lRM := RM.out.lt
      replace O := Lib.hid (own_ext O.out hb)
      replace R9 := Lib.hid (R9.out.ext hb)
      have lR9 := R9.out.lt
      clear hb
      have m0 := RM.out.cell_of (i := 0) rfl
      have m1 := RM.out.cell_of (i := 1) rfl
      have m2 := RM.out.cell_of (i := 2) rfl
      have y0 := R9.out.cell_of (i := 0) rfl
      have y1 := R9.out.cell_of (i := 1) rfl
      have y2 := R9.out.cell_of (i := 2) rfl
      have hzo : w3.heap.size ≤ wo.heap.size := E.out.size
      clear m0 m1 m2 y0 y1 y2
      have y0 := R9.out.cell_of (i := 0) rfl
      have y1 := R9.out.cell_of (i := 1) rfl
      have y2 := R9.out.cell_of (i := 2) rfl
      go_wp2_with fail
      clear y0 y1 y2
      refine (c_markFrame MW MH O.out 1 (by omega) (by omega) (by omega)).mono ?_
      rintro e wp ⟨rfl, hop, hgp⟩
      replace E : Hid (Below w3.heap.size w3 wp) := Lib.hid (own_below E.out (O.out.rebase hz37) hgp hzo)
      replace R9 := Lib.hid (R9.out.grownNe O.out (by decide) hgp)
      replace O := Lib.hid hop
      replace P := Lib.hid (P3.out.ext flR_stab E.out)
      replace C := Lib.hid (C3.out.ext coR_stab E.out)
      replace V3 := Lib.hid (V33.out.ext coR_stab E.out)
      replace RM := Lib.hid (RM3.out.ext E.out)
      replace R0 := Lib.hid (R30.out.ext E.out)
      replace R1 := Lib.hid (R31.out.ext E.out)
      clear hop hgp
      have y0 := R9.out.cell_of (i := 0) rfl
      have y1 := R9.out.cell_of (i := 1) rfl
      have y2 := R9.out.cell_of (i := 2) rfl
      go_wp2_with fail
      clear y0 y1 y2
      refine (c_heldFrame MW MH 1 O.out (by omega) (by omega) (by omega)).mono ?_
      rintro e wq ⟨rfl, hb⟩
      replace P := Lib.hid (P.out.ext flR_stab hb)
      replace C := Lib.hid (C.out.ext coR_stab hb)
      replace R0 := Lib.hid (R0.out.ext hb)
      have lR0 := R0.out.lt
      replace R1 := Lib.hid (R1.out.ext hb)
      have lR1 := R1.out.lt
      replace E := Lib.hid (Ext.trans E.out hb)
      replace V3 := Lib.hid (V3.out.ext coR_stab hb)
      replace RM := Lib.hid (RM.out.ext hb)
      have lRM := RM.out.lt
      replace O := Lib.hid (own_ext O.out hb)
      replace R9 := Lib.hid (R9.out.ext hb)
      have lR9 := R9.out.lt
      clear hb
      have y0 := R9.out.cell_of (i := 0) rfl
      have y1 := R9.out.cell_of (i := 1) rfl
      have y2 := R9.out.cell_of (i := 2) rfl
      clear y0 y1 y2
      have k0 := R0.out.cell_of (i := 0) rfl
      have k1 := R0.out.cell_of (i := 1) rfl
      have k2 := R0.out.cell_of (i := 2) rfl
      have s0 := R1.out.cell_of (i := 0) rfl
      have s1 := R1.out.cell_of (i := 1) rfl
      have s2 := R1.out.cell_of (i := 2) rfl
      go_wp2_with fail
      refine wp_region_invJ [0, 2, 4] [(1, some 100), (3, some 102), (5, some 104), (6, some 98), (7, some 105), (8, some 106), (9, some 17), (10, none), (11, some 18)] (by kernel_rfl) (by kernel_rfl)
        (FjJ 5 wq.heap.size ((MW, MH, ms), md) (FF W H cs W2 H2 fs)) (fun _ _ _ _ h hx => h.ext hFF hx) ?_ ?_
      · intro vals w'
        refine FjJ.start (fun i hi hl v w => ?_) (fun i hi => ?_)
        · match i, hi with
          | 0, _ => trivial
          | 1, _ => exact absurd hl (by decide)
          | 2, _ => trivial
          | 3, _ => exact absurd hl (by decide)
          | 4, _ => trivial
        · rcases Nat.lt_or_ge i 12 with h9 | h9
          · match i, hi, h9 with
            | 5, _, _ => rfl
            | 6, _, _ => rfl
            | 7, _, _ => rfl
            | 8, _, _ => rfl
            | 9, _, _ => rfl
            | 10, _, _ => rfl
            | 11, _, _ => rfl
          · exact getD_out (n := 12) rfl h9
      iterate 3 ((refine calm_yes rfl rfl (fun w' hC => (by have k0 := hC.cell k0; have k1 := hC.cell k1; have k2 := hC.cell k2; have s0 := hC.cell s0; have s1 := hC.cell s1; have s2 := hC.cell s2; go_simp; rfl)) (fun K hK => ?_); go_simp; refine hK _ ?_; clear hK K))
      refine calm_nil ?_
      clear k0 k1 k2 s0 s1 s2
      refine ⟨List.forall_mem_cons.2 ⟨?_, List.forall_mem_cons.2 ⟨?_, List.forall_mem_cons.2 ⟨?_, List.forall_mem_cons.2 ⟨?_, List.forall_mem_cons.2 ⟨?_, List.forall_mem_cons.2 ⟨?_, List.forall_mem_cons.2 ⟨?_, List.forall_mem_cons.2 ⟨?_, List.forall_mem_cons.2 ⟨?_, by simp⟩⟩⟩⟩⟩⟩⟩⟩⟩, ?_⟩
      · exact FjJ.early_op (i := 1) (by decide) rfl (fun vals => rfl) rfl rfl Tryz.func8 (by kernel_rfl) rfl (fun vals => (by kernel_rfl)) hFF (fun w' hC => (c_toFrame W H A cap cs w' (C.out.ext coR_stab (Below.trans (Below.refl _ wq).drew hC)) hcl).mono fun e w'' ⟨b, he, _, hr, hb⟩ => ⟨_, he, ⟨b, rfl, cos_row hr⟩, hb⟩)
      · exact FjJ.early_op (i := 3) (by decide) rfl (fun vals => rfl) rfl rfl Tryz.func9 (by kernel_rfl) rfl (fun vals => (by kernel_rfl)) hFF (fun w' hC => (c_toScene W2 H2 As scap fs w' (P.out.ext flR_stab (Below.trans (Below.refl _ wq).drew hC)) Hsm.out).mono fun e w'' ⟨b, cs9, he, _, hr, hf, hb⟩ => ⟨_, he, ⟨b, rfl, (hf.in_ hr).imp (fun _ _ h => flO_R h)⟩, hb⟩)
      · refine FjJ.call_op rfl (fun vals => rfl) (args := fun vals => #[vals 1, vals 3, .int .i64 t]) rfl rfl Tryz.func10 (by kernel_rfl) rfl (fun vals => (by kernel_rfl)) hFF rfl (fun vals w' hC hE => ?_)
        obtain ⟨b1, k1, q1⟩ := hE 1 (by decide) (by kernel_rfl)
        obtain ⟨b3, k3, q3⟩ := hE 3 (by decide) (by kernel_rfl)
        dsimp only
        rw [k1, k3]
        refine (c_iDrawTile W H _ cs.length cs W2 H2 _ fs.length fs t w' q1 q3 hcl Hsm.out (slok_some hcl)).mono ?_
        rw [HM.out]
        rintro e w'' ⟨A', cap', rfl, ho, hb⟩
        exact ⟨A', cap', rfl, ho, hb⟩
      · exact FjJ.move_op rfl (fun vals => rfl) rfl rfl (fun vals => (by kernel_rfl)) (by kernel_rfl)
      · exact FjJ.ext0_op rfl (fun vals => rfl) rfl rfl (fun vals => (by kernel_rfl)) (by kernel_rfl)
      · exact FjJ.ext1_op rfl (fun vals => rfl) rfl rfl (fun vals => (by kernel_rfl)) (by kernel_rfl)
      · exact FjJ.alloc_op rfl (fun vals => rfl) rfl rfl hFF rfl
      · exact FjJ.store_op rfl (fun vals => rfl) rfl rfl rfl (fun vals => (by kernel_rfl)) (fun vals => (by kernel_rfl)) (by kernel_rfl) (by kernel_rfl) (by kernel_rfl)
      · exact FjJ.asg_op rfl (fun vals => rfl) rfl rfl (fun vals => (by kernel_rfl)) (by kernel_rfl)
      · intro listed vals wr hx hall hJ K hK
        obtain ⟨A6, cap6, g6, k1, k8, k2, k3, ho⟩ := hJ.done (hall 5 (by decide)) (hall 9 (by decide)) (hall 10 (by decide)) (hall 11 (by decide))
        replace k1 : vals 9 = .pointer (some ⟨g6, 0, none⟩) := k1
        replace k8 : vals 11 = .bool md := k8
        simp only [canon, List.foldl_cons, List.foldl_nil]
        rw [k1, k8]
        generalize vals = vv at *
        go_simp
        refine hK _ ?_
        clear hK K hJ hall k1 k8
        dsimp only at k3 ho
        have V6 := Lib.hid (cos_own ho)
        have R6 := Lib.hid k3
        have lR6 := k3.lt
        clear ho k3
        replace P := Lib.hid (P.out.ext flR_stab hx)
        replace C := Lib.hid (C.out.ext coR_stab hx)
        replace R0 := Lib.hid (R0.out.ext hx)
        have lR0 := R0.out.lt
        replace R1 := Lib.hid (R1.out.ext hx)
        have lR1 := R1.out.lt
        replace E := Lib.hid (Ext.trans E.out hx)
        replace V3 := Lib.hid (V3.out.ext coR_stab hx)
        replace RM := Lib.hid (RM.out.ext hx)
        have lRM := RM.out.lt
        replace O := Lib.hid (own_ext O.out hx)
        replace R9 := Lib.hid (R9.out.ext hx)
        have lR9 := R9.out.lt
        clear hx
        have k0 := R0.out.cell_of (i := 0) rfl
        have k1 := R0.out.cell_of (i := 1) rfl
        have k2 := R0.out.cell_of (i := 2) rfl
        have s0 := R1.out.cell_of (i := 0) rfl
        have s1 := R1.out.cell_of (i := 1) rfl
        have s2 := R1.out.cell_of (i := 2) rfl
        clear k0 k1 k2 s0 s1 s2
        have m0 := RM.out.cell_of (i := 0) rfl
        have m1 := RM.out.cell_of (i := 1) rfl
        have m2 := RM.out.cell_of (i := 2) rfl
        have y0 := R6.out.cell_of (i := 0) rfl
        have y1 := R6.out.cell_of (i := 1) rfl
        have y2 := R6.out.cell_of (i := 2) rfl
        go_wp2_with fail
        clear m0 m1 m2 y0 y1 y2
        refine (c_eqFrame MW MH A6 A3 cap6 cap3 ms _ V6.out V3.out hml).mono ?_
        rintro e ws ⟨rfl, hb⟩
        replace P := Lib.hid (P.out.ext flR_stab hb)
        replace C := Lib.hid (C.out.ext coR_stab hb)
        replace R0 := Lib.hid (R0.out.ext hb)
        have lR0 := R0.out.lt
        replace R1 := Lib.hid (R1.out.ext hb)
        have lR1 := R1.out.lt
        replace E := Lib.hid (Ext.trans E.out hb)
        replace V3 := Lib.hid (V3.out.ext coR_stab hb)
        replace RM := Lib.hid (RM.out.ext hb)
        have lRM := RM.out.lt
        replace O := Lib.hid (own_ext O.out hb)
        replace R9 := Lib.hid (R9.out.ext hb)
        have lR9 := R9.out.lt
        replace V6 := Lib.hid (V6.out.ext coR_stab hb)
        replace R6 := Lib.hid (R6.out.ext hb)
        have lR6 := R6.out.lt
        clear hb
        have m0 := RM.out.cell_of (i := 0) rfl
        have m1 := RM.out.cell_of (i := 1) rfl
        have m2 := RM.out.cell_of (i := 2) rfl
        have y0 := R6.out.cell_of (i := 0) rfl
        have y1 := R6.out.cell_of (i := 1) rfl
        have y2 := R6.out.cell_of (i := 2) rfl
        clear m0 m1 m2 y0 y1 y2
        have y0 := R9.out.cell_of (i := 0) rfl
        have y1 := R9.out.cell_of (i := 1) rfl
        have y2 := R9.out.cell_of (i := 2) rfl
        go_wp2_with fail
        clear y0 y1 y2
        refine (c_heldFrame MW MH 1 O.out (by omega) (by omega) (by omega)).mono ?_
        rintro e wt ⟨rfl, hb⟩
        replace P := Lib.hid (P.out.ext flR_stab hb)
        replace C := Lib.hid (C.out.ext coR_stab hb)
        replace R0 := Lib.hid (R0.out.ext hb)
        have lR0 := R0.out.lt
        replace R1 := Lib.hid (R1.out.ext hb)
        have lR1 := R1.out.lt
        replace E := Lib.hid (Ext.trans E.out hb)
        replace V3 := Lib.hid (V3.out.ext coR_stab hb)
        replace RM := Lib.hid (RM.out.ext hb)
        have lRM := RM.out.lt
        replace O := Lib.hid (own_ext O.out hb)
        replace R9 := Lib.hid (R9.out.ext hb)
        have lR9 := R9.out.lt
        replace V6 := Lib.hid (V6.out.ext coR_stab hb)
        replace R6 := Lib.hid (R6.out.ext hb)
        have lR6 := R6.out.lt
        clear hb
        have y0 := R9.out.cell_of (i := 0) rfl
        have y1 := R9.out.cell_of (i := 1) rfl
        have y2 := R9.out.cell_of (i := 2) rfl
        go_wp2
        go_ret
        exact ⟨rfl, Ext.trans E3.out E.out⟩

theorem opens0 : Opens Tryz.prog 24 (frR ) :=  opens_fr (opens_struct3 (c0 := 1) (c1 := 1) (c2 := 1) Tryz.underlying24 (by kernel_rfl) (by kernel_rfl) (by kernel_rfl) (opens_int (by kernel_rfl)) (opens_int (by kernel_rfl)) (opens_slice Tryz.underlying22 (by kernel_rfl) (by decide) (opens_co (opens_bx Tryz.underlying95 (by kernel_rfl) (by kernel_rfl) (by kernel_rfl) (by kernel_rfl))))) 
theorem opens1 : Opens Tryz.prog 27 (scR ) :=  opens_sc (opens_struct3 (c0 := 1) (c1 := 1) (c2 := 1) Tryz.underlying27 (by kernel_rfl) (by kernel_rfl) (by kernel_rfl) (opens_int (by kernel_rfl)) (opens_int (by kernel_rfl)) (opens_slice Tryz.underlying25 (by kernel_rfl) (by decide) (opens_fl (opens_struct3 (c0 := 1) (c1 := 1) (c2 := 5) Tryz.underlying79 (by kernel_rfl) (by kernel_rfl) (by kernel_rfl) (opens_slice Tryz.underlying72 (by kernel_rfl) (by decide) (opens_vb Tryz.underlying135 (by kernel_rfl) (by kernel_rfl) (by kernel_rfl) (by kernel_rfl) (by kernel_rfl) (by kernel_rfl) Tryz.underlying133 Tryz.underlying74 (by kernel_rfl) (by kernel_rfl) (by kernel_rfl) (by kernel_rfl) (by kernel_rfl) (by kernel_rfl) (by kernel_rfl))) (opens_int (by kernel_rfl)) (opens_struct3 (c0 := 2) (c1 := 2) (c2 := 1) Tryz.underlying77 (by kernel_rfl) (by kernel_rfl) (by kernel_rfl) (opens_pt Tryz.underlying74 (by kernel_rfl) (by kernel_rfl) (by kernel_rfl) (by kernel_rfl) (by kernel_rfl) (by kernel_rfl) (by kernel_rfl)) (opens_pt Tryz.underlying74 (by kernel_rfl) (by kernel_rfl) (by kernel_rfl) (by kernel_rfl) (by kernel_rfl) (by kernel_rfl) (by kernel_rfl)) (opens_slice Tryz.underlying75 (by kernel_rfl) (by decide) (opens_st Tryz.underlying163 (by kernel_rfl) (by kernel_rfl) (by kernel_rfl) (by kernel_rfl) (by kernel_rfl) (by kernel_rfl) (opens_bx Tryz.underlying95 (by kernel_rfl) (by kernel_rfl) (by kernel_rfl) (by kernel_rfl))))))))) 
set_option maxRecDepth 100000 in
theorem lifted (os : Os) (started : os.Started) (H : Type) (enc : TypeId × Value → H) :
    ReturnsInHanded {} Tryz.checked os 3 .any (Rows.fnExactDrawTileSpec.pre6 enc Tryz.prog Tryz.f3 Rows.fnExactDrawTileRow.domain false) (Rows.fnExactDrawTileSpec.post enc Tryz.prog Tryz.f3 false true false false) := by
  refine returnsInHanded_of_change (C := Tryz.checked) own started (by kernel_rfl) Tryz.func3
    (ChangeSpec.witness6 (enc := enc) (C := Tryz.checked) false ⟨#[], #[ .agg #[.int .i64 0, .int .i64 0, .slice none 0 0],  .agg #[.int .i64 0, .int .i64 0, .slice none 0 0], .int .i64 0], []⟩ 8 (by kernel_rfl) (by kernel_rfl) (by kernel_rfl) (by kernel_rfl)) ?_
  intro W base args ds gs before hval0 hW hcnd _
  have hval : ∀ (j : Nat) t v, Tryz.f3.params[j]? = some t → args[j]? = some v → Value.okWide Tryz.prog W .any base t v := hval0
  have hW' := hW
  obtain ⟨p, q, hA0, hV, rfl, hfz, hnd⟩ := hW
  have hA : DataW.TrodAll enc Tryz.prog W 0 (fun _ => true) true Tryz.f3.params.toList args.toList ds p := hA0
  rw [Tryz.params3] at hA hval
  obtain ⟨v0, vs0, d0, ds0, p0, q0, hargs, rfl, rfl, h0, r0⟩ := trodAll_cons hA
  obtain ⟨v1, vs1, d1, ds1, p1, q1, rfl, rfl, rfl, h1, r1⟩ := trodAll_cons r0
  obtain ⟨v2, vs2, d2, ds2, p2, q2, rfl, rfl, rfl, h2, r2⟩ := trodAll_cons r1
  obtain ⟨rfl, rfl, rfl⟩ := trodAll_nil r2
  obtain rfl : args = #[v0, v1, v2] := by cases args; simp_all
  obtain ⟨rfl, rfl, rfl⟩ := trodVars_none hV
  obtain ⟨n2, rfl⟩ := okWide_int Tryz.underlying3 (hval 2 3 v2 rfl rfl)
  have k0 := h0
  have lt0 : ∀ x ∈ p0, x.block < W.heap.size := by obtain ⟨m, hm⟩ := k0; exact DataW.trod_lt m _ _ _ hm
  have k1 := h1
  have lt1 : ∀ x ∈ p1, x.block < W.heap.size := by obtain ⟨m, hm⟩ := k1; exact DataW.trod_lt m _ _ _ hm
  have k2 := h2
  have lt2 : ∀ x ∈ p2, x.block < W.heap.size := by obtain ⟨m, hm⟩ := k2; exact DataW.trod_lt m _ _ _ hm
  obtain ⟨x0, us0, rfl, z0⟩ := open_struct_arg Tryz.underlying24 opens0 (hval 0 24 _ rfl rfl) h0
  obtain ⟨x1, us1, rfl, z1⟩ := open_struct_arg Tryz.underlying27 opens1 (hval 1 27 _ rfl rfl) h1
  clear hA0 hval0
  refine (walk x0 us0 x1 us1 n2 W z0 z1).mono fun e W' ⟨he, bel⟩ => ?_
  subst he
  exact ⟨_, rfl, _, _, _, [], _, [], hW', trodAll_mk1 (shut_bool Tryz.underlying4 _), (trodAll_cons_mk (Below.trod laidOut (by kernel_rfl) (of_decide_eq_true (by kernel_rfl)) k0 bel lt0) (trodAll_cons_mk (Below.trod laidOut (by kernel_rfl) (of_decide_eq_true (by kernel_rfl)) k1 bel lt1) (trodAll_cons_mk (Below.trod laidOut (by kernel_rfl) (of_decide_eq_true (by kernel_rfl)) k2 bel lt2) trodAll_mk0))), rfl, bel.frame _, fun h => by cases h⟩
theorem joinedA : joinA Tryz.pinned.checked.prog 3 Tryz.f3 Rows.fnExactDrawTileSpec Rows.fnExactDrawTileRow = true := by kernel_rfl
theorem joinedB : joinB Tryz.pinned.checked.prog Rows.fnExactDrawTileRow = true := by kernel_rfl
theorem over : Rows.fnExactDrawTileRow.holds Tryz.pinned (OpenSpec.ofChange Rows.fnExactDrawTileSpec) :=
  OpenClaim.holds_of_wide 3 Tryz.f3 rfl rfl rfl rfl rfl rfl rfl ⟨rfl, rfl, rfl, rfl, rfl⟩ rfl rfl rfl rfl rfl (by kernel_rfl) Tryz.func3 (joined_of joinedA joinedB)
    (of_decide_eq_true (by kernel_rfl)) (by unfold Func.isWrapper; first | (rw [if_pos (by decide +kernel)]; kernel_rfl) | (rw [if_neg (by decide +kernel)]; exact ⟨rfl, rfl⟩))
    (fun os started H enc _ => lifted os started H enc)

theorem proved : Rows.FnExactDrawTileSaid := over

end Go.Proofs.YthjmpofdpmlhmaaGreat.fnExactDrawTile
