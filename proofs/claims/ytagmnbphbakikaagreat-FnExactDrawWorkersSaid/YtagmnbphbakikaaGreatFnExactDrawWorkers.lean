/- DrawWorkers of the program and DrawWorkers of the reference return the same for every scene, number of workers and turns, in memory of its own; the arguments are left as they were. -/
import Derived.Test.YtagmnbphbakikaaGreatFillE
import Derived.Test.YtagmnbphbakikaaGreatFrameO
import Derived.Test.YtagmnbphbakikaaGreatMg21
import Derived.Test.YtagmnbphbakikaaGreatJoin
namespace Go.Proofs.YtagmnbphbakikaaGreat.fnExactDrawWorkers
open Go Go.RowKit Go.ChangeShapes Go.WideShapes Go.ChangeAt Go.Deep Reg
attribute [local go_sem] calmAt calmUpon

theorem own : ownKnob Tryz.prog.godebug = none := by kernel_rfl
theorem laidOut : laidOutB Tryz.prog = true := by kernel_rfl
set_option maxRecDepth 100000 in
set_option maxHeartbeats 16000000 in
theorem walk (y : Int × Int × List FlD) (ys : List Value) (wk : Int) (At : Option Addr) (tcap : Nat) (sc : List Pt) (w : World) (hv : scR w y ys) (hi : In ptR 2 w At sc) (hlc : sc.length ≤ tcap) (hcm : tcap ≤ maxLen) :
    Calls Tryz.prog 4 #[.agg ys.toArray, .int .i64 wk, .slice At sc.length tcap] w fun e w' => e = .returned (.bool true) ∧ Below w.heap.size w w' := by
  obtain ⟨W, H, fs⟩ := y
  obtain ⟨As, scap, rfl, hF, hfs⟩ := hv
  dsimp only at hF hfs
  have hl9 : fs.length ≤ 9223372036854775807 := by have h := hfs.2; unfold maxLen at h; omega
  unfold maxLen at hcm
  have P := Lib.hid hF
  have I := Lib.hid (show Pts w At sc from hi)
  have E := Lib.hid (Below.refl w.heap.size w)
  obtain ⟨M, hM⟩ : ∃ M, dwR W H fs wk sc = M := ⟨_, rfl⟩
  have HML : Hid (M.1.2.2.length ≤ 1048576) := Lib.hid (by rw [← hM]; exact dwR_len W H fs wk sc)
  obtain ⟨⟨MW, MH, ms⟩, md⟩ := M
  have hml : ms.length ≤ 1048576 := HML.out
  have HM := Lib.hid hM
  clear hM hF hi HML
  go_enter Tryz.func4, Tryz.ntmps4
  go_wp2_with fail
  first | refine gen_calls ?_ | refine gen_code ?_ | refine gen_list ?_
  intro w0 hW
  obtain ⟨hb, hR1⟩ := new1 hW
  clear hW
  replace E := Lib.hid (Ext.trans E.out hb)
  replace P := Lib.hid (P.out.ext flR_stab hb)
  replace I := Lib.hid (I.out.ext ptR_stab hb)
  clear hb
  have R1 := Lib.hid hR1
  have lR1 := R1.out.lt
  clear hR1
  have s0 := R1.out.cell_of (i := 0) rfl
  have s1 := R1.out.cell_of (i := 1) rfl
  have s2 := R1.out.cell_of (i := 2) rfl
  go_wp2_with fail
  clear s0 s1 s2
  refine (c_szScene 1048576 W H As scap fs _ (by omega) (by omega) P.out hl9).mono ?_
  rintro e w1 ⟨m2, rfl, hm2, hb⟩
  replace E := Lib.hid (Ext.trans E.out hb)
  replace P := Lib.hid (P.out.ext flR_stab hb)
  replace I := Lib.hid (I.out.ext ptR_stab hb)
  replace R1 := Lib.hid (R1.out.ext hb)
  have lR1 := R1.out.lt
  clear hb
  have s0 := R1.out.cell_of (i := 0) rfl
  have s1 := R1.out.cell_of (i := 1) rfl
  have s2 := R1.out.cell_of (i := 2) rfl
  have Hm2 := Lib.hid hm2
  clear hm2
  by_cases hneg2 : m2 < 0
  · go_wp2
    go_ret
    exact ⟨rfl, E.out⟩
  · have Hsm := Lib.hid (Hm2.out (by omega)).2
    have hmu := (Hm2.out (by omega)).1
    have hl := Hsm.out.1
    have KS := Lib.hid (fun Wd => c_szTurnS At sc.length tcap m2 Wd (by omega) (by omega) (by omega))
    obtain ⟨m3, hm3⟩ : ∃ m, (if m2 - (sc.length : Int) < 0 then -1 else m2 - (sc.length : Int)) = m := ⟨_, rfl⟩
    rw [hm3] at KS
    have Hm3 := Lib.hid hm3
    clear Hm2 hl9 hm3
    go_wp2_with fail
    refine (KS.out _).mono ?_
    rintro e w' ⟨rfl, rfl⟩
    by_cases hneg3 : m3 < 0
    · go_wp2
      go_ret
      exact ⟨rfl, E.out⟩
    have htl : sc.length ≤ 1048576 := by
      have := Hm3.out
      split at this <;> omega
    clear Hm3 KS
    go_wp2_with fail
    clear s0 s1 s2
    refine (c_toScene W H As scap fs _ P.out Hsm.out).mono ?_
    rintro e wa ⟨b2, cs2, rfl, _, hr2, hf2, hb⟩
    replace E := Lib.hid (Ext.trans E.out hb)
    replace P := Lib.hid (P.out.ext flR_stab hb)
    replace I := Lib.hid (I.out.ext ptR_stab hb)
    replace R1 := Lib.hid (R1.out.ext hb)
    have lR1 := R1.out.lt
    clear hb
    have Q2 := Lib.hid (((hf2.in_ hr2).imp (fun _ _ h => flO_R h)))
    have s0 := R1.out.cell_of (i := 0) rfl
    have s1 := R1.out.cell_of (i := 1) rfl
    have s2 := R1.out.cell_of (i := 2) rfl
    clear hr2 hf2
    go_wp2_with fail
    clear s0 s1 s2
    refine (c_toTurnS At tcap sc _ I.out htl).mono ?_
    rintro e wb ⟨b3, rfl, _, hr3, hb⟩
    replace E := Lib.hid (Ext.trans E.out hb)
    replace P := Lib.hid (P.out.ext flR_stab hb)
    replace I := Lib.hid (I.out.ext ptR_stab hb)
    replace R1 := Lib.hid (R1.out.ext hb)
    have lR1 := R1.out.lt
    replace Q2 := Lib.hid (Q2.out.ext flR_stab hb)
    clear hb
    have I2 := Lib.hid ((pts_rowF hr3))
    have s0 := R1.out.cell_of (i := 0) rfl
    have s1 := R1.out.cell_of (i := 1) rfl
    have s2 := R1.out.cell_of (i := 2) rfl
    clear hr3
    go_wp2_with fail
    clear s0 s1 s2
    refine (c_sDrawWorkers W H _ fs.length fs wk _ sc.length sc _ Q2.out I2.out Hsm.out htl).mono ?_
    rw [HM.out]
    rintro e wc ⟨A3, cap3, rfl, ho3, hb⟩
    replace E := Lib.hid (Ext.trans E.out hb)
    replace P := Lib.hid (P.out.ext flR_stab hb)
    replace I := Lib.hid (I.out.ext ptR_stab hb)
    replace R1 := Lib.hid (R1.out.ext hb)
    have lR1 := R1.out.lt
    replace Q2 := Lib.hid (Q2.out.ext flR_stab hb)
    replace I2 := Lib.hid (I2.out.ext ptR_stab hb)
    clear hb
    have V3 := Lib.hid ((cos_own ho3))
    have s0 := R1.out.cell_of (i := 0) rfl
    have s1 := R1.out.cell_of (i := 1) rfl
    have s2 := R1.out.cell_of (i := 2) rfl
    clear ho3
    have hzc : w.heap.size ≤ wc.heap.size := E.out.size
    go_wp2_with fail
    clear s0 s1 s2
    first | refine gen_calls ?_ | refine gen_code ?_ | refine gen_list ?_
    intro w3 hW
    obtain ⟨hb, hRM⟩ := new1 hW
    clear hW
    replace E := Lib.hid (Ext.trans E.out hb)
    replace P := Lib.hid (P.out.ext flR_stab hb)
    replace I := Lib.hid (I.out.ext ptR_stab hb)
    replace R1 := Lib.hid (R1.out.ext hb)
    have lR1 := R1.out.lt
    replace Q2 := Lib.hid (Q2.out.ext flR_stab hb)
    replace I2 := Lib.hid (I2.out.ext ptR_stab hb)
    replace V3 := Lib.hid (V3.out.ext coR_stab hb)
    clear hb
    have RM := Lib.hid hRM
    have lRM := RM.out.lt
    clear hRM
    have s0 := R1.out.cell_of (i := 0) rfl
    have s1 := R1.out.cell_of (i := 1) rfl
    have s2 := R1.out.cell_of (i := 2) rfl
    clear s0 s1 s2
    have E3 := Lib.hid E.out
    have P3 := Lib.hid P.out
    have I3 := Lib.hid I.out
    have V33 := Lib.hid V3.out
    have RM3 := Lib.hid RM.out
    have R31 := Lib.hid R1.out
    clear E Q2 I2
    have E := Lib.hid (Below.refl w3.heap.size w3)
    have s0 := R1.out.cell_of (i := 0) rfl
    have s1 := R1.out.cell_of (i := 1) rfl
    have s2 := R1.out.cell_of (i := 2) rfl
    go_wp2_with fail
    clear s0 s1 s2
    refine (c_toScene W H As scap fs _ P.out Hsm.out).mono ?_
    rintro e w6 ⟨b6, cs6, rfl, hg6, hr6, hf6, hb⟩
    replace P := Lib.hid (P.out.ext flR_stab hb)
    replace I := Lib.hid (I.out.ext ptR_stab hb)
    replace R1 := Lib.hid (R1.out.ext hb)
    have lR1 := R1.out.lt
    replace V3 := Lib.hid (V3.out.ext coR_stab hb)
    replace RM := Lib.hid (RM.out.ext hb)
    have lRM := RM.out.lt
    replace E := Lib.hid (Ext.trans E.out hb)
    clear hb
    have s0 := R1.out.cell_of (i := 0) rfl
    have s1 := R1.out.cell_of (i := 1) rfl
    have s2 := R1.out.cell_of (i := 2) rfl
    have Q6 := Lib.hid (show Fls w6 (some ⟨b6, 0, none⟩) fs from (hf6.in_ hr6).imp (fun _ _ h => flO_R h))
    have FR6 := Lib.hid hf6
    have RR6 := Lib.hid hr6
    clear hr6 hf6
    clear s0 s1 s2
    have s0 := R1.out.cell_of (i := 0) rfl
    have s1 := R1.out.cell_of (i := 1) rfl
    have s2 := R1.out.cell_of (i := 2) rfl
    go_wp2_with fail
    clear s0 s1 s2
    first | refine gen_calls ?_ | refine gen_code ?_ | refine gen_list ?_
    intro w7 hW
    obtain ⟨hb, hR7⟩ := new1 hW
    clear hW
    replace P := Lib.hid (P.out.ext flR_stab hb)
    replace I := Lib.hid (I.out.ext ptR_stab hb)
    replace R1 := Lib.hid (R1.out.ext hb)
    have lR1 := R1.out.lt
    replace V3 := Lib.hid (V3.out.ext coR_stab hb)
    replace RM := Lib.hid (RM.out.ext hb)
    have lRM := RM.out.lt
    replace E := Lib.hid (Ext.trans E.out hb)
    replace Q6 := Lib.hid (Q6.out.ext flR_stab hb)
    replace FR6 := Lib.hid (FR6.out.ext hb)
    replace RR6 := Lib.hid (RR6.out.ext hb)
    have lRR6 := RR6.out.lt
    clear hb
    have R7 := Lib.hid hR7
    have lR7 := R7.out.lt
    clear hR7
    have s0 := R1.out.cell_of (i := 0) rfl
    have s1 := R1.out.cell_of (i := 1) rfl
    have s2 := R1.out.cell_of (i := 2) rfl
    have hz37 : w3.heap.size ≤ w7.heap.size := E.out.size
    clear s0 s1 s2
    have s0 := R1.out.cell_of (i := 0) rfl
    have s1 := R1.out.cell_of (i := 1) rfl
    have s2 := R1.out.cell_of (i := 2) rfl
    have q0 := R7.out.cell_of (i := 0) rfl
    have q1 := R7.out.cell_of (i := 1) rfl
    have q2 := R7.out.cell_of (i := 2) rfl
    go_wp2_with fail
    clear s0 s1 s2 q0 q1 q2
    refine (c_toTurnS At tcap sc _ I.out htl).mono ?_
    rintro e w8 ⟨b8, rfl, hg8, hr8, hb⟩
    replace P := Lib.hid (P.out.ext flR_stab hb)
    replace I := Lib.hid (I.out.ext ptR_stab hb)
    replace R1 := Lib.hid (R1.out.ext hb)
    have lR1 := R1.out.lt
    replace V3 := Lib.hid (V3.out.ext coR_stab hb)
    replace RM := Lib.hid (RM.out.ext hb)
    have lRM := RM.out.lt
    replace E := Lib.hid (Ext.trans E.out hb)
    replace Q6 := Lib.hid (Q6.out.ext flR_stab hb)
    replace FR6 := Lib.hid (FR6.out.ext hb)
    replace RR6 := Lib.hid (RR6.out.ext hb)
    have lRR6 := RR6.out.lt
    replace R7 := Lib.hid (R7.out.ext hb)
    have lR7 := R7.out.lt
    clear hb
    have I8 := Lib.hid ((pts_rowF hr8))
    have K8 := Lib.hid ((show NumK w3.heap.size w8.heap.size 2 w8 101 (.slice (some ⟨b8, 0, none⟩) sc.length sc.length) sc.length from ⟨⟨E.out.size, Nat.le_refl _⟩, NumS.of_row hr8 (Nat.le_trans hz37 hg8) (Nat.le_of_eq (flat_len ptC_len sc).symm) (ptC_int sc) htl⟩))
    have s0 := R1.out.cell_of (i := 0) rfl
    have s1 := R1.out.cell_of (i := 1) rfl
    have s2 := R1.out.cell_of (i := 2) rfl
    have q0 := R7.out.cell_of (i := 0) rfl
    have q1 := R7.out.cell_of (i := 1) rfl
    have q2 := R7.out.cell_of (i := 2) rfl
    clear hr8
    clear s0 s1 s2 q0 q1 q2
    have K6 : Hid (FlsK w3.heap.size w8.heap.size w8 (.slice (some ⟨b6, 0, none⟩) fs.length fs.length) fs.length) := Lib.hid ⟨⟨E.out.size, Nat.le_refl _⟩, FlsS.of_row FR6.out RR6.out hg6 Hsm.out⟩
    clear FR6 RR6
    have hz38 : w3.heap.size ≤ w8.heap.size := E.out.size
    have s0 := R1.out.cell_of (i := 0) rfl
    have s1 := R1.out.cell_of (i := 1) rfl
    have s2 := R1.out.cell_of (i := 2) rfl
    have q0 := R7.out.cell_of (i := 0) rfl
    have q1 := R7.out.cell_of (i := 1) rfl
    have q2 := R7.out.cell_of (i := 2) rfl
    go_wp2_with fail
    clear s0 s1 s2 q0 q1 q2
    refine (c_iDrawWorkers W H _ fs.length fs wk _ sc.length sc _ Q6.out I8.out Hsm.out htl).mono ?_
    rw [HM.out]
    rintro e w9 ⟨A5, cap5, rfl, ho5, hb⟩
    replace P := Lib.hid (P.out.ext flR_stab hb)
    replace I := Lib.hid (I.out.ext ptR_stab hb)
    replace R1 := Lib.hid (R1.out.ext hb)
    have lR1 := R1.out.lt
    replace V3 := Lib.hid (V3.out.ext coR_stab hb)
    replace RM := Lib.hid (RM.out.ext hb)
    have lRM := RM.out.lt
    replace E := Lib.hid (Ext.trans E.out hb)
    replace Q6 := Lib.hid (Q6.out.ext flR_stab hb)
    replace R7 := Lib.hid (R7.out.ext hb)
    have lR7 := R7.out.lt
    replace I8 := Lib.hid (I8.out.ext ptR_stab hb)
    replace K8 := Lib.hid (K8.out.ext hb)
    replace K6 := Lib.hid (K6.out.ext hb)
    clear hb
    have O := Lib.hid (ho5)
    clear ho5
    have s0 := R1.out.cell_of (i := 0) rfl
    have s1 := R1.out.cell_of (i := 1) rfl
    have s2 := R1.out.cell_of (i := 2) rfl
    have q0 := R7.out.cell_of (i := 0) rfl
    have q1 := R7.out.cell_of (i := 1) rfl
    have q2 := R7.out.cell_of (i := 2) rfl
    have hzb : w8.heap.size ≤ w9.heap.size := K6.out.1.2
    have hdd : (md != md) = false := by simp
    clear s0 s1 s2 q0 q1 q2
    have m0 := RM.out.cell_of (i := 0) rfl
    have m1 := RM.out.cell_of (i := 1) rfl
    have m2 := RM.out.cell_of (i := 2) rfl
    go_wp2_with fail
    clear m0 m1 m2
    first | refine gen_calls ?_ | refine gen_code ?_ | refine gen_list ?_
    intro w10 hW
    obtain ⟨hb, hR9⟩ := new1 hW
    clear hW
    replace P := Lib.hid (P.out.ext flR_stab hb)
    replace I := Lib.hid (I.out.ext ptR_stab hb)
    replace R1 := Lib.hid (R1.out.ext hb)
    have lR1 := R1.out.lt
    replace V3 := Lib.hid (V3.out.ext coR_stab hb)
    replace RM := Lib.hid (RM.out.ext hb)
    have lRM := RM.out.lt
    replace E := Lib.hid (Ext.trans E.out hb)
    replace Q6 := Lib.hid (Q6.out.ext flR_stab hb)
    replace R7 := Lib.hid (R7.out.ext hb)
    have lR7 := R7.out.lt
    replace I8 := Lib.hid (I8.out.ext ptR_stab hb)
    replace K8 := Lib.hid (K8.out.ext hb)
    replace K6 := Lib.hid (K6.out.ext hb)
    replace O := Lib.hid (own_ext O.out hb)
    clear hb
    have R9 := Lib.hid hR9
    have lR9 := R9.out.lt
    clear hR9
    have m0 := RM.out.cell_of (i := 0) rfl
    have m1 := RM.out.cell_of (i := 1) rfl
    have m2 := RM.out.cell_of (i := 2) rfl
    clear m0 m1 m2
    have m0 := RM.out.cell_of (i := 0) rfl
    have m1 := RM.out.cell_of (i := 1) rfl
    have m2 := RM.out.cell_of (i := 2) rfl
    have y0 := R9.out.cell_of (i := 0) rfl
    have y1 := R9.out.cell_of (i := 1) rfl
    have y2 := R9.out.cell_of (i := 2) rfl
    go_wp2_with fail
    clear m0 m1 m2 y0 y1 y2
    refine (c_eqFrame MW MH A5 A3 cap5 cap3 ms _ (cos_own O.out) V3.out hml).mono ?_
    rintro e w11 ⟨rfl, hb⟩
    replace P := Lib.hid (P.out.ext flR_stab hb)
    replace I := Lib.hid (I.out.ext ptR_stab hb)
    replace R1 := Lib.hid (R1.out.ext hb)
    have lR1 := R1.out.lt
    replace V3 := Lib.hid (V3.out.ext coR_stab hb)
    replace RM := Lib.hid (RM.out.ext hb)
    have lRM := RM.out.lt
    replace E := Lib.hid (Ext.trans E.out hb)
    replace Q6 := Lib.hid (Q6.out.ext flR_stab hb)
    replace R7 := Lib.hid (R7.out.ext hb)
    have lR7 := R7.out.lt
    replace I8 := Lib.hid (I8.out.ext ptR_stab hb)
    replace K8 := Lib.hid (K8.out.ext hb)
    replace K6 := Lib.hid (K6.out.ext hb)
    replace O := Lib.hid (own_ext O.out hb)
    replace R9 := Lib.hid (R9.out.ext hb)
    have lR9 := R9.out.lt
    clear hb
    have m0 := RM.out.cell_of (i := 0) rfl
    have m1 := RM.out.cell_of (i := 1) rfl
    have m2 := RM.out.cell_of (i := 2) rfl
    have y0 := R9.out.cell_of (i := 0) rfl
    have y1 := R9.out.cell_of (i := 1) rfl
    have y2 := R9.out.cell_of (i := 2) rfl
    clear m0 m1 m2 y0 y1 y2
    have s0 := R1.out.cell_of (i := 0) rfl
    have s1 := R1.out.cell_of (i := 1) rfl
    have s2 := R1.out.cell_of (i := 2) rfl
    have q0 := R7.out.cell_of (i := 0) rfl
    have q1 := R7.out.cell_of (i := 1) rfl
    have q2 := R7.out.cell_of (i := 2) rfl
    go_wp2_with fail
    refine wp_region_calm [0,1] [2,3,4] (by kernel_rfl) (by kernel_rfl) ?_
    iterate 2 ((refine calm_yes rfl rfl (fun w' hC => (by have s0 := hC.cell s0; have s1 := hC.cell s1; have s2 := hC.cell s2; have q0 := hC.cell q0; have q1 := hC.cell q1; have q2 := hC.cell q2; go_simp; rfl)) (fun K hK => ?_); go_simp; refine hK _ ?_; clear hK K))
    refine calm_nil (fun wa hCa => ?_)
    clear s0 s1 s2 q0 q1 q2
    have Ea := ext_cls hCa
    refine late_fn rfl rfl rfl Tryz.func8 (by kernel_rfl) rfl (by go_simp) (fun wb hxb K hK => (c_toScene W H As scap fs wb (P.out.ext flR_stab (Ext.trans Ea hxb)) Hsm.out).mono ?_)
    rintro e wc ⟨b7, cs7, rfl, _, hr7, hf7, hb⟩
    have Ec := Ext.trans (Ext.trans Ea hxb) hb
    have hCc := Cls.ext (Cls.ext hCa hxb) hb
    have Z7 := Lib.hid ((hf7.in_ hr7).imp (fun _ _ h => flO_R h))
    refine ⟨_, rfl, hK _ _ ⟨fun _ => hCc, ?_⟩⟩
    clear hK K
    refine late_fn rfl rfl rfl Tryz.func12 (by kernel_rfl) rfl (by go_simp) (fun wd hxd K hK => (c_eqScene W H _ _ fs.length fs.length fs wd (Q6.out.ext flR_stab (Ext.trans Ec hxd)) (Z7.out.ext flR_stab hxd) Hsm.out).mono ?_)
    rintro e we ⟨rfl, hbe⟩
    refine ⟨_, rfl, hK _ _ ⟨fun _ => Cls.ext (Cls.ext hCc hxd) hbe, ?_⟩⟩
    clear hK K
    have E8 := Lib.hid (Ext.trans Ec (Ext.trans hxd hbe))
    clear hr7 hf7 hb hbe hxb hxd hCa hCc Ea Ec Z7
    refine late_free (by kernel_rfl) rfl rfl (fun wf hxf K hK => ?_)
    go_simp
    refine hK _ _ ?_
    clear hK K
    refine late_nil (fun wz hxz => ?_)
    have hb := Ext.trans E8.out (Ext.trans hxf hxz)
    clear hxf hxz E8
    replace P := Lib.hid (P.out.ext flR_stab hb)
    replace I := Lib.hid (I.out.ext ptR_stab hb)
    replace R1 := Lib.hid (R1.out.ext hb)
    have lR1 := R1.out.lt
    replace V3 := Lib.hid (V3.out.ext coR_stab hb)
    replace RM := Lib.hid (RM.out.ext hb)
    have lRM := RM.out.lt
    replace E := Lib.hid (Ext.trans E.out hb)
    replace Q6 := Lib.hid (Q6.out.ext flR_stab hb)
    replace R7 := Lib.hid (R7.out.ext hb)
    have lR7 := R7.out.lt
    replace I8 := Lib.hid (I8.out.ext ptR_stab hb)
    replace K8 := Lib.hid (K8.out.ext hb)
    replace K6 := Lib.hid (K6.out.ext hb)
    replace O := Lib.hid (own_ext O.out hb)
    replace R9 := Lib.hid (R9.out.ext hb)
    have lR9 := R9.out.lt
    clear hb
    have s0 := R1.out.cell_of (i := 0) rfl
    have s1 := R1.out.cell_of (i := 1) rfl
    have s2 := R1.out.cell_of (i := 2) rfl
    have q0 := R7.out.cell_of (i := 0) rfl
    have q1 := R7.out.cell_of (i := 1) rfl
    have q2 := R7.out.cell_of (i := 2) rfl
    go_wp2_with fail
    clear s0 s1 s2 q0 q1 q2
    refine (c_toTurnS At tcap sc _ I.out htl).mono ?_
    rintro e w12 ⟨b12, rfl, _, hr12, hb⟩
    replace P := Lib.hid (P.out.ext flR_stab hb)
    replace I := Lib.hid (I.out.ext ptR_stab hb)
    replace R1 := Lib.hid (R1.out.ext hb)
    have lR1 := R1.out.lt
    replace V3 := Lib.hid (V3.out.ext coR_stab hb)
    replace RM := Lib.hid (RM.out.ext hb)
    have lRM := RM.out.lt
    replace E := Lib.hid (Ext.trans E.out hb)
    replace Q6 := Lib.hid (Q6.out.ext flR_stab hb)
    replace R7 := Lib.hid (R7.out.ext hb)
    have lR7 := R7.out.lt
    replace I8 := Lib.hid (I8.out.ext ptR_stab hb)
    replace K8 := Lib.hid (K8.out.ext hb)
    replace K6 := Lib.hid (K6.out.ext hb)
    replace O := Lib.hid (own_ext O.out hb)
    replace R9 := Lib.hid (R9.out.ext hb)
    have lR9 := R9.out.lt
    clear hb
    have I12 := Lib.hid ((pts_rowF hr12))
    have s0 := R1.out.cell_of (i := 0) rfl
    have s1 := R1.out.cell_of (i := 1) rfl
    have s2 := R1.out.cell_of (i := 2) rfl
    have q0 := R7.out.cell_of (i := 0) rfl
    have q1 := R7.out.cell_of (i := 1) rfl
    have q2 := R7.out.cell_of (i := 2) rfl
    clear hr12
    go_wp2_with fail
    clear s0 s1 s2 q0 q1 q2
    refine (c_eqTurnS _ _ _ _ sc sc _ I8.out I12.out (by omega) (by omega)).mono ?_
    rw [(decide_eq_true (rfl : sc = sc))]
    rintro e w13 ⟨rfl, hb⟩
    replace P := Lib.hid (P.out.ext flR_stab hb)
    replace I := Lib.hid (I.out.ext ptR_stab hb)
    replace R1 := Lib.hid (R1.out.ext hb)
    have lR1 := R1.out.lt
    replace V3 := Lib.hid (V3.out.ext coR_stab hb)
    replace RM := Lib.hid (RM.out.ext hb)
    have lRM := RM.out.lt
    replace E := Lib.hid (Ext.trans E.out hb)
    replace Q6 := Lib.hid (Q6.out.ext flR_stab hb)
    replace R7 := Lib.hid (R7.out.ext hb)
    have lR7 := R7.out.lt
    replace I8 := Lib.hid (I8.out.ext ptR_stab hb)
    replace K8 := Lib.hid (K8.out.ext hb)
    replace K6 := Lib.hid (K6.out.ext hb)
    replace O := Lib.hid (own_ext O.out hb)
    replace R9 := Lib.hid (R9.out.ext hb)
    have lR9 := R9.out.lt
    replace I12 := Lib.hid (I12.out.ext ptR_stab hb)
    clear hb
    have s0 := R1.out.cell_of (i := 0) rfl
    have s1 := R1.out.cell_of (i := 1) rfl
    have s2 := R1.out.cell_of (i := 2) rfl
    have q0 := R7.out.cell_of (i := 0) rfl
    have q1 := R7.out.cell_of (i := 1) rfl
    have q2 := R7.out.cell_of (i := 2) rfl
    clear s0 s1 s2 q0 q1 q2
    have q0 := R7.out.cell_of (i := 0) rfl
    have q1 := R7.out.cell_of (i := 1) rfl
    have q2 := R7.out.cell_of (i := 2) rfl
    go_wp2_with fail
    clear q0 q1 q2
    refine (c_markSceneW W H K6.out 1 (by omega) (by omega)).mono ?_
    rintro e wm ⟨k9, rfl, hk9, hk99, hm⟩
    replace O := Lib.hid (O.out.mkd hm (Nat.le_refl _))
    replace K8 := Lib.hid (K8.out.mkd hm)
    replace R9 := Lib.hid (R9.out.mkd hm hzb)
    replace E : Hid (Below w3.heap.size w3 wm) := Lib.hid (Below.trans E.out hm.below)
    clear hm K6 R7 lR7 I8 I12 Q6
    go_wp2_with fail
    refine (c_markTurnW K8.out.2 k9 (by omega) (by omega)).mono ?_
    rintro e wn ⟨rfl, hm⟩
    replace O := Lib.hid (O.out.mkd hm (Nat.le_refl _))
    replace R9 := Lib.hid (R9.out.mkd hm hzb)
    replace E : Hid (Below w3.heap.size w3 wn) := Lib.hid (Below.trans E.out hm.below)
    replace P := Lib.hid (P3.out.ext flR_stab E.out)
    replace I := Lib.hid (I3.out.ext ptR_stab E.out)
    replace V3 := Lib.hid (V33.out.ext coR_stab E.out)
    replace RM := Lib.hid (RM3.out.ext E.out)
    replace R1 := Lib.hid (R31.out.ext E.out)
    clear hm K8
    have hk9' : ¬ k9 + 2 * (sc.length : Int) < 0 := by omega
    have hkD : decide (k9 + 2 * (sc.length : Int) < 0) = false := by simp; omega
    have m0 := RM.out.cell_of (i := 0) rfl
    have m1 := RM.out.cell_of (i := 1) rfl
    have m2 := RM.out.cell_of (i := 2) rfl
    have y0 := R9.out.cell_of (i := 0) rfl
    have y1 := R9.out.cell_of (i := 1) rfl
    have y2 := R9.out.cell_of (i := 2) rfl
    go_wp2_with fail
    clear m0 m1 m2 y0 y1 y2
    refine (c_eqFrame MW MH A5 A3 cap5 cap3 ms _ (cos_own O.out) V3.out hml).mono ?_
    rintro e wo ⟨rfl, hb⟩
    replace P := Lib.hid (P.out.ext flR_stab hb)
    replace I := Lib.hid (I.out.ext ptR_stab hb)
    replace R1 := Lib.hid (R1.out.ext hb)
    have lR1 := R1.out.lt
    replace V3 := Lib.hid (V3.out.ext coR_stab hb)
    replace RM := Lib.hid (RM.out.ext hb)
    have lRM := RM.out.lt
    replace E := Lib.hid (Ext.trans E.out hb)
    replace O := Lib.hid (own_ext O.out hb)
    replace R9 := Lib.hid (R9.out.ext hb)
    have lR9 := R9.out.lt
    clear hb
    have m0 := RM.out.cell_of (i := 0) rfl
    have m1 := RM.out.cell_of (i := 1) rfl
    have m2 := RM.out.cell_of (i := 2) rfl
    have y0 := R9.out.cell_of (i := 0) rfl
    have y1 := R9.out.cell_of (i := 1) rfl
    have y2 := R9.out.cell_of (i := 2) rfl
    have hzo : w3.heap.size ≤ wo.heap.size := E.out.size
    clear m0 m1 m2 y0 y1 y2
    have y0 := R9.out.cell_of (i := 0) rfl
    have y1 := R9.out.cell_of (i := 1) rfl
    have y2 := R9.out.cell_of (i := 2) rfl
    go_wp2_with fail
    clear y0 y1 y2
    refine (c_markFrame MW MH O.out 1 (by omega) (by omega) (by omega)).mono ?_
    rintro e wp ⟨rfl, hop, hgp⟩
    replace E : Hid (Below w3.heap.size w3 wp) := Lib.hid (own_below E.out (O.out.rebase hz38) hgp hzo)
    replace R9 := Lib.hid (R9.out.grownNe O.out (by decide) hgp)
    replace O := Lib.hid hop
    replace P := Lib.hid (P3.out.ext flR_stab E.out)
    replace I := Lib.hid (I3.out.ext ptR_stab E.out)
    replace V3 := Lib.hid (V33.out.ext coR_stab E.out)
    replace RM := Lib.hid (RM3.out.ext E.out)
    replace R1 := Lib.hid (R31.out.ext E.out)
    clear hop hgp
    have y0 := R9.out.cell_of (i := 0) rfl
    have y1 := R9.out.cell_of (i := 1) rfl
    have y2 := R9.out.cell_of (i := 2) rfl
    go_wp2_with fail
    clear y0 y1 y2
    refine (c_heldFrame MW MH 1 O.out (by omega) (by omega) (by omega)).mono ?_
    rintro e wq ⟨rfl, hb⟩
    replace P := Lib.hid (P.out.ext flR_stab hb)
    replace I := Lib.hid (I.out.ext ptR_stab hb)
    replace R1 := Lib.hid (R1.out.ext hb)
    have lR1 := R1.out.lt
    replace V3 := Lib.hid (V3.out.ext coR_stab hb)
    replace RM := Lib.hid (RM.out.ext hb)
    have lRM := RM.out.lt
    replace E := Lib.hid (Ext.trans E.out hb)
    replace O := Lib.hid (own_ext O.out hb)
    replace R9 := Lib.hid (R9.out.ext hb)
    have lR9 := R9.out.lt
    clear hb
    have y0 := R9.out.cell_of (i := 0) rfl
    have y1 := R9.out.cell_of (i := 1) rfl
    have y2 := R9.out.cell_of (i := 2) rfl
    clear y0 y1 y2
    have s0 := R1.out.cell_of (i := 0) rfl
    have s1 := R1.out.cell_of (i := 1) rfl
    have s2 := R1.out.cell_of (i := 2) rfl
    go_wp2_with fail
    clear s0 s1 s2
    refine (c_toScene W H As scap fs _ P.out Hsm.out).mono ?_
    rintro e wr ⟨b22, cs22, rfl, _, hr22, hf22, hb⟩
    replace P := Lib.hid (P.out.ext flR_stab hb)
    replace I := Lib.hid (I.out.ext ptR_stab hb)
    replace R1 := Lib.hid (R1.out.ext hb)
    have lR1 := R1.out.lt
    replace V3 := Lib.hid (V3.out.ext coR_stab hb)
    replace RM := Lib.hid (RM.out.ext hb)
    have lRM := RM.out.lt
    replace E := Lib.hid (Ext.trans E.out hb)
    replace O := Lib.hid (own_ext O.out hb)
    replace R9 := Lib.hid (R9.out.ext hb)
    have lR9 := R9.out.lt
    clear hb
    have Q22 := Lib.hid (((hf22.in_ hr22).imp (fun _ _ h => flO_R h)))
    have s0 := R1.out.cell_of (i := 0) rfl
    have s1 := R1.out.cell_of (i := 1) rfl
    have s2 := R1.out.cell_of (i := 2) rfl
    clear hr22 hf22
    go_wp2_with fail
    clear s0 s1 s2
    refine (c_toTurnS At tcap sc _ I.out htl).mono ?_
    rintro e ws ⟨b23, rfl, _, hr23, hb⟩
    replace P := Lib.hid (P.out.ext flR_stab hb)
    replace I := Lib.hid (I.out.ext ptR_stab hb)
    replace R1 := Lib.hid (R1.out.ext hb)
    have lR1 := R1.out.lt
    replace V3 := Lib.hid (V3.out.ext coR_stab hb)
    replace RM := Lib.hid (RM.out.ext hb)
    have lRM := RM.out.lt
    replace E := Lib.hid (Ext.trans E.out hb)
    replace O := Lib.hid (own_ext O.out hb)
    replace R9 := Lib.hid (R9.out.ext hb)
    have lR9 := R9.out.lt
    replace Q22 := Lib.hid (Q22.out.ext flR_stab hb)
    clear hb
    have I22 := Lib.hid ((pts_rowF hr23))
    have s0 := R1.out.cell_of (i := 0) rfl
    have s1 := R1.out.cell_of (i := 1) rfl
    have s2 := R1.out.cell_of (i := 2) rfl
    clear hr23
    go_wp2_with fail
    clear s0 s1 s2
    refine (c_iDrawWorkers W H _ fs.length fs wk _ sc.length sc _ Q22.out I22.out Hsm.out htl).mono ?_
    rw [HM.out]
    rintro e wt ⟨A6, cap6, rfl, ho6, hb⟩
    replace P := Lib.hid (P.out.ext flR_stab hb)
    replace I := Lib.hid (I.out.ext ptR_stab hb)
    replace R1 := Lib.hid (R1.out.ext hb)
    have lR1 := R1.out.lt
    replace V3 := Lib.hid (V3.out.ext coR_stab hb)
    replace RM := Lib.hid (RM.out.ext hb)
    have lRM := RM.out.lt
    replace E := Lib.hid (Ext.trans E.out hb)
    replace O := Lib.hid (own_ext O.out hb)
    replace R9 := Lib.hid (R9.out.ext hb)
    have lR9 := R9.out.lt
    replace Q22 := Lib.hid (Q22.out.ext flR_stab hb)
    replace I22 := Lib.hid (I22.out.ext ptR_stab hb)
    clear hb
    have V6 := Lib.hid ((cos_own ho6))
    have s0 := R1.out.cell_of (i := 0) rfl
    have s1 := R1.out.cell_of (i := 1) rfl
    have s2 := R1.out.cell_of (i := 2) rfl
    clear ho6
    clear s0 s1 s2
    have m0 := RM.out.cell_of (i := 0) rfl
    have m1 := RM.out.cell_of (i := 1) rfl
    have m2 := RM.out.cell_of (i := 2) rfl
    go_wp2_with fail
    clear m0 m1 m2
    first | refine gen_calls ?_ | refine gen_code ?_ | refine gen_list ?_
    intro wu hW
    obtain ⟨hb, hR6⟩ := new1 hW
    clear hW
    replace P := Lib.hid (P.out.ext flR_stab hb)
    replace I := Lib.hid (I.out.ext ptR_stab hb)
    replace R1 := Lib.hid (R1.out.ext hb)
    have lR1 := R1.out.lt
    replace V3 := Lib.hid (V3.out.ext coR_stab hb)
    replace RM := Lib.hid (RM.out.ext hb)
    have lRM := RM.out.lt
    replace E := Lib.hid (Ext.trans E.out hb)
    replace O := Lib.hid (own_ext O.out hb)
    replace R9 := Lib.hid (R9.out.ext hb)
    have lR9 := R9.out.lt
    replace Q22 := Lib.hid (Q22.out.ext flR_stab hb)
    replace I22 := Lib.hid (I22.out.ext ptR_stab hb)
    replace V6 := Lib.hid (V6.out.ext coR_stab hb)
    clear hb
    have R6 := Lib.hid hR6
    have lR6 := R6.out.lt
    clear hR6
    have m0 := RM.out.cell_of (i := 0) rfl
    have m1 := RM.out.cell_of (i := 1) rfl
    have m2 := RM.out.cell_of (i := 2) rfl
    clear m0 m1 m2
    have m0 := RM.out.cell_of (i := 0) rfl
    have m1 := RM.out.cell_of (i := 1) rfl
    have m2 := RM.out.cell_of (i := 2) rfl
    have y0 := R6.out.cell_of (i := 0) rfl
    have y1 := R6.out.cell_of (i := 1) rfl
    have y2 := R6.out.cell_of (i := 2) rfl
    go_wp2_with fail
    clear m0 m1 m2 y0 y1 y2
    refine (c_eqFrame MW MH A6 A3 cap6 cap3 ms _ V6.out V3.out hml).mono ?_
    rintro e wv ⟨rfl, hb⟩
    replace P := Lib.hid (P.out.ext flR_stab hb)
    replace I := Lib.hid (I.out.ext ptR_stab hb)
    replace R1 := Lib.hid (R1.out.ext hb)
    have lR1 := R1.out.lt
    replace V3 := Lib.hid (V3.out.ext coR_stab hb)
    replace RM := Lib.hid (RM.out.ext hb)
    have lRM := RM.out.lt
    replace E := Lib.hid (Ext.trans E.out hb)
    replace O := Lib.hid (own_ext O.out hb)
    replace R9 := Lib.hid (R9.out.ext hb)
    have lR9 := R9.out.lt
    replace Q22 := Lib.hid (Q22.out.ext flR_stab hb)
    replace I22 := Lib.hid (I22.out.ext ptR_stab hb)
    replace V6 := Lib.hid (V6.out.ext coR_stab hb)
    replace R6 := Lib.hid (R6.out.ext hb)
    have lR6 := R6.out.lt
    clear hb
    have m0 := RM.out.cell_of (i := 0) rfl
    have m1 := RM.out.cell_of (i := 1) rfl
    have m2 := RM.out.cell_of (i := 2) rfl
    have y0 := R6.out.cell_of (i := 0) rfl
    have y1 := R6.out.cell_of (i := 1) rfl
    have y2 := R6.out.cell_of (i := 2) rfl
    clear m0 m1 m2 y0 y1 y2
    have y0 := R9.out.cell_of (i := 0) rfl
    have y1 := R9.out.cell_of (i := 1) rfl
    have y2 := R9.out.cell_of (i := 2) rfl
    go_wp2_with fail
    clear y0 y1 y2
    refine (c_heldFrame MW MH 1 O.out (by omega) (by omega) (by omega)).mono ?_
    rintro e wx ⟨rfl, hb⟩
    replace P := Lib.hid (P.out.ext flR_stab hb)
    replace I := Lib.hid (I.out.ext ptR_stab hb)
    replace R1 := Lib.hid (R1.out.ext hb)
    have lR1 := R1.out.lt
    replace V3 := Lib.hid (V3.out.ext coR_stab hb)
    replace RM := Lib.hid (RM.out.ext hb)
    have lRM := RM.out.lt
    replace E := Lib.hid (Ext.trans E.out hb)
    replace O := Lib.hid (own_ext O.out hb)
    replace R9 := Lib.hid (R9.out.ext hb)
    have lR9 := R9.out.lt
    replace Q22 := Lib.hid (Q22.out.ext flR_stab hb)
    replace I22 := Lib.hid (I22.out.ext ptR_stab hb)
    replace V6 := Lib.hid (V6.out.ext coR_stab hb)
    replace R6 := Lib.hid (R6.out.ext hb)
    have lR6 := R6.out.lt
    clear hb
    have y0 := R9.out.cell_of (i := 0) rfl
    have y1 := R9.out.cell_of (i := 1) rfl
    have y2 := R9.out.cell_of (i := 2) rfl
    go_wp2
    go_ret
    exact ⟨rfl, Ext.trans E3.out E.out⟩

theorem opens0 : Opens Tryz.prog 24 (scR ) :=  opens_sc (opens_struct3 (c0 := 1) (c1 := 1) (c2 := 1) Tryz.underlying24 (by kernel_rfl) (by kernel_rfl) (by kernel_rfl) (opens_int (by kernel_rfl)) (opens_int (by kernel_rfl)) (opens_slice Tryz.underlying22 (by kernel_rfl) (by decide) (opens_fl (opens_struct3 (c0 := 1) (c1 := 1) (c2 := 5) Tryz.underlying32 (by kernel_rfl) (by kernel_rfl) (by kernel_rfl) (opens_slice Tryz.underlying25 (by kernel_rfl) (by decide) (opens_vb Tryz.underlying109 (by kernel_rfl) (by kernel_rfl) (by kernel_rfl) (by kernel_rfl) (by kernel_rfl) (by kernel_rfl) Tryz.underlying107 Tryz.underlying27 (by kernel_rfl) (by kernel_rfl) (by kernel_rfl) (by kernel_rfl) (by kernel_rfl) (by kernel_rfl) (by kernel_rfl))) (opens_int (by kernel_rfl)) (opens_struct3 (c0 := 2) (c1 := 2) (c2 := 1) Tryz.underlying30 (by kernel_rfl) (by kernel_rfl) (by kernel_rfl) (opens_pt Tryz.underlying27 (by kernel_rfl) (by kernel_rfl) (by kernel_rfl) (by kernel_rfl) (by kernel_rfl) (by kernel_rfl) (by kernel_rfl)) (opens_pt Tryz.underlying27 (by kernel_rfl) (by kernel_rfl) (by kernel_rfl) (by kernel_rfl) (by kernel_rfl) (by kernel_rfl) (by kernel_rfl)) (opens_slice Tryz.underlying28 (by kernel_rfl) (by decide) (opens_st Tryz.underlying172 (by kernel_rfl) (by kernel_rfl) (by kernel_rfl) (by kernel_rfl) (by kernel_rfl) (by kernel_rfl) (opens_bx Tryz.underlying170 (by kernel_rfl) (by kernel_rfl) (by kernel_rfl) (by kernel_rfl))))))))) 
theorem opens2 : Opens Tryz.prog 59 (slR ptR 2 ) :=  opens_slice Tryz.underlying59 (by kernel_rfl) (by decide) (opens_pt Tryz.underlying103 (by kernel_rfl) (by kernel_rfl) (by kernel_rfl) (by kernel_rfl) (by kernel_rfl) (by kernel_rfl) (by kernel_rfl))
set_option maxRecDepth 100000 in
theorem lifted (os : Os) (started : os.Started) (H : Type) (enc : TypeId × Value → H) :
    ReturnsInHanded {} Tryz.checked os 4 .any (Rows.fnExactDrawWorkersSpec.pre6 enc Tryz.prog Tryz.f4 Rows.fnExactDrawWorkersRow.domain false) (Rows.fnExactDrawWorkersSpec.post enc Tryz.prog Tryz.f4 false true false false) := by
  refine returnsInHanded_of_change (C := Tryz.checked) own started (by kernel_rfl) Tryz.func4
    (ChangeSpec.witness6 (enc := enc) (C := Tryz.checked) false ⟨#[], #[ .agg #[.int .i64 0, .int .i64 0, .slice none 0 0], .int .i64 0, .slice none 0 0], []⟩ 8 (by kernel_rfl) (by kernel_rfl) (by kernel_rfl) (by kernel_rfl)) ?_
  intro W base args ds gs before hval0 hW hcnd _
  have hval : ∀ (j : Nat) t v, Tryz.f4.params[j]? = some t → args[j]? = some v → Value.okWide Tryz.prog W .any base t v := hval0
  have hW' := hW
  obtain ⟨p, q, hA0, hV, rfl, hfz, hnd⟩ := hW
  have hA : DataW.TrodAll enc Tryz.prog W 0 (fun _ => true) true Tryz.f4.params.toList args.toList ds p := hA0
  rw [Tryz.params4] at hA hval
  obtain ⟨v0, vs0, d0, ds0, p0, q0, hargs, rfl, rfl, h0, r0⟩ := trodAll_cons hA
  obtain ⟨v1, vs1, d1, ds1, p1, q1, rfl, rfl, rfl, h1, r1⟩ := trodAll_cons r0
  obtain ⟨v2, vs2, d2, ds2, p2, q2, rfl, rfl, rfl, h2, r2⟩ := trodAll_cons r1
  obtain ⟨rfl, rfl, rfl⟩ := trodAll_nil r2
  obtain rfl : args = #[v0, v1, v2] := by cases args; simp_all
  obtain ⟨rfl, rfl, rfl⟩ := trodVars_none hV
  obtain ⟨n1, rfl⟩ := okWide_int Tryz.underlying3 (hval 1 3 v1 rfl rfl)
  obtain ⟨a2, len2, cap2, rfl⟩ := okWide_slice Tryz.underlying59 (hval 2 59 v2 rfl rfl)
  have k0 := h0
  have lt0 : ∀ x ∈ p0, x.block < W.heap.size := by obtain ⟨m, hm⟩ := k0; exact DataW.trod_lt m _ _ _ hm
  have k1 := h1
  have lt1 : ∀ x ∈ p1, x.block < W.heap.size := by obtain ⟨m, hm⟩ := k1; exact DataW.trod_lt m _ _ _ hm
  have k2 := h2
  have lt2 : ∀ x ∈ p2, x.block < W.heap.size := by obtain ⟨m, hm⟩ := k2; exact DataW.trod_lt m _ _ _ hm
  obtain ⟨x0, us0, rfl, z0⟩ := open_struct_arg Tryz.underlying24 opens0 (hval 0 24 _ rfl rfl) h0
  obtain ⟨xs2, rfl, w2, wl2, wc2⟩ := open_arg rfl opens2 h2
  clear hA0 hval0
  refine (walk x0 us0 n1 a2 cap2 xs2 W z0 w2 wl2 wc2).mono fun e W' ⟨he, bel⟩ => ?_
  subst he
  exact ⟨_, rfl, _, _, _, [], _, [], hW', trodAll_mk1 (shut_bool Tryz.underlying4 _), (trodAll_cons_mk (Below.trod laidOut (by kernel_rfl) (of_decide_eq_true (by kernel_rfl)) k0 bel lt0) (trodAll_cons_mk (Below.trod laidOut (by kernel_rfl) (of_decide_eq_true (by kernel_rfl)) k1 bel lt1) (trodAll_cons_mk (Below.trod laidOut (by kernel_rfl) (of_decide_eq_true (by kernel_rfl)) k2 bel lt2) trodAll_mk0))), rfl, bel.frame _, fun h => by cases h⟩
theorem joinedA : joinA Tryz.pinned.checked.prog 4 Tryz.f4 Rows.fnExactDrawWorkersSpec Rows.fnExactDrawWorkersRow = true := by kernel_rfl
theorem joinedB : joinB Tryz.pinned.checked.prog Rows.fnExactDrawWorkersRow = true := by kernel_rfl
theorem over : Rows.fnExactDrawWorkersRow.holds Tryz.pinned (OpenSpec.ofChange Rows.fnExactDrawWorkersSpec) :=
  OpenClaim.holds_of_wide 4 Tryz.f4 rfl rfl rfl rfl rfl rfl rfl ⟨rfl, rfl, rfl, rfl, rfl⟩ rfl rfl rfl rfl rfl (by kernel_rfl) Tryz.func4 (joined_of joinedA joinedB)
    (of_decide_eq_true (by kernel_rfl)) (by unfold Func.isWrapper; first | (rw [if_pos (by decide +kernel)]; kernel_rfl) | (rw [if_neg (by decide +kernel)]; exact ⟨rfl, rfl⟩))
    (fun os started H enc _ => lifted os started H enc)

theorem proved : Rows.FnExactDrawWorkersSaid := over

end Go.Proofs.YtagmnbphbakikaaGreat.fnExactDrawWorkers
