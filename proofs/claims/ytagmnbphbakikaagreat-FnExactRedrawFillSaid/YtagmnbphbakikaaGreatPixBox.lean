/-
  The pixels of boxes: the walks.
-/
import Derived.Test.YtagmnbphbakikaaGreatMg3
import Derived.Test.YtagmnbphbakikaaGreatMg2
import Derived.Test.YtagmnbphbakikaaGreatMg1
namespace Go.Proofs.YtagmnbphbakikaaGreat
open Go Go.RowKit Reg
attribute [local go_sem] calmAt calmUpon
def pixB (b : Bx) : Bx := (b.1 / 16, b.2.1 / 16, b.2.2.1 / 16 + 1, b.2.2.2 / 16 + 1)
set_option maxRecDepth 100000 in
set_option maxHeartbeats 2000000 in
theorem c_PixelBox (l t r b : Int) (w : World) (hv : vbxB (l, t, r, b) = true) : Calls Tryz.prog 128 #[bxV (l, t, r, b)] w fun e w' => e = .returned (bxV (pixB (l, t, r, b))) ∧ Below w.heap.size w w' := by
  have HV := Lib.hid hv
  have hb := hv
  unfold vbxB at hb
  simp only [decide_eq_true_eq] at hb
  have E := Lib.hid (Below.refl w.heap.size w)
  have K1 := Lib.hid (fun W => c_floor l 16 W (by omega) (by omega) (by omega) (by omega))
  have K2 := Lib.hid (fun W => c_floor t 16 W (by omega) (by omega) (by omega) (by omega))
  have K3 := Lib.hid (fun W => c_floor r 16 W (by omega) (by omega) (by omega) (by omega))
  have K4 := Lib.hid (fun W => c_floor b 16 W (by omega) (by omega) (by omega) (by omega))
  have g3 : IntKind.i64.wrap (r / 16 + 1) = r / 16 + 1 := IntWalk.i64_in _ (by omega)
  have g4 : IntKind.i64.wrap (b / 16 + 1) = b / 16 + 1 := IntWalk.i64_in _ (by omega)
  have G := Lib.hid (And.intro g3 g4)
  have hpx : Hid (pixB (l, t, r, b) = (l / 16, t / 16, r / 16 + 1, b / 16 + 1)) := Lib.hid rfl
  rw [hpx.out]
  generalize l / 16 = l2 at *
  generalize t / 16 = t2 at *
  generalize r / 16 = r2 at *
  generalize b / 16 = b2 at *
  clear hv hb g3 g4
  go_enter Tryz.func128, Tryz.ntmps128
  go_wp2_with fail
  first | refine gen_calls ?_ | refine gen_code ?_ | refine gen_list ?_
  intro w0 hW
  obtain ⟨hb, hR1, hR2⟩ := new2 hW
  clear hW
  replace E := Lib.hid (Ext.trans E.out hb)
  clear hb
  have R1 := Lib.hid hR1
  have lR1 := R1.out.lt
  clear hR1
  have R2 := Lib.hid hR2
  have lR2 := R2.out.lt
  clear hR2
  have c0 := R1.out.cell_of (i := 0) rfl
  have c1 := R1.out.cell_of (i := 1) rfl
  have c2 := R1.out.cell_of (i := 2) rfl
  have c3 := R1.out.cell_of (i := 3) rfl
  go_wp2_with fail
  clear c0 c1 c2 c3
  refine (c_boxvalid l t r b _).mono ?_
  rw [HV.out]
  rintro e w1 ⟨rfl, hb⟩
  replace E := Lib.hid (Ext.trans E.out hb)
  replace R1 := Lib.hid (R1.out.ext hb)
  have lR1 := R1.out.lt
  replace R2 := Lib.hid (R2.out.ext hb)
  have lR2 := R2.out.lt
  clear hb
  have c0 := R1.out.cell_of (i := 0) rfl
  have c1 := R1.out.cell_of (i := 1) rfl
  have c2 := R1.out.cell_of (i := 2) rfl
  have c3 := R1.out.cell_of (i := 3) rfl
  go_wp2_with fail
  obtain ⟨g3, g4⟩ := G.out
  refine wp_region_calm [0,1,2,3,4,5,6,7,8,9,10,11,12,13,14] [15] (by kernel_rfl) (by kernel_rfl) ?_
  iterate 2 ((refine calm_yes rfl rfl (fun w' hC => (by have c0 := hC.cell c0; have c1 := hC.cell c1; have c2 := hC.cell c2; have c3 := hC.cell c3; go_simp; rfl)) (fun K hK => ?_); go_simp; refine hK _ ?_; clear hK K))
  (apply calm_call rfl rfl rfl Tryz.func167 (by kernel_rfl) rfl (by go_simp; rfl); exact (fun w' hC => ext_of_same (K1.out w')); intro K hK; go_simp; refine hK _ ?_; clear hK K)
  iterate 2 ((refine calm_yes rfl rfl (fun w' hC => (by have c0 := hC.cell c0; have c1 := hC.cell c1; have c2 := hC.cell c2; have c3 := hC.cell c3; go_simp; rfl)) (fun K hK => ?_); go_simp; refine hK _ ?_; clear hK K))
  (apply calm_call rfl rfl rfl Tryz.func167 (by kernel_rfl) rfl (by go_simp; rfl); exact (fun w' hC => ext_of_same (K2.out w')); intro K hK; go_simp; refine hK _ ?_; clear hK K)
  iterate 2 ((refine calm_yes rfl rfl (fun w' hC => (by have c0 := hC.cell c0; have c1 := hC.cell c1; have c2 := hC.cell c2; have c3 := hC.cell c3; go_simp; rfl)) (fun K hK => ?_); go_simp; refine hK _ ?_; clear hK K))
  (apply calm_call rfl rfl rfl Tryz.func167 (by kernel_rfl) rfl (by go_simp; rfl); exact (fun w' hC => ext_of_same (K3.out w')); intro K hK; go_simp; refine hK _ ?_; clear hK K)
  iterate 3 ((refine calm_yes rfl rfl (fun w' hC => (by have c0 := hC.cell c0; have c1 := hC.cell c1; have c2 := hC.cell c2; have c3 := hC.cell c3; go_simp; rfl)) (fun K hK => ?_); go_simp; refine hK _ ?_; clear hK K))
  (apply calm_call rfl rfl rfl Tryz.func167 (by kernel_rfl) rfl (by go_simp; rfl); exact (fun w' hC => ext_of_same (K4.out w')); intro K hK; go_simp; refine hK _ ?_; clear hK K)
  iterate 2 ((refine calm_yes rfl rfl (fun w' hC => (by have c0 := hC.cell c0; have c1 := hC.cell c1; have c2 := hC.cell c2; have c3 := hC.cell c3; go_simp; rfl)) (fun K hK => ?_); go_simp; refine hK _ ?_; clear hK K))
  refine calm_nil (fun wa hCa => ?_)
  clear c0 c1 c2 c3 g3 g4
  refine late_free (by kernel_rfl) rfl rfl (fun wd hxd K hK => ?_)
  have Ed : Ext w1 wd := Ext.trans (ext_cls hCa) hxd
  have Q := R2.out.ext Ed
  have y0 := Q.cell_of (i := 0) rfl
  have y1 := Q.cell_of (i := 1) rfl
  have y2 := Q.cell_of (i := 2) rfl
  have y3 := Q.cell_of (i := 3) rfl
  have f0 := Q.frozen 0
  have f1 := Q.frozen 1
  have f2 := Q.frozen 2
  have f3 := Q.frozen 3
  go_simp
  refine hK _ _ ?_
  clear hK K y0 y1 y2 y3 f0 f1 f2 f3
  refine late_nil (fun wz hxz => ?_)
  have Z := ((((Q.set_ 0 (.int .i64 l2)).set_ 1 (.int .i64 t2)).set_ 2 (.int .i64 (r2 + 1))).set_ 3 (.int .i64 (b2 + 1))).ext hxz
  have e0 := Z.cell_of (i := 0) rfl
  have e1 := Z.cell_of (i := 1) rfl
  have e2 := Z.cell_of (i := 2) rfl
  have e3 := Z.cell_of (i := 3) rfl
  have EZ := Lib.hid (Ext.trans (((((Ext.trans E.out Ed).setCell (p := ⟨w.heap.size + 1, 0, none⟩) (by simp) (.int .i64 l2)).setCell (p := ⟨w.heap.size + 1, 1, none⟩) (by simp) (.int .i64 t2)).setCell (p := ⟨w.heap.size + 1, 2, none⟩) (by simp) (.int .i64 (r2 + 1))).setCell (p := ⟨w.heap.size + 1, 3, none⟩) (by simp) (.int .i64 (b2 + 1))) hxz)
  clear Q Z hxz hxd hCa Ed
  go_wp2
  exact bodyPost_ret (v := bxV (l2, t2, r2 + 1, b2 + 1)) (by simp [results, Tryz.results128, go_sem, e0, e1, e2, e3]) rfl ⟨rfl, EZ.out⟩
set_option maxRecDepth 100000 in
set_option maxHeartbeats 2000000 in
theorem c_spixelBox (l t r b : Int) (w : World) (hv : vbxB (l, t, r, b) = true) : Calls Tryz.prog 111 #[bxV (l, t, r, b)] w fun e w' => e = .returned (bxV (pixB (l, t, r, b))) ∧ Below w.heap.size w w' := by
  have HV := Lib.hid hv
  have hb := hv
  unfold vbxB at hb
  simp only [decide_eq_true_eq] at hb
  have E := Lib.hid (Below.refl w.heap.size w)
  have K1 := Lib.hid (fun W => c_floorDiv l 16 W (by omega) (by omega) (by omega) (by omega))
  have K2 := Lib.hid (fun W => c_floorDiv t 16 W (by omega) (by omega) (by omega) (by omega))
  have K3 := Lib.hid (fun W => c_floorDiv r 16 W (by omega) (by omega) (by omega) (by omega))
  have K4 := Lib.hid (fun W => c_floorDiv b 16 W (by omega) (by omega) (by omega) (by omega))
  have g3 : IntKind.i64.wrap (r / 16 + 1) = r / 16 + 1 := IntWalk.i64_in _ (by omega)
  have g4 : IntKind.i64.wrap (b / 16 + 1) = b / 16 + 1 := IntWalk.i64_in _ (by omega)
  have G := Lib.hid (And.intro g3 g4)
  have hpx : Hid (pixB (l, t, r, b) = (l / 16, t / 16, r / 16 + 1, b / 16 + 1)) := Lib.hid rfl
  rw [hpx.out]
  generalize l / 16 = l2 at *
  generalize t / 16 = t2 at *
  generalize r / 16 = r2 at *
  generalize b / 16 = b2 at *
  clear hv hb g3 g4
  go_enter Tryz.func111, Tryz.ntmps111
  go_wp2_with fail
  first | refine gen_calls ?_ | refine gen_code ?_ | refine gen_list ?_
  intro w0 hW
  obtain ⟨hb, hR1, hR2⟩ := new2 hW
  clear hW
  replace E := Lib.hid (Ext.trans E.out hb)
  clear hb
  have R1 := Lib.hid hR1
  have lR1 := R1.out.lt
  clear hR1
  have R2 := Lib.hid hR2
  have lR2 := R2.out.lt
  clear hR2
  have c0 := R1.out.cell_of (i := 0) rfl
  have c1 := R1.out.cell_of (i := 1) rfl
  have c2 := R1.out.cell_of (i := 2) rfl
  have c3 := R1.out.cell_of (i := 3) rfl
  obtain ⟨g3, g4⟩ := G.out
  refine wp_region_calm [0,1,2,3,4,5,6,7,8,9,10,11,12,13,14] [15] (by kernel_rfl) (by kernel_rfl) ?_
  iterate 2 ((refine calm_yes rfl rfl (fun w' hC => (by have c0 := hC.cell c0; have c1 := hC.cell c1; have c2 := hC.cell c2; have c3 := hC.cell c3; go_simp; rfl)) (fun K hK => ?_); go_simp; refine hK _ ?_; clear hK K))
  (apply calm_call rfl rfl rfl Tryz.func147 (by kernel_rfl) rfl (by go_simp; rfl); exact (fun w' hC => ext_of_same (K1.out w')); intro K hK; go_simp; refine hK _ ?_; clear hK K)
  iterate 2 ((refine calm_yes rfl rfl (fun w' hC => (by have c0 := hC.cell c0; have c1 := hC.cell c1; have c2 := hC.cell c2; have c3 := hC.cell c3; go_simp; rfl)) (fun K hK => ?_); go_simp; refine hK _ ?_; clear hK K))
  (apply calm_call rfl rfl rfl Tryz.func147 (by kernel_rfl) rfl (by go_simp; rfl); exact (fun w' hC => ext_of_same (K2.out w')); intro K hK; go_simp; refine hK _ ?_; clear hK K)
  iterate 2 ((refine calm_yes rfl rfl (fun w' hC => (by have c0 := hC.cell c0; have c1 := hC.cell c1; have c2 := hC.cell c2; have c3 := hC.cell c3; go_simp; rfl)) (fun K hK => ?_); go_simp; refine hK _ ?_; clear hK K))
  (apply calm_call rfl rfl rfl Tryz.func147 (by kernel_rfl) rfl (by go_simp; rfl); exact (fun w' hC => ext_of_same (K3.out w')); intro K hK; go_simp; refine hK _ ?_; clear hK K)
  iterate 3 ((refine calm_yes rfl rfl (fun w' hC => (by have c0 := hC.cell c0; have c1 := hC.cell c1; have c2 := hC.cell c2; have c3 := hC.cell c3; go_simp; rfl)) (fun K hK => ?_); go_simp; refine hK _ ?_; clear hK K))
  (apply calm_call rfl rfl rfl Tryz.func147 (by kernel_rfl) rfl (by go_simp; rfl); exact (fun w' hC => ext_of_same (K4.out w')); intro K hK; go_simp; refine hK _ ?_; clear hK K)
  iterate 2 ((refine calm_yes rfl rfl (fun w' hC => (by have c0 := hC.cell c0; have c1 := hC.cell c1; have c2 := hC.cell c2; have c3 := hC.cell c3; go_simp; rfl)) (fun K hK => ?_); go_simp; refine hK _ ?_; clear hK K))
  refine calm_nil (fun wa hCa => ?_)
  clear c0 c1 c2 c3 g3 g4
  refine late_free (by kernel_rfl) rfl rfl (fun wd hxd K hK => ?_)
  have Ed : Ext w0 wd := Ext.trans (ext_cls hCa) hxd
  have Q := R2.out.ext Ed
  have y0 := Q.cell_of (i := 0) rfl
  have y1 := Q.cell_of (i := 1) rfl
  have y2 := Q.cell_of (i := 2) rfl
  have y3 := Q.cell_of (i := 3) rfl
  have f0 := Q.frozen 0
  have f1 := Q.frozen 1
  have f2 := Q.frozen 2
  have f3 := Q.frozen 3
  go_simp
  refine hK _ _ ?_
  clear hK K y0 y1 y2 y3 f0 f1 f2 f3
  refine late_nil (fun wz hxz => ?_)
  have Z := ((((Q.set_ 0 (.int .i64 l2)).set_ 1 (.int .i64 t2)).set_ 2 (.int .i64 (r2 + 1))).set_ 3 (.int .i64 (b2 + 1))).ext hxz
  have e0 := Z.cell_of (i := 0) rfl
  have e1 := Z.cell_of (i := 1) rfl
  have e2 := Z.cell_of (i := 2) rfl
  have e3 := Z.cell_of (i := 3) rfl
  have EZ := Lib.hid (Ext.trans (((((Ext.trans E.out Ed).setCell (p := ⟨w.heap.size + 1, 0, none⟩) (by simp) (.int .i64 l2)).setCell (p := ⟨w.heap.size + 1, 1, none⟩) (by simp) (.int .i64 t2)).setCell (p := ⟨w.heap.size + 1, 2, none⟩) (by simp) (.int .i64 (r2 + 1))).setCell (p := ⟨w.heap.size + 1, 3, none⟩) (by simp) (.int .i64 (b2 + 1))) hxz)
  clear Q Z hxz hxd hCa Ed
  go_wp2
  exact bodyPost_ret (v := bxV (l2, t2, r2 + 1, b2 + 1)) (by simp [results, Tryz.results111, go_sem, e0, e1, e2, e3]) rfl ⟨rfl, EZ.out⟩
end Go.Proofs.YtagmnbphbakikaaGreat
