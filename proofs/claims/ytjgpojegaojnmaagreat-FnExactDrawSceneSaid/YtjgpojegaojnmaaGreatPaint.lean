/-
  Paints: the walks.
-/
import Derived.Test.YtjgpojegaojnmaaGreatStopW
import Derived.Test.YtjgpojegaojnmaaGreatStopW2
import Derived.Test.YtjgpojegaojnmaaGreatAlong
import Derived.Test.YtjgpojegaojnmaaGreatPaintV
namespace Go.Proofs.YtjgpojegaojnmaaGreat
open Go Go.RowKit Reg
attribute [local go_sem] calmAt calmUpon
def paintL (f t : Pt) (ss : List St) (c r : Int) : Bx4 := stopL ss (alongL f t (16 * c + 8, 16 * r + 8))
def paOk (f t : Pt) (ss : List St) (c r : Int) : Bool := paB f t ss && inB c 0 11 && inB r 0 11
def paR (f t : Pt) (ss : List St) (c r : Int) : Bx4 := if paOk f t ss c r then paintL f t ss c r else (0, 0, 0, 0)
theorem pix_vp {c r : Int} (hc : inB c 0 11 = true) (hr : inB r 0 11 = true) : vpB (16 * c + 8, 16 * r + 8) = true := by
  rw [vpB_iff]; have := inB_iff.1 hc; have := inB_iff.1 hr; dsimp only; omega
set_option maxRecDepth 100000 in
set_option maxHeartbeats 4000000 in
theorem c_iPaintAt1 (f t : Pt) (A : Option Addr) (cap : Nat) (ss : List St) (c r : Int) (w : World) (h : Sts w A ss) (hcap : ss.length ≤ cap) (hv : paB f t ss = true) (hc : inB c 0 11 = true) (hr : inB r 0 11 = true) :
    Calls Tryz.prog 65 #[paV f t A ss.length cap, .int .i64 c, .int .i64 r] w fun e w' => e = .returned (bx4V (paintL f t ss c r)) ∧ Below w.heap.size w w' := by
  have H := Lib.hid h
  have Hpx := Lib.hid (pix_vp hc hr)
  obtain ⟨c0', c1'⟩ := inB_iff.1 hc
  obtain ⟨r0', r1'⟩ := inB_iff.1 hr
  obtain ⟨q1, q2, q3⟩ := paB_iff.1 hv
  have Hs := Lib.hid q1
  have Hf := Lib.hid q2
  have Ht := Lib.hid q3
  obtain ⟨M, hM⟩ : ∃ M, paintL f t ss c r = M := ⟨_, rfl⟩
  rw [hM]
  have HM : Hid (stopL ss (alongL f t (16 * c + 8, 16 * r + 8)) = M) := Lib.hid hM
  clear h hv hc hr q1 q2 q3 hM
  go_enter Tryz.func65, Tryz.ntmps65
  go_wp2_with fail
  generalize hW : (w.alloc (.cells #[.int .i64 f.1, .int .i64 f.2, .int .i64 t.1, .int .i64 t.2, .slice A ss.length cap] 57)).alloc (.cells #[.int .i64 0, .int .i64 0, .int .i64 0, .int .i64 0] 27) = wa
  have EA : Hid (Ext w wa) := Lib.hid (by rw [← hW]; exact (by repeat (first | exact Below.refl _ _ | assumption | refine Below.drew ?_ | refine Below.alloc ?_ (by first | exact Nat.le_refl _ | omega | (simp; done) | (simp; omega)) _ | refine Below.setCell ?_ (by first | exact Nat.le_refl _ | omega | (simp; done) | (simp; omega)) _)))
  have A1 : Row wa w.heap.size 57 [.int .i64 f.1, .int .i64 f.2, .int .i64 t.1, .int .i64 t.2, .slice A ss.length cap] := by rw [← hW]; exact (Row.new w 57 [.int .i64 f.1, .int .i64 f.2, .int .i64 t.1, .int .i64 t.2, .slice A ss.length cap]).alloc _
  have A2 : Hid (Row wa (w.heap.size + 1) 27 [.int .i64 0, .int .i64 0, .int .i64 0, .int .i64 0]) := Lib.hid (by
    rw [← hW]
    have := Row.new (w.alloc (.cells #[.int .i64 f.1, .int .i64 f.2, .int .i64 t.1, .int .i64 t.2, .slice A ss.length cap] 57)) 27 [.int .i64 0, .int .i64 0, .int .i64 0, .int .i64 0]
    simpa using this)
  clear hW
  have c0 := A1.cell_of (i := 0) rfl
  have c1 := A1.cell_of (i := 1) rfl
  have c2 := A1.cell_of (i := 2) rfl
  have c3 := A1.cell_of (i := 3) rfl
  have c4 := A1.cell_of (i := 4) rfl
  have f1 : IntKind.i64.wrap (16 * c) = 16 * c := IntWalk.i64_in _ (by omega)
  have f2 : IntKind.i64.wrap (16 * c + 8) = 16 * c + 8 := IntWalk.i64_in _ (by omega)
  have f3 : IntKind.i64.wrap (16 * r) = 16 * r := IntWalk.i64_in _ (by omega)
  have f4 : IntKind.i64.wrap (16 * r + 8) = 16 * r + 8 := IntWalk.i64_in _ (by omega)
  clear A1
  refine wp_region_calm [0,1,2,3,4,5,6,7,8,9,10,11,12,13,14] [15] (by kernel_rfl) (by kernel_rfl) ?_
  iterate 13 ((refine calm_yes rfl rfl (fun w' hC => (by have c0 := hC.cell c0; have c1 := hC.cell c1; have c2 := hC.cell c2; have c3 := hC.cell c3; have c4 := hC.cell c4; go_simp; rfl)) (fun K hK => ?_); go_simp; refine hK _ ?_; clear hK K))
  (apply calm_call rfl rfl rfl Tryz.func110 (by kernel_rfl) rfl (by go_simp; rfl); exact (fun w' hC => c_AlongOf f t (16 * c + 8, 16 * r + 8) w' Hf.out Ht.out Hpx.out); intro K hK; go_simp; refine hK _ ?_; clear hK K)
  (apply calm_call rfl rfl rfl Tryz.func109 (by kernel_rfl) rfl (by go_simp; rfl); exact (fun w' hC => c_istopColor A cap ss (alongL f t (16 * c + 8, 16 * r + 8)) w' (H.out.ext stR_stab (Ext.trans EA.out (Below.trans (Below.refl _ wa).drew hC))) Hs.out hcap (by have := alongL_bd f t (16 * c + 8, 16 * r + 8); omega)); intro K hK; go_simp; refine hK _ ?_; clear hK K)
  clear f1 f2 f3 f4 c0 c1 c2 c3 c4
  rw [HM.out]
  obtain ⟨m1, m2, m3, m4⟩ := M
  refine calm_nil (fun w2 hC2 => ?_)
  refine late_free (by kernel_rfl) rfl rfl (fun w3 hx3 K' hK => ?_)
  have E3 : Ext wa w3 := Ext.trans (ext_cls hC2) hx3
  have S3 := A2.out.ext E3
  have B3 := Ext.trans EA.out E3
  have e0 := S3.cell_of (i := 0) rfl
  have e1 := S3.cell_of (i := 1) rfl
  have e2 := S3.cell_of (i := 2) rfl
  have e3 := S3.cell_of (i := 3) rfl
  have z0 := S3.frozen 0
  have z1 := S3.frozen 1
  have z2 := S3.frozen 2
  have z3 := S3.frozen 3
  go_simp
  refine hK _ _ ?_
  clear hK K'
  refine late_nil (fun w4 hx4 => ?_)
  have S4 := (((((S3.set_ 0 (.int .i64 m1)).set_ 1 (.int .i64 m2)).set_ 2 (.int .i64 m3)).set_ 3 (.int .i64 m4))).ext hx4
  have B4 : Ext w w4 := Ext.trans ((((B3.setCell (by simp) _).setCell (by simp) _).setCell (by simp) _).setCell (by simp) _) hx4
  have g0 := S4.cell_of (i := 0) rfl
  have g1 := S4.cell_of (i := 1) rfl
  have g2 := S4.cell_of (i := 2) rfl
  have g3 := S4.cell_of (i := 3) rfl
  clear e0 e1 e2 e3 z0 z1 z2 z3 S3 E3 hx3 hx4 hC2
  go_wp2_with fail
  exact bodyPost_ret (v := bx4V (m1, m2, m3, m4)) (by simp [results, Tryz.results65, go_sem, g0, g1, g2, g3]) rfl ⟨rfl, B4⟩
set_option maxRecDepth 100000 in
set_option maxHeartbeats 4000000 in
theorem c_sPaintAt1 (f t : Pt) (A : Option Addr) (cap : Nat) (ss : List St) (c r : Int) (w : World) (h : Sts w A ss) (hcap : ss.length ≤ cap) (hv : paB f t ss = true) (hc : inB c 0 11 = true) (hr : inB r 0 11 = true) :
    Calls Tryz.prog 57 #[paV f t A ss.length cap, .int .i64 c, .int .i64 r] w fun e w' => e = .returned (bx4V (paintL f t ss c r)) ∧ Below w.heap.size w w' := by
  have H := Lib.hid h
  have Hpx := Lib.hid (pix_vp hc hr)
  obtain ⟨c0', c1'⟩ := inB_iff.1 hc
  obtain ⟨r0', r1'⟩ := inB_iff.1 hr
  obtain ⟨q1, q2, q3⟩ := paB_iff.1 hv
  have Hs := Lib.hid q1
  have Hf := Lib.hid q2
  have Ht := Lib.hid q3
  obtain ⟨M, hM⟩ : ∃ M, paintL f t ss c r = M := ⟨_, rfl⟩
  rw [hM]
  have HM : Hid (stopL ss (alongL f t (16 * c + 8, 16 * r + 8)) = M) := Lib.hid hM
  clear h hv hc hr q1 q2 q3 hM
  go_enter Tryz.func57, Tryz.ntmps57
  go_wp2_with fail
  generalize hW : (w.alloc (.cells #[.int .i64 f.1, .int .i64 f.2, .int .i64 t.1, .int .i64 t.2, .slice A ss.length cap] 57)).alloc (.cells #[.int .i64 0, .int .i64 0, .int .i64 0, .int .i64 0] 27) = wa
  have EA : Hid (Ext w wa) := Lib.hid (by rw [← hW]; exact (by repeat (first | exact Below.refl _ _ | assumption | refine Below.drew ?_ | refine Below.alloc ?_ (by first | exact Nat.le_refl _ | omega | (simp; done) | (simp; omega)) _ | refine Below.setCell ?_ (by first | exact Nat.le_refl _ | omega | (simp; done) | (simp; omega)) _)))
  have A1 : Row wa w.heap.size 57 [.int .i64 f.1, .int .i64 f.2, .int .i64 t.1, .int .i64 t.2, .slice A ss.length cap] := by rw [← hW]; exact (Row.new w 57 [.int .i64 f.1, .int .i64 f.2, .int .i64 t.1, .int .i64 t.2, .slice A ss.length cap]).alloc _
  have A2 : Hid (Row wa (w.heap.size + 1) 27 [.int .i64 0, .int .i64 0, .int .i64 0, .int .i64 0]) := Lib.hid (by
    rw [← hW]
    have := Row.new (w.alloc (.cells #[.int .i64 f.1, .int .i64 f.2, .int .i64 t.1, .int .i64 t.2, .slice A ss.length cap] 57)) 27 [.int .i64 0, .int .i64 0, .int .i64 0, .int .i64 0]
    simpa using this)
  clear hW
  have c0 := A1.cell_of (i := 0) rfl
  have c1 := A1.cell_of (i := 1) rfl
  have c2 := A1.cell_of (i := 2) rfl
  have c3 := A1.cell_of (i := 3) rfl
  have c4 := A1.cell_of (i := 4) rfl
  have f1 : IntKind.i64.wrap (16 * c) = 16 * c := IntWalk.i64_in _ (by omega)
  have f2 : IntKind.i64.wrap (16 * c + 8) = 16 * c + 8 := IntWalk.i64_in _ (by omega)
  have f3 : IntKind.i64.wrap (16 * r) = 16 * r := IntWalk.i64_in _ (by omega)
  have f4 : IntKind.i64.wrap (16 * r + 8) = 16 * r + 8 := IntWalk.i64_in _ (by omega)
  clear A1
  refine wp_region_calm [0,1,2,3,4,5,6,7,8,9,10,11,12,13] [14] (by kernel_rfl) (by kernel_rfl) ?_
  iterate 12 ((refine calm_yes rfl rfl (fun w' hC => (by have c0 := hC.cell c0; have c1 := hC.cell c1; have c2 := hC.cell c2; have c3 := hC.cell c3; have c4 := hC.cell c4; go_simp; rfl)) (fun K hK => ?_); go_simp; refine hK _ ?_; clear hK K))
  (apply calm_call rfl rfl rfl Tryz.func98 (by kernel_rfl) rfl (by go_simp; rfl); exact (fun w' hC => c_along f t (16 * c + 8) (16 * r + 8) w' Hf.out Ht.out Hpx.out); intro K hK; go_simp; refine hK _ ?_; clear hK K)
  (apply calm_call rfl rfl rfl Tryz.func97 (by kernel_rfl) rfl (by go_simp; rfl); exact (fun w' hC => c_sstopColor A cap ss (alongL f t (16 * c + 8, 16 * r + 8)) w' (H.out.ext stR_stab (Ext.trans EA.out (Below.trans (Below.refl _ wa).drew hC))) Hs.out hcap (by have := alongL_bd f t (16 * c + 8, 16 * r + 8); omega)); intro K hK; go_simp; refine hK _ ?_; clear hK K)
  clear f1 f2 f3 f4 c0 c1 c2 c3 c4
  rw [HM.out]
  obtain ⟨m1, m2, m3, m4⟩ := M
  refine calm_nil (fun w2 hC2 => ?_)
  refine late_free (by kernel_rfl) rfl rfl (fun w3 hx3 K' hK => ?_)
  have E3 : Ext wa w3 := Ext.trans (ext_cls hC2) hx3
  have S3 := A2.out.ext E3
  have B3 := Ext.trans EA.out E3
  have e0 := S3.cell_of (i := 0) rfl
  have e1 := S3.cell_of (i := 1) rfl
  have e2 := S3.cell_of (i := 2) rfl
  have e3 := S3.cell_of (i := 3) rfl
  have z0 := S3.frozen 0
  have z1 := S3.frozen 1
  have z2 := S3.frozen 2
  have z3 := S3.frozen 3
  go_simp
  refine hK _ _ ?_
  clear hK K'
  refine late_nil (fun w4 hx4 => ?_)
  have S4 := (((((S3.set_ 0 (.int .i64 m1)).set_ 1 (.int .i64 m2)).set_ 2 (.int .i64 m3)).set_ 3 (.int .i64 m4))).ext hx4
  have B4 : Ext w w4 := Ext.trans ((((B3.setCell (by simp) _).setCell (by simp) _).setCell (by simp) _).setCell (by simp) _) hx4
  have g0 := S4.cell_of (i := 0) rfl
  have g1 := S4.cell_of (i := 1) rfl
  have g2 := S4.cell_of (i := 2) rfl
  have g3 := S4.cell_of (i := 3) rfl
  clear e0 e1 e2 e3 z0 z1 z2 z3 S3 E3 hx3 hx4 hC2
  go_wp2_with fail
  exact bodyPost_ret (v := bx4V (m1, m2, m3, m4)) (by simp [results, Tryz.results57, go_sem, g0, g1, g2, g3]) rfl ⟨rfl, B4⟩
end Go.Proofs.YtjgpojegaojnmaaGreat
