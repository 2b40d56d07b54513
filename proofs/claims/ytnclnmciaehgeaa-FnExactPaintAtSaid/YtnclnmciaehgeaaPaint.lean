/-
  Paints: the walks.
-/
import Derived.Test.YtnclnmciaehgeaaStopW
import Derived.Test.YtnclnmciaehgeaaStopW2
import Derived.Test.YtnclnmciaehgeaaAlong
namespace Go.Proofs.Ytnclnmciaehgeaa
open Go Go.RowKit Reg
attribute [local go_sem] calmAt calmUpon
def paB (f t : Pt) (ss : List St) : Bool := stB ss && vpB f && vpB t
def paintL (f t : Pt) (ss : List St) (c r : Int) : Bx4 := stopL ss (alongL f t (16 * c + 8, 16 * r + 8))
def paOk (f t : Pt) (ss : List St) (c r : Int) : Bool := paB f t ss && inB c 0 11 && inB r 0 11
def paR (f t : Pt) (ss : List St) (c r : Int) : Bx4 := if paOk f t ss c r then paintL f t ss c r else (0, 0, 0, 0)
abbrev paV (f t : Pt) (A : Option Addr) (n cap : Nat) : Value := .agg #[.int .i64 f.1, .int .i64 f.2, .int .i64 t.1, .int .i64 t.2, .slice A n cap]
theorem pix_vp {c r : Int} (hc : inB c 0 11 = true) (hr : inB r 0 11 = true) : vpB (16 * c + 8, 16 * r + 8) = true := by
  rw [vpB_iff]; have := inB_iff.1 hc; have := inB_iff.1 hr; dsimp only; omega
theorem paB_iff {f t : Pt} {ss : List St} : paB f t ss = true ↔ stB ss = true ∧ vpB f = true ∧ vpB t = true := by simp [paB, and_assoc]
set_option maxHeartbeats 2000000 in
theorem c_iPaintValid (f t : Pt) (A : Option Addr) (cap : Nat) (ss : List St) (w : World) (h : Sts w A ss) (hl : ss.length ≤ 1000000000) :
    Calls Try.prog 111 #[paV f t A ss.length cap] w fun e w' => e = .returned (.bool (paB f t ss)) ∧ Below w.heap.size w w' := by
  have H := Lib.hid h
  clear h
  have R0 : Hid (Row (w.alloc (.cells #[.int .i64 f.1, .int .i64 f.2, .int .i64 t.1, .int .i64 t.2, .slice A ss.length cap] 77)) w.heap.size 77 [.int .i64 f.1, .int .i64 f.2, .int .i64 t.1, .int .i64 t.2, .slice A ss.length cap]) := Lib.hid (Row.new w 77 [.int .i64 f.1, .int .i64 f.2, .int .i64 t.1, .int .i64 t.2, .slice A ss.length cap])
  have E0 := Lib.hid (ext_alloc w (.cells #[.int .i64 f.1, .int .i64 f.2, .int .i64 t.1, .int .i64 t.2, .slice A ss.length cap] 77))
  obtain ⟨d1, hd1⟩ : ∃ d, stB ss = d := ⟨_, rfl⟩
  obtain ⟨d2, hd2⟩ : ∃ d, vpB f = d := ⟨_, rfl⟩
  obtain ⟨d3, hd3⟩ : ∃ d, vpB t = d := ⟨_, rfl⟩
  have Hp : Hid (paB f t ss = (d1 && d2 && d3)) := Lib.hid (by unfold paB; rw [hd1, hd2, hd3])
  rw [Hp.out]
  have H1 := Lib.hid hd1
  have H2 := Lib.hid hd2
  have H3 := Lib.hid hd3
  clear hd1 hd2 hd3
  go_enter Try.func111, Try.ntmps111
  go_wp2_with fail
  refine (c_iValidStops A cap ss _ (H.out.ext stR_stab E0.out) hl).mono ?_; rw [H1.out]; rintro e w1 ⟨rfl, hb1⟩
  have E1 := Lib.hid (Ext.trans E0.out hb1)
  have G1 := R0.out.ext hb1
  have c0 := G1.cell_of (i := 0) rfl
  have c1 := G1.cell_of (i := 1) rfl
  have c2 := G1.cell_of (i := 2) rfl
  have c3 := G1.cell_of (i := 3) rfl
  have c4 := G1.cell_of (i := 4) rfl
  have HG1 := Lib.hid G1
  clear hb1 G1
  cases d1
  · go_wp2
    go_ret
    exact ⟨rfl, E1.out⟩
  · go_wp2_with fail
    refine (c_ptvalid f w1).mono ?_; rw [H2.out]; rintro e w2 ⟨rfl, hb2⟩
    have E2 := Lib.hid (Ext.trans E1.out hb2)
    have G2 := HG1.out.ext hb2
    clear c0 c1 c2 c3 c4 hb2
    have c2 := G2.cell_of (i := 2) rfl
    have c3 := G2.cell_of (i := 3) rfl
    clear G2
    cases d2
    · go_wp2
      go_ret
      exact ⟨rfl, E2.out⟩
    · go_wp2_with fail
      refine (c_ptvalid t w2).mono ?_; rw [H3.out]; rintro e w3 ⟨rfl, hb3⟩
      have E3 := Lib.hid (Ext.trans E2.out hb3)
      clear hb3
      go_wp2
      go_ret
      exact ⟨rfl, E3.out⟩
set_option maxHeartbeats 2000000 in
theorem c_sPaintValid (f t : Pt) (A : Option Addr) (cap : Nat) (ss : List St) (w : World) (h : Sts w A ss) (hl : ss.length ≤ 1000000000) :
    Calls Try.prog 107 #[paV f t A ss.length cap] w fun e w' => e = .returned (.bool (paB f t ss)) ∧ Below w.heap.size w w' := by
  have H := Lib.hid h
  clear h
  have R0 : Hid (Row (w.alloc (.cells #[.int .i64 f.1, .int .i64 f.2, .int .i64 t.1, .int .i64 t.2, .slice A ss.length cap] 77)) w.heap.size 77 [.int .i64 f.1, .int .i64 f.2, .int .i64 t.1, .int .i64 t.2, .slice A ss.length cap]) := Lib.hid (Row.new w 77 [.int .i64 f.1, .int .i64 f.2, .int .i64 t.1, .int .i64 t.2, .slice A ss.length cap])
  have E0 := Lib.hid (ext_alloc w (.cells #[.int .i64 f.1, .int .i64 f.2, .int .i64 t.1, .int .i64 t.2, .slice A ss.length cap] 77))
  obtain ⟨d1, hd1⟩ : ∃ d, stB ss = d := ⟨_, rfl⟩
  obtain ⟨d2, hd2⟩ : ∃ d, vpB f = d := ⟨_, rfl⟩
  obtain ⟨d3, hd3⟩ : ∃ d, vpB t = d := ⟨_, rfl⟩
  have Hp : Hid (paB f t ss = (d1 && d2 && d3)) := Lib.hid (by unfold paB; rw [hd1, hd2, hd3])
  rw [Hp.out]
  have H1 := Lib.hid hd1
  have H2 := Lib.hid hd2
  have H3 := Lib.hid hd3
  clear hd1 hd2 hd3
  go_enter Try.func107, Try.ntmps107
  go_wp2_with fail
  refine (c_sValidStops A cap ss _ (H.out.ext stR_stab E0.out) hl).mono ?_; rw [H1.out]; rintro e w1 ⟨rfl, hb1⟩
  have E1 := Lib.hid (Ext.trans E0.out hb1)
  have G1 := R0.out.ext hb1
  have c0 := G1.cell_of (i := 0) rfl
  have c1 := G1.cell_of (i := 1) rfl
  have c2 := G1.cell_of (i := 2) rfl
  have c3 := G1.cell_of (i := 3) rfl
  have c4 := G1.cell_of (i := 4) rfl
  have HG1 := Lib.hid G1
  clear hb1 G1
  cases d1
  · go_wp2
    go_ret
    exact ⟨rfl, E1.out⟩
  · go_wp2_with fail
    refine (c_validPoint f w1).mono ?_; rw [H2.out]; rintro e w2 ⟨rfl, hb2⟩
    have E2 := Lib.hid (Ext.trans E1.out hb2)
    have G2 := HG1.out.ext hb2
    clear c0 c1 c2 c3 c4 hb2
    have c2 := G2.cell_of (i := 2) rfl
    have c3 := G2.cell_of (i := 3) rfl
    clear G2
    cases d2
    · go_wp2
      go_ret
      exact ⟨rfl, E2.out⟩
    · go_wp2_with fail
      refine (c_validPoint t w2).mono ?_; rw [H3.out]; rintro e w3 ⟨rfl, hb3⟩
      have E3 := Lib.hid (Ext.trans E2.out hb3)
      clear hb3
      go_wp2
      go_ret
      exact ⟨rfl, E3.out⟩
set_option maxRecDepth 100000 in
set_option maxHeartbeats 4000000 in
theorem c_iPaintAt1 (f t : Pt) (A : Option Addr) (cap : Nat) (ss : List St) (c r : Int) (w : World) (h : Sts w A ss) (hcap : ss.length ≤ cap) (hv : paB f t ss = true) (hc : inB c 0 11 = true) (hr : inB r 0 11 = true) :
    Calls Try.prog 112 #[paV f t A ss.length cap, .int .i64 c, .int .i64 r] w fun e w' => e = .returned (bx4V (paintL f t ss c r)) ∧ Below w.heap.size w w' := by
  have H := Lib.hid h
  have Hpx := Lib.hid (pix_vp hc hr)
  obtain ⟨c0', c1'⟩ := inB_iff.1 hc
  obtain ⟨r0', r1'⟩ := inB_iff.1 hr
  obtain ⟨q1, q2, q3⟩ := paB_iff.1 hv
  have Hs := Lib.hid q1
  have Hf := Lib.hid q2
  have Ht := Lib.hid q3
  obtain ⟨M, hM⟩ : ∃ M, paintL f t ss c r = M := ⟨_, rfl⟩
  rw [hM]
  have HM : Hid (stopL ss (alongL f t (16 * c + 8, 16 * r + 8)) = M) := Lib.hid hM
  clear h hv hc hr q1 q2 q3 hM
  go_enter Try.func112, Try.ntmps112
  go_wp2_with fail
  generalize hW : (w.alloc (.cells #[.int .i64 f.1, .int .i64 f.2, .int .i64 t.1, .int .i64 t.2, .slice A ss.length cap] 77)).alloc (.cells #[.int .i64 0, .int .i64 0, .int .i64 0, .int .i64 0] 73) = wa
  have EA : Hid (Ext w wa) := Lib.hid (by rw [← hW]; exact (by repeat (first | exact Below.refl _ _ | assumption | refine Below.drew ?_ | refine Below.alloc ?_ (by first | exact Nat.le_refl _ | omega | (simp; done) | (simp; omega)) _ | refine Below.setCell ?_ (by first | exact Nat.le_refl _ | omega | (simp; done) | (simp; omega)) _)))
  have A1 : Row wa w.heap.size 77 [.int .i64 f.1, .int .i64 f.2, .int .i64 t.1, .int .i64 t.2, .slice A ss.length cap] := by rw [← hW]; exact (Row.new w 77 [.int .i64 f.1, .int .i64 f.2, .int .i64 t.1, .int .i64 t.2, .slice A ss.length cap]).alloc _
  have A2 : Hid (Row wa (w.heap.size + 1) 73 [.int .i64 0, .int .i64 0, .int .i64 0, .int .i64 0]) := Lib.hid (by
    rw [← hW]
    have := Row.new (w.alloc (.cells #[.int .i64 f.1, .int .i64 f.2, .int .i64 t.1, .int .i64 t.2, .slice A ss.length cap] 77)) 73 [.int .i64 0, .int .i64 0, .int .i64 0, .int .i64 0]
    simpa using this)
  clear hW
  have c0 := A1.cell_of (i := 0) rfl
  have c1 := A1.cell_of (i := 1) rfl
  have c2 := A1.cell_of (i := 2) rfl
  have c3 := A1.cell_of (i := 3) rfl
  have c4 := A1.cell_of (i := 4) rfl
  have f1 : IntKind.i64.wrap (16 * c) = 16 * c := IntWalk.i64_in _ (by omega)
  have f2 : IntKind.i64.wrap (16 * c + 8) = 16 * c + 8 := IntWalk.i64_in _ (by omega)
  have f3 : IntKind.i64.wrap (16 * r) = 16 * r := IntWalk.i64_in _ (by omega)
  have f4 : IntKind.i64.wrap (16 * r + 8) = 16 * r + 8 := IntWalk.i64_in _ (by omega)
  clear A1
  refine wp_region_calm [0,1,2,3,4,5,6,7,8,9,10,11,12,13,14] [15] (by kernel_rfl) (by kernel_rfl) ?_
  iterate 13 ((refine calm_yes rfl rfl (fun w' hC => (by have c0 := hC.cell c0; have c1 := hC.cell c1; have c2 := hC.cell c2; have c3 := hC.cell c3; have c4 := hC.cell c4; go_simp; rfl)) (fun K hK => ?_); go_simp; refine hK _ ?_; clear hK K))
  (apply calm_call rfl rfl rfl Try.func143 (by kernel_rfl) rfl (by go_simp; rfl); exact (fun w' hC => c_AlongOf f t (16 * c + 8, 16 * r + 8) w' Hf.out Ht.out Hpx.out); intro K hK; go_simp; refine hK _ ?_; clear hK K)
  (apply calm_call rfl rfl rfl Try.func142 (by kernel_rfl) rfl (by go_simp; rfl); exact (fun w' hC => c_istopColor A cap ss (alongL f t (16 * c + 8, 16 * r + 8)) w' (H.out.ext stR_stab (Ext.trans EA.out (Below.trans (Below.refl _ wa).drew hC))) Hs.out hcap (by have := alongL_bd f t (16 * c + 8, 16 * r + 8); omega)); intro K hK; go_simp; refine hK _ ?_; clear hK K)
  clear f1 f2 f3 f4 c0 c1 c2 c3 c4
  rw [HM.out]
  obtain ⟨m1, m2, m3, m4⟩ := M
  refine calm_nil (fun w2 hC2 => ?_)
  refine late_free (by kernel_rfl) rfl rfl (fun w3 hx3 K' hK => ?_)
  have E3 : Ext wa w3 := Ext.trans (ext_cls hC2) hx3
  have S3 := A2.out.ext E3
  have B3 := Ext.trans EA.out E3
  have e0 := S3.cell_of (i := 0) rfl
  have e1 := S3.cell_of (i := 1) rfl
  have e2 := S3.cell_of (i := 2) rfl
  have e3 := S3.cell_of (i := 3) rfl
  have z0 := S3.frozen 0
  have z1 := S3.frozen 1
  have z2 := S3.frozen 2
  have z3 := S3.frozen 3
  go_simp
  refine hK _ _ ?_
  clear hK K'
  refine late_nil (fun w4 hx4 => ?_)
  have S4 := (((((S3.set_ 0 (.int .i64 m1)).set_ 1 (.int .i64 m2)).set_ 2 (.int .i64 m3)).set_ 3 (.int .i64 m4))).ext hx4
  have B4 : Ext w w4 := Ext.trans ((((B3.setCell (by simp) _).setCell (by simp) _).setCell (by simp) _).setCell (by simp) _) hx4
  have g0 := S4.cell_of (i := 0) rfl
  have g1 := S4.cell_of (i := 1) rfl
  have g2 := S4.cell_of (i := 2) rfl
  have g3 := S4.cell_of (i := 3) rfl
  clear e0 e1 e2 e3 z0 z1 z2 z3 S3 E3 hx3 hx4 hC2
  go_wp2_with fail
  exact bodyPost_ret (v := bx4V (m1, m2, m3, m4)) (by simp [results, Try.results112, go_sem, g0, g1, g2, g3]) rfl ⟨rfl, B4⟩
set_option maxRecDepth 100000 in
set_option maxHeartbeats 4000000 in
theorem c_sPaintAt1 (f t : Pt) (A : Option Addr) (cap : Nat) (ss : List St) (c r : Int) (w : World) (h : Sts w A ss) (hcap : ss.length ≤ cap) (hv : paB f t ss = true) (hc : inB c 0 11 = true) (hr : inB r 0 11 = true) :
    Calls Try.prog 108 #[paV f t A ss.length cap, .int .i64 c, .int .i64 r] w fun e w' => e = .returned (bx4V (paintL f t ss c r)) ∧ Below w.heap.size w w' := by
  have H := Lib.hid h
  have Hpx := Lib.hid (pix_vp hc hr)
  obtain ⟨c0', c1'⟩ := inB_iff.1 hc
  obtain ⟨r0', r1'⟩ := inB_iff.1 hr
  obtain ⟨q1, q2, q3⟩ := paB_iff.1 hv
  have Hs := Lib.hid q1
  have Hf := Lib.hid q2
  have Ht := Lib.hid q3
  obtain ⟨M, hM⟩ : ∃ M, paintL f t ss c r = M := ⟨_, rfl⟩
  rw [hM]
  have HM : Hid (stopL ss (alongL f t (16 * c + 8, 16 * r + 8)) = M) := Lib.hid hM
  clear h hv hc hr q1 q2 q3 hM
  go_enter Try.func108, Try.ntmps108
  go_wp2_with fail
  generalize hW : (w.alloc (.cells #[.int .i64 f.1, .int .i64 f.2, .int .i64 t.1, .int .i64 t.2, .slice A ss.length cap] 77)).alloc (.cells #[.int .i64 0, .int .i64 0, .int .i64 0, .int .i64 0] 73) = wa
  have EA : Hid (Ext w wa) := Lib.hid (by rw [← hW]; exact (by repeat (first | exact Below.refl _ _ | assumption | refine Below.drew ?_ | refine Below.alloc ?_ (by first | exact Nat.le_refl _ | omega | (simp; done) | (simp; omega)) _ | refine Below.setCell ?_ (by first | exact Nat.le_refl _ | omega | (simp; done) | (simp; omega)) _)))
  have A1 : Row wa w.heap.size 77 [.int .i64 f.1, .int .i64 f.2, .int .i64 t.1, .int .i64 t.2, .slice A ss.length cap] := by rw [← hW]; exact (Row.new w 77 [.int .i64 f.1, .int .i64 f.2, .int .i64 t.1, .int .i64 t.2, .slice A ss.length cap]).alloc _
  have A2 : Hid (Row wa (w.heap.size + 1) 73 [.int .i64 0, .int .i64 0, .int .i64 0, .int .i64 0]) := Lib.hid (by
    rw [← hW]
    have := Row.new (w.alloc (.cells #[.int .i64 f.1, .int .i64 f.2, .int .i64 t.1, .int .i64 t.2, .slice A ss.length cap] 77)) 73 [.int .i64 0, .int .i64 0, .int .i64 0, .int .i64 0]
    simpa using this)
  clear hW
  have c0 := A1.cell_of (i := 0) rfl
  have c1 := A1.cell_of (i := 1) rfl
  have c2 := A1.cell_of (i := 2) rfl
  have c3 := A1.cell_of (i := 3) rfl
  have c4 := A1.cell_of (i := 4) rfl
  have f1 : IntKind.i64.wrap (16 * c) = 16 * c := IntWalk.i64_in _ (by omega)
  have f2 : IntKind.i64.wrap (16 * c + 8) = 16 * c + 8 := IntWalk.i64_in _ (by omega)
  have f3 : IntKind.i64.wrap (16 * r) = 16 * r := IntWalk.i64_in _ (by omega)
  have f4 : IntKind.i64.wrap (16 * r + 8) = 16 * r + 8 := IntWalk.i64_in _ (by omega)
  clear A1
  refine wp_region_calm [0,1,2,3,4,5,6,7,8,9,10,11,12,13] [14] (by kernel_rfl) (by kernel_rfl) ?_
  iterate 12 ((refine calm_yes rfl rfl (fun w' hC => (by have c0 := hC.cell c0; have c1 := hC.cell c1; have c2 := hC.cell c2; have c3 := hC.cell c3; have c4 := hC.cell c4; go_simp; rfl)) (fun K hK => ?_); go_simp; refine hK _ ?_; clear hK K))
  (apply calm_call rfl rfl rfl Try.func139 (by kernel_rfl) rfl (by go_simp; rfl); exact (fun w' hC => c_along f t (16 * c + 8) (16 * r + 8) w' Hf.out Ht.out Hpx.out); intro K hK; go_simp; refine hK _ ?_; clear hK K)
  (apply calm_call rfl rfl rfl Try.func138 (by kernel_rfl) rfl (by go_simp; rfl); exact (fun w' hC => c_sstopColor A cap ss (alongL f t (16 * c + 8, 16 * r + 8)) w' (H.out.ext stR_stab (Ext.trans EA.out (Below.trans (Below.refl _ wa).drew hC))) Hs.out hcap (by have := alongL_bd f t (16 * c + 8, 16 * r + 8); omega)); intro K hK; go_simp; refine hK _ ?_; clear hK K)
  clear f1 f2 f3 f4 c0 c1 c2 c3 c4
  rw [HM.out]
  obtain ⟨m1, m2, m3, m4⟩ := M
  refine calm_nil (fun w2 hC2 => ?_)
  refine late_free (by kernel_rfl) rfl rfl (fun w3 hx3 K' hK => ?_)
  have E3 : Ext wa w3 := Ext.trans (ext_cls hC2) hx3
  have S3 := A2.out.ext E3
  have B3 := Ext.trans EA.out E3
  have e0 := S3.cell_of (i := 0) rfl
  have e1 := S3.cell_of (i := 1) rfl
  have e2 := S3.cell_of (i := 2) rfl
  have e3 := S3.cell_of (i := 3) rfl
  have z0 := S3.frozen 0
  have z1 := S3.frozen 1
  have z2 := S3.frozen 2
  have z3 := S3.frozen 3
  go_simp
  refine hK _ _ ?_
  clear hK K'
  refine late_nil (fun w4 hx4 => ?_)
  have S4 := (((((S3.set_ 0 (.int .i64 m1)).set_ 1 (.int .i64 m2)).set_ 2 (.int .i64 m3)).set_ 3 (.int .i64 m4))).ext hx4
  have B4 : Ext w w4 := Ext.trans ((((B3.setCell (by simp) _).setCell (by simp) _).setCell (by simp) _).setCell (by simp) _) hx4
  have g0 := S4.cell_of (i := 0) rfl
  have g1 := S4.cell_of (i := 1) rfl
  have g2 := S4.cell_of (i := 2) rfl
  have g3 := S4.cell_of (i := 3) rfl
  clear e0 e1 e2 e3 z0 z1 z2 z3 S3 E3 hx3 hx4 hC2
  go_wp2_with fail
  exact bodyPost_ret (v := bx4V (m1, m2, m3, m4)) (by simp [results, Try.results108, go_sem, g0, g1, g2, g3]) rfl ⟨rfl, B4⟩
set_option maxRecDepth 100000 in
set_option maxHeartbeats 4000000 in
theorem c_iPaintAt (f t : Pt) (A : Option Addr) (cap : Nat) (ss : List St) (c r : Int) (w : World) (h : Sts w A ss) (hcap : ss.length ≤ cap) (hl : ss.length ≤ 1000000000) :
    Calls Try.prog 57 #[paV f t A ss.length cap, .int .i64 c, .int .i64 r] w fun e w' => e = .returned (bx4V (paR f t ss c r)) ∧ Below w.heap.size w w' := by
  have H := Lib.hid h
  clear h
  obtain ⟨M, hM⟩ : ∃ M, paR f t ss c r = M := ⟨_, rfl⟩
  rw [hM]
  obtain ⟨d1, hd1⟩ : ∃ d, paB f t ss = d := ⟨_, rfl⟩
  obtain ⟨d2, hd2⟩ : ∃ d, inB c 0 11 = d := ⟨_, rfl⟩
  obtain ⟨d3, hd3⟩ : ∃ d, inB r 0 11 = d := ⟨_, rfl⟩
  have HM : Hid (M = if (d1 && d2 && d3) = true then paintL f t ss c r else (0, 0, 0, 0)) := Lib.hid (by rw [← hM]; unfold paR paOk; rw [hd1, hd2, hd3])
  have H1 := Lib.hid hd1
  have H2 := Lib.hid hd2
  have H3 := Lib.hid hd3
  have K2 := Lib.hid (fun W => by have := c_in c 0 11 W; rwa [hd2] at this)
  have K3 := Lib.hid (fun W => by have := c_in r 0 11 W; rwa [hd3] at this)
  clear hd1 hd2 hd3 hM
  go_enter Try.func57, Try.ntmps57
  go_wp2_with fail
  generalize hW : (w.alloc (.cells #[.int .i64 f.1, .int .i64 f.2, .int .i64 t.1, .int .i64 t.2, .slice A ss.length cap] 77)).alloc (.cells #[.int .i64 0, .int .i64 0, .int .i64 0, .int .i64 0] 73) = wa
  have EA : Hid (Ext w wa) := Lib.hid (by rw [← hW]; exact (by repeat (first | exact Below.refl _ _ | assumption | refine Below.drew ?_ | refine Below.alloc ?_ (by first | exact Nat.le_refl _ | omega | (simp; done) | (simp; omega)) _ | refine Below.setCell ?_ (by first | exact Nat.le_refl _ | omega | (simp; done) | (simp; omega)) _)))
  have A1 : Hid (Row wa w.heap.size 77 [.int .i64 f.1, .int .i64 f.2, .int .i64 t.1, .int .i64 t.2, .slice A ss.length cap]) := Lib.hid (by rw [← hW]; exact (Row.new w 77 [.int .i64 f.1, .int .i64 f.2, .int .i64 t.1, .int .i64 t.2, .slice A ss.length cap]).alloc _)
  have A2 : Hid (Row wa (w.heap.size + 1) 73 [.int .i64 0, .int .i64 0, .int .i64 0, .int .i64 0]) := Lib.hid (by
    rw [← hW]
    have := Row.new (w.alloc (.cells #[.int .i64 f.1, .int .i64 f.2, .int .i64 t.1, .int .i64 t.2, .slice A ss.length cap] 77)) 73 [.int .i64 0, .int .i64 0, .int .i64 0, .int .i64 0]
    simpa using this)
  clear hW
  refine (c_iPaintValid f t A cap ss wa (H.out.ext stR_stab EA.out) hl).mono ?_; rw [H1.out]; rintro e w1 ⟨rfl, hb1⟩
  have E1 := Lib.hid hb1
  have G1 := A1.out.ext hb1
  have c0 := G1.cell_of (i := 0) rfl
  have c1 := G1.cell_of (i := 1) rfl
  have c2 := G1.cell_of (i := 2) rfl
  have c3 := G1.cell_of (i := 3) rfl
  have c4 := G1.cell_of (i := 4) rfl
  have G2 := A2.out.ext hb1
  have e0 := G2.cell_of (i := 0) rfl
  have e1 := G2.cell_of (i := 1) rfl
  have e2 := G2.cell_of (i := 2) rfl
  have e3 := G2.cell_of (i := 3) rfl
  have z0 := G2.frozen 0
  have z1 := G2.frozen 1
  have z2 := G2.frozen 2
  have z3 := G2.frozen 3
  have EF := Lib.hid (Ext.trans EA.out hb1)
  clear hb1 G1 G2
  have hno : Hid (∀ b, b = false → (d1 && d2 && d3) = b → M = (0, 0, 0, 0)) := Lib.hid (fun b h1 h2 => by have := HM.out; rw [h2, h1] at this; simpa using this)
  cases d1
  · have Hfin := Lib.hid (hno.out _ rfl (by simp))
    go_wp2_with fail
    rw [Hfin.out]
    exact bodyPost_ret (v := bx4V (0, 0, 0, 0)) (by simp [results, Try.results57, go_sem, e0, e1, e2, e3]) rfl ⟨rfl, (((EF.out.setCell (by simp) _).setCell (by simp) _).setCell (by simp) _).setCell (by simp) _⟩
  · go_wp2_with fail
    refine (K2.out w1).mono ?_; rintro e w' ⟨rfl, rfl⟩
    cases d2
    · have Hfin := Lib.hid (hno.out _ rfl (by simp))
      go_wp2_with fail
      rw [Hfin.out]
      exact bodyPost_ret (v := bx4V (0, 0, 0, 0)) (by simp [results, Try.results57, go_sem, e0, e1, e2, e3]) rfl ⟨rfl, (((EF.out.setCell (by simp) _).setCell (by simp) _).setCell (by simp) _).setCell (by simp) _⟩
    · go_wp2_with fail
      refine (K3.out w1).mono ?_; rintro e w' ⟨rfl, rfl⟩
      cases d3
      · have Hfin := Lib.hid (hno.out _ rfl (by simp))
        go_wp2_with fail
        rw [Hfin.out]
        exact bodyPost_ret (v := bx4V (0, 0, 0, 0)) (by simp [results, Try.results57, go_sem, e0, e1, e2, e3]) rfl ⟨rfl, (((EF.out.setCell (by simp) _).setCell (by simp) _).setCell (by simp) _).setCell (by simp) _⟩
      · have Hfin : Hid (paintL f t ss c r = M) := Lib.hid (by have := HM.out; simpa using this.symm)
        go_wp2_with fail
        refine (c_iPaintAt1 f t A cap ss c r w1 (H.out.ext stR_stab EF.out) hcap H1.out H2.out H3.out).mono ?_
        rw [Hfin.out]
        rintro e w2 ⟨rfl, hb2⟩
        clear e0 e1 e2 e3 z0 z1 z2 z3 c0 c1 c2 c3 c4
        have G2 := A2.out.ext (Ext.trans E1.out hb2)
        have e0 := G2.cell_of (i := 0) rfl
        have e1 := G2.cell_of (i := 1) rfl
        have e2 := G2.cell_of (i := 2) rfl
        have e3 := G2.cell_of (i := 3) rfl
        have z0 := G2.frozen 0
        have z1 := G2.frozen 1
        have z2 := G2.frozen 2
        have z3 := G2.frozen 3
        have EG := Lib.hid (Ext.trans EF.out hb2)
        clear hb2 G2
        go_wp2_with fail
        exact bodyPost_ret (v := bx4V M) (by simp [results, Try.results57, go_sem, e0, e1, e2, e3]) rfl ⟨rfl, (((EG.out.setCell (by simp) _).setCell (by simp) _).setCell (by simp) _).setCell (by simp) _⟩
set_option maxRecDepth 100000 in
set_option maxHeartbeats 4000000 in
theorem c_sPaintAt (f t : Pt) (A : Option Addr) (cap : Nat) (ss : List St) (c r : Int) (w : World) (h : Sts w A ss) (hcap : ss.length ≤ cap) (hl : ss.length ≤ 1000000000) :
    Calls Try.prog 55 #[paV f t A ss.length cap, .int .i64 c, .int .i64 r] w fun e w' => e = .returned (bx4V (paR f t ss c r)) ∧ Below w.heap.size w w' := by
  have H := Lib.hid h
  clear h
  obtain ⟨M, hM⟩ : ∃ M, paR f t ss c r = M := ⟨_, rfl⟩
  rw [hM]
  obtain ⟨d1, hd1⟩ : ∃ d, paB f t ss = d := ⟨_, rfl⟩
  obtain ⟨d2, hd2⟩ : ∃ d, inB c 0 11 = d := ⟨_, rfl⟩
  obtain ⟨d3, hd3⟩ : ∃ d, inB r 0 11 = d := ⟨_, rfl⟩
  have HM : Hid (M = if (d1 && d2 && d3) = true then paintL f t ss c r else (0, 0, 0, 0)) := Lib.hid (by rw [← hM]; unfold paR paOk; rw [hd1, hd2, hd3])
  have H1 := Lib.hid hd1
  have H2 := Lib.hid hd2
  have H3 := Lib.hid hd3
  have K2 := Lib.hid (fun W => by have := c_inRange c 0 11 W; rwa [hd2] at this)
  have K3 := Lib.hid (fun W => by have := c_inRange r 0 11 W; rwa [hd3] at this)
  clear hd1 hd2 hd3 hM
  go_enter Try.func55, Try.ntmps55
  go_wp2_with fail
  generalize hW : (w.alloc (.cells #[.int .i64 f.1, .int .i64 f.2, .int .i64 t.1, .int .i64 t.2, .slice A ss.length cap] 77)).alloc (.cells #[.int .i64 0, .int .i64 0, .int .i64 0, .int .i64 0] 73) = wa
  have EA : Hid (Ext w wa) := Lib.hid (by rw [← hW]; exact (by repeat (first | exact Below.refl _ _ | assumption | refine Below.drew ?_ | refine Below.alloc ?_ (by first | exact Nat.le_refl _ | omega | (simp; done) | (simp; omega)) _ | refine Below.setCell ?_ (by first | exact Nat.le_refl _ | omega | (simp; done) | (simp; omega)) _)))
  have A1 : Hid (Row wa w.heap.size 77 [.int .i64 f.1, .int .i64 f.2, .int .i64 t.1, .int .i64 t.2, .slice A ss.length cap]) := Lib.hid (by rw [← hW]; exact (Row.new w 77 [.int .i64 f.1, .int .i64 f.2, .int .i64 t.1, .int .i64 t.2, .slice A ss.length cap]).alloc _)
  have A2 : Hid (Row wa (w.heap.size + 1) 73 [.int .i64 0, .int .i64 0, .int .i64 0, .int .i64 0]) := Lib.hid (by
    rw [← hW]
    have := Row.new (w.alloc (.cells #[.int .i64 f.1, .int .i64 f.2, .int .i64 t.1, .int .i64 t.2, .slice A ss.length cap] 77)) 73 [.int .i64 0, .int .i64 0, .int .i64 0, .int .i64 0]
    simpa using this)
  clear hW
  refine (c_sPaintValid f t A cap ss wa (H.out.ext stR_stab EA.out) hl).mono ?_; rw [H1.out]; rintro e w1 ⟨rfl, hb1⟩
  have E1 := Lib.hid hb1
  have G1 := A1.out.ext hb1
  have c0 := G1.cell_of (i := 0) rfl
  have c1 := G1.cell_of (i := 1) rfl
  have c2 := G1.cell_of (i := 2) rfl
  have c3 := G1.cell_of (i := 3) rfl
  have c4 := G1.cell_of (i := 4) rfl
  have G2 := A2.out.ext hb1
  have e0 := G2.cell_of (i := 0) rfl
  have e1 := G2.cell_of (i := 1) rfl
  have e2 := G2.cell_of (i := 2) rfl
  have e3 := G2.cell_of (i := 3) rfl
  have z0 := G2.frozen 0
  have z1 := G2.frozen 1
  have z2 := G2.frozen 2
  have z3 := G2.frozen 3
  have EF := Lib.hid (Ext.trans EA.out hb1)
  clear hb1 G1 G2
  have hno : Hid (∀ b, b = false → (d1 && d2 && d3) = b → M = (0, 0, 0, 0)) := Lib.hid (fun b h1 h2 => by have := HM.out; rw [h2, h1] at this; simpa using this)
  cases d1
  · have Hfin := Lib.hid (hno.out _ rfl (by simp))
    go_wp2_with fail
    rw [Hfin.out]
    exact bodyPost_ret (v := bx4V (0, 0, 0, 0)) (by simp [results, Try.results55, go_sem, e0, e1, e2, e3]) rfl ⟨rfl, (((EF.out.setCell (by simp) _).setCell (by simp) _).setCell (by simp) _).setCell (by simp) _⟩
  · go_wp2_with fail
    refine (K2.out w1).mono ?_; rintro e w' ⟨rfl, rfl⟩
    cases d2
    · have Hfin := Lib.hid (hno.out _ rfl (by simp))
      go_wp2_with fail
      rw [Hfin.out]
      exact bodyPost_ret (v := bx4V (0, 0, 0, 0)) (by simp [results, Try.results55, go_sem, e0, e1, e2, e3]) rfl ⟨rfl, (((EF.out.setCell (by simp) _).setCell (by simp) _).setCell (by simp) _).setCell (by simp) _⟩
    · go_wp2_with fail
      refine (K3.out w1).mono ?_; rintro e w' ⟨rfl, rfl⟩
      cases d3
      · have Hfin := Lib.hid (hno.out _ rfl (by simp))
        go_wp2_with fail
        rw [Hfin.out]
        exact bodyPost_ret (v := bx4V (0, 0, 0, 0)) (by simp [results, Try.results55, go_sem, e0, e1, e2, e3]) rfl ⟨rfl, (((EF.out.setCell (by simp) _).setCell (by simp) _).setCell (by simp) _).setCell (by simp) _⟩
      · have Hfin : Hid (paintL f t ss c r = M) := Lib.hid (by have := HM.out; simpa using this.symm)
        go_wp2_with fail
        refine (c_sPaintAt1 f t A cap ss c r w1 (H.out.ext stR_stab EF.out) hcap H1.out H2.out H3.out).mono ?_
        rw [Hfin.out]
        rintro e w2 ⟨rfl, hb2⟩
        clear e0 e1 e2 e3 z0 z1 z2 z3 c0 c1 c2 c3 c4
        have G2 := A2.out.ext (Ext.trans E1.out hb2)
        have e0 := G2.cell_of (i := 0) rfl
        have e1 := G2.cell_of (i := 1) rfl
        have e2 := G2.cell_of (i := 2) rfl
        have e3 := G2.cell_of (i := 3) rfl
        have z0 := G2.frozen 0
        have z1 := G2.frozen 1
        have z2 := G2.frozen 2
        have z3 := G2.frozen 3
        have EG := Lib.hid (Ext.trans EF.out hb2)
        clear hb2 G2
        go_wp2_with fail
        exact bodyPost_ret (v := bx4V M) (by simp [results, Try.results55, go_sem, e0, e1, e2, e3]) rfl ⟨rfl, (((EG.out.setCell (by simp) _).setCell (by simp) _).setCell (by simp) _).setCell (by simp) _⟩
end Go.Proofs.Ytnclnmciaehgeaa
