/-
  The point between two points: the walk.
-/
import Derived.Test.YtjjnfjnoagfajaaNum
namespace Go.Proofs.Ytjjnfjnoagfajaa
open Go Go.RowKit Reg
attribute [local go_sem] calmAt calmUpon
def CrdP (p : Pt) : Prop := Crd p.1 ∧ Crd p.2
/-- The point between. -/
def midL (a b : Pt) : Pt := ((a.1 + b.1) / 2, (a.2 + b.2) / 2)
theorem midL_crd {a b : Pt} (h1 : CrdP a) (h2 : CrdP b) : CrdP (midL a b) := by unfold CrdP Crd midL at *; dsimp only; omega
set_option maxHeartbeats 2000000 in
theorem c_middle (a b : Pt) (w : World) (ha : CrdP a) (hb : CrdP b) :
    Calls Try.prog 108 #[.agg #[.int .i64 a.1, .int .i64 a.2], .agg #[.int .i64 b.1, .int .i64 b.2]] w fun e w' => e = .returned (.agg #[.int .i64 (midL a b).1, .int .i64 (midL a b).2]) ∧ Below w.heap.size w w' := by
  obtain ⟨x1, y1⟩ := a
  obtain ⟨x2, y2⟩ := b
  unfold CrdP Crd at ha hb
  dsimp only at ha hb
  obtain ⟨⟨p1, p2⟩, p3, p4⟩ := ha
  obtain ⟨⟨q1, q2⟩, q3, q4⟩ := hb
  go_enter Try.func108, Try.ntmps108
  go_wp2_with fail
  generalize hW : ((w.alloc (.cells #[.int .i64 x1, .int .i64 y1] 46)).alloc (.cells #[.int .i64 x2, .int .i64 y2] 46)).alloc (.cells #[.int .i64 0, .int .i64 0] 46) = wa
  have Ea : Ext w wa := by rw [← hW]; exact (by repeat (first | exact Below.refl _ _ | assumption | refine Below.drew ?_ | refine Below.alloc ?_ (by first | exact Nat.le_refl _ | omega | (simp; done) | (simp; omega)) _ | refine Below.setCell ?_ (by first | exact Nat.le_refl _ | omega | (simp; done) | (simp; omega)) _))
  have A1 : Row wa w.heap.size 46 [.int .i64 x1, .int .i64 y1] := by rw [← hW]; exact ((Row.new w 46 [.int .i64 x1, .int .i64 y1]).alloc _).alloc _
  have A2 : Row wa (w.heap.size + 1) 46 [.int .i64 x2, .int .i64 y2] := by rw [← hW]; exact row_mid w _ _ 46 [.int .i64 x2, .int .i64 y2]
  have A3 : Row wa (w.heap.size + 2) 46 [.int .i64 0, .int .i64 0] := by
    rw [← hW]
    have := Row.new ((w.alloc (.cells #[.int .i64 x1, .int .i64 y1] 46)).alloc (.cells #[.int .i64 x2, .int .i64 y2] 46)) 46 [.int .i64 0, .int .i64 0]
    simpa using this
  clear hW
  have c0 := A1.cell_of (i := 0) rfl
  have c1 := A1.cell_of (i := 1) rfl
  have d0 := A2.cell_of (i := 0) rfl
  have d1 := A2.cell_of (i := 1) rfl
  have f1 : IntKind.i64.wrap (x1 + x2) = x1 + x2 := IntWalk.i64_in _ (by omega)
  have f2 : IntKind.i64.wrap (y1 + y2) = y1 + y2 := IntWalk.i64_in _ (by omega)
  have H3 := Lib.hid A3
  clear A1 A2 A3
  refine wp_region_calm [0,1,2,3,4,5,6,7,8,9,10,11,12] [13] (by kernel_rfl) (by kernel_rfl) ?_
  iterate 5 ((refine calm_yes rfl rfl (fun w' hC => (by have c0 := hC.cell c0; have c1 := hC.cell c1; have d0 := hC.cell d0; have d1 := hC.cell d1; go_simp; rfl)) (fun K hK => ?_); go_simp; refine hK _ ?_; clear hK K))
  (apply calm_call rfl rfl rfl Try.func86 (by kernel_rfl) rfl (by go_simp; rfl); exact (fun w' hC => ext_of_same (c_floorDiv (x1 + x2) 2 w' (by decide) (by decide) (by omega) (by omega))); intro K hK; go_simp; refine hK _ ?_; clear hK K)
  iterate 5 ((refine calm_yes rfl rfl (fun w' hC => (by have c0 := hC.cell c0; have c1 := hC.cell c1; have d0 := hC.cell d0; have d1 := hC.cell d1; go_simp; rfl)) (fun K hK => ?_); go_simp; refine hK _ ?_; clear hK K))
  (apply calm_call rfl rfl rfl Try.func86 (by kernel_rfl) rfl (by go_simp; rfl); exact (fun w' hC => ext_of_same (c_floorDiv (y1 + y2) 2 w' (by decide) (by decide) (by omega) (by omega))); intro K hK; go_simp; refine hK _ ?_; clear hK K)
  (refine calm_yes rfl rfl (fun w' hC => (by go_simp; rfl)) (fun K hK => ?_); go_simp; refine hK _ ?_; clear hK K)
  refine calm_nil (fun w2 hC2 => ?_)
  refine late_free (by kernel_rfl) rfl rfl (fun w3 hx3 K hK => ?_)
  have E3 : Ext wa w3 := Ext.trans (ext_cls hC2) hx3
  have S3 := H3.out.ext E3
  have e0 := S3.cell_of (i := 0) rfl
  have e1 := S3.cell_of (i := 1) rfl
  have z0 := S3.frozen 0
  have z1 := S3.frozen 1
  go_simp
  refine hK _ _ ?_
  clear hK K
  refine late_nil (fun w4 hx4 => ?_)
  have S4 := ((S3.set_ 0 (.int .i64 ((x1 + x2) / 2))).set_ 1 (.int .i64 ((y1 + y2) / 2))).ext hx4
  have B4 : Ext w w4 := Ext.trans (((Ext.trans Ea E3).setCell (by simp; omega) _).setCell (by simp; omega) _) hx4
  have g0 := S4.cell_of (i := 0) rfl
  have g1 := S4.cell_of (i := 1) rfl
  clear e0 e1 z0 z1 S3 E3 hx3 hx4 hC2
  go_wp2_with fail
  exact bodyPost_ret (v := .agg #[.int .i64 ((x1 + x2) / 2), .int .i64 ((y1 + y2) / 2)]) (by simp [results, Try.results108, go_sem, g0, g1]) rfl ⟨rfl, B4⟩
end Go.Proofs.Ytjjnfjnoagfajaa
