/-
  Data drawn: numbers and points.
-/
import Derived.Test.YtkjbkbincmcioaaPick
import Derived.Test.YtkjbkbincmcioaaNum
namespace Go.Proofs.Ytkjbkbincmcioaa
open Go Go.RowKit Reg
attribute [local go_sem] calmAt calmUpon

def CrdP (p : Pt) : Prop := Crd p.1 ∧ Crd p.2
theorem ints_new (w : World) (e : TypeId) (ns : List Int) {g : Nat} (hg : g = w.heap.size) {cs : Array Value} (hcs : cs = (ns.flatMap intC).toArray) : Ints (w.alloc (.cells cs e)) (some ⟨g, 0, none⟩) ns := by
  subst hg hcs
  exact Row.in_ (rest := []) (enc := intC) (fun _ => rfl) (by simpa using Row.new w e (ns.flatMap intC)) (fun _ _ => rfl)
/-- Near the picture. -/
def SomeP (p : Pt) : Prop := (-16 ≤ p.1 ∧ p.1 ≤ 207) ∧ (-16 ≤ p.2 ∧ p.2 ≤ 207)
theorem SomeP.crd {p : Pt} (h : SomeP p) : CrdP p := by unfold SomeP at h; unfold CrdP Crd; omega
def VpP (p : Pt) : Prop := vpB p = true
theorem SomeP.vp {p : Pt} (h : SomeP p) : VpP p := by unfold SomeP at h; unfold VpP; rw [vpB_iff]; omega
/-- A point drawn of which Q holds. -/
def DrewPtQ (Q : Pt → Prop) (w w' : World) (e : Ending) (g N : Nat) : Prop := ∃ p : Pt, e = .returned (.agg #[.int .i64 p.1, .int .i64 p.2]) ∧ Q p ∧ Rdr w' g N ∧ w.grownBy w' (some g)
/-- A point drawn. -/
def DrewPt (w w' : World) (e : Ending) (g N : Nat) : Prop := ∃ p : Pt, e = .returned (.agg #[.int .i64 p.1, .int .i64 p.2]) ∧ CrdP p ∧ Rdr w' g N ∧ w.grownBy w' (some g)
theorem PT_ne_RD : (27 : TypeId) ≠ 92 := by decide
set_option maxHeartbeats 1000000 in
theorem c_somePointS (g N : Nat) (w : World) (h : Rdr w g N) (hN : N + 2 ≤ 1000000) :
    Calls Try.prog 60 #[.pointer (some ⟨g, 0, none⟩)] w fun e w' => DrewPtQ SomeP w w' e g (N + 2) := by
  have hlt := h.lt
  go_enter Try.func60, Try.ntmps60
  go_wp2_with fail
  have R0 := Lib.hid (Row.new w 27 [.int .i64 0, .int .i64 0])
  have G0 : Hid (w.grownBy (w.alloc (.cells #[.int .i64 0, .int .i64 0] 27)) (some g)) := Lib.hid (grown_ext (ext_alloc _ _))
  refine (c_pick g N 224 _ (h.ext (ext_alloc _ _)) (by omega)).mono ?_
  rintro e w1 ⟨v1, rfl, ⟨a0, a1⟩, hr1, hg1⟩
  have a1 := a1 (by decide)
  have R1 := Lib.hid (R0.out.keptR hg1 (by omega))
  have G1 := Lib.hid (grown_trans G0.out hg1)
  have HR1 := Lib.hid hr1
  clear hr1 hg1
  go_wp2_with fail
  refine (c_pick g (N + 1) 224 _ HR1.out (by omega)).mono ?_
  rintro e w2 ⟨v2, rfl, ⟨d0, d1⟩, hr2, hg2⟩
  have d1 := d1 (by decide)
  have R2 := Lib.hid (R1.out.keptR hg2 (by omega))
  have G2 := Lib.hid (grown_trans G1.out hg2)
  have HR2 := Lib.hid hr2
  have c0 := R2.out.cell_of (i := 0) rfl
  have c1 := R2.out.cell_of (i := 1) rfl
  have z0 := R2.out.frozen 0
  have z1 := R2.out.frozen 1
  clear hr2 hg2
  go_wp2_with fail
  exact bodyPost_ret (v := .agg #[.int .i64 (v1 - 16), .int .i64 (v2 - 16)]) (by simp [results, Try.results60, go_sem, c0, c1]) rfl ⟨(v1 - 16, v2 - 16), rfl, by unfold SomeP; omega, (HR2.out.far (by simp; omega) _).far (by simp; omega) _, grown_far (grown_far G2.out (by simp) _) (by simp) _⟩
theorem c_somePoint (g N : Nat) (w : World) (h : Rdr w g N) (hN : N + 2 ≤ 1000000) :
    Calls Try.prog 60 #[.pointer (some ⟨g, 0, none⟩)] w fun e w' => DrewPt w w' e g (N + 2) :=
  (c_somePointS g N w h hN).mono fun _ _ ⟨p, h1, h2, h3⟩ => ⟨p, h1, h2.crd, h3⟩
theorem c_somePointV (g N : Nat) (w : World) (h : Rdr w g N) (hN : N + 2 ≤ 1000000) :
    Calls Try.prog 60 #[.pointer (some ⟨g, 0, none⟩)] w fun e w' => DrewPtQ VpP w w' e g (N + 2) :=
  (c_somePointS g N w h hN).mono fun _ _ ⟨p, h1, h2, h3⟩ => ⟨p, h1, h2.vp, h3⟩
set_option maxHeartbeats 2000000 in
theorem c_anyPoint (g N : Nat) (w : World) (h : Rdr w g N) (hN : N + 4 ≤ 1000000) :
    Calls Try.prog 45 #[.pointer (some ⟨g, 0, none⟩)] w fun e w' => DrewPt w w' e g (N + 4) := by
  have hlt := h.lt
  go_enter Try.func45, Try.ntmps45
  go_wp2_with fail
  have R0 := Lib.hid (Row.new w 27 [.int .i64 0, .int .i64 0])
  have G0 : Hid (w.grownBy (w.alloc (.cells #[.int .i64 0, .int .i64 0] 27)) (some g)) := Lib.hid (grown_ext (ext_alloc _ _))
  refine (c_somePoint g N _ (h.ext (ext_alloc _ _)) (by omega)).mono ?_
  rintro e w1 ⟨⟨x, y⟩, rfl, hp, hr1, hg1⟩
  unfold CrdP Crd at hp
  dsimp only at hp
  have R1 := Lib.hid (R0.out.keptR hg1 (by omega))
  have G1 := Lib.hid (grown_trans G0.out hg1)
  have HR1 := Lib.hid hr1
  have z1 : w.heap.size + 1 ≤ w1.heap.size := by have := hg1.size; simp at this; omega
  clear hr1 hg1
  go_wp2_with fail
  have c0 := R1.out.cell_of (i := 0) rfl
  have c1 := R1.out.cell_of (i := 1) rfl
  go_wp2_with fail
  have S0 := Lib.hid (Row.new w1 27 [.int .i64 x, .int .i64 y])
  refine (c_pick g (N + 2) 20 _ (HR1.out.ext (ext_alloc _ _)) (by omega)).mono ?_
  rintro e w2 ⟨v, rfl, ⟨a0, a1⟩, hr2, hg2⟩
  have a1 := a1 (by decide)
  have R2 := Lib.hid ((R1.out.alloc (.cells #[.int .i64 x, .int .i64 y] 27)).keptR hg2 (by omega))
  have S2 := Lib.hid (S0.out.keptR hg2 (by have := HR1.out.lt; omega))
  have G2 := Lib.hid (grown_trans (grown_alloc G1.out _) hg2)
  have HR2 := Lib.hid hr2
  have z2 : w1.heap.size + 1 ≤ w2.heap.size := by have := hg2.size; simp at this; omega
  clear hr2 hg2 c0 c1
  have hn1 : g < w1.heap.size := HR1.out.lt
  by_cases hv0 : v = 0
  · have hb0 : (v == 0) = true := by simp [hv0]
    clear hv0 a0 a1
    go_wp2_with fail
    refine (c_one g (N + 3) _ 4 [1000, 1001, -1001, -1000] _ (HR2.out.ext (ext_alloc _ _)) (by omega) (ints_new w2 _ _ rfl rfl) (by simp) (by simp) (fun b off hA => by cases hA; omega)).mono ?_
    rintro e w3 ⟨q, rfl, hq, hr3, hg3⟩
    have hq : -1001 ≤ q ∧ q ≤ 1001 := by simp at hq; omega
    have R3 := (R2.out.alloc _).keptR hg3 (by omega)
    have S3 := (S2.out.alloc _).keptR hg3 (by omega)
    have c0 := R3.cell_of (i := 0) rfl
    have c1 := R3.cell_of (i := 1) rfl
    have d0 := S3.cell_of (i := 0) rfl
    have d1 := S3.cell_of (i := 1) rfl
    have y0 := R3.frozen 0
    have y1 := R3.frozen 1
    have y2 := S3.frozen 0
    have HR3 := Lib.hid hr3
    have G3 := Lib.hid (grown_trans (grown_alloc G2.out _) hg3)
    have hn2 : ¬ w.heap.size = w1.heap.size := by omega
    have hn3 : ¬ w1.heap.size = w.heap.size := by omega
    clear R3 S3 hr3 hg3
    go_wp2_with fail
    exact bodyPost_ret (v := .agg #[.int .i64 q, .int .i64 y]) (by simp [results, Try.results45, go_sem, c0, c1]) rfl ⟨(q, y), rfl, by unfold CrdP Crd; dsimp only; omega, ((HR3.out.far (by simp; omega) _).far (by simp; omega) _).far (by simp; omega) _, grown_far (grown_far (grown_far G3.out (by simp; omega) _) (by simp) _) (by simp) _⟩
  · have hb0 : (v == 0) = false := by simp [hv0]
    by_cases hv1 : v = 1
    · have hb1 : (v == 1) = true := by simp [hv1]
      clear hv0 hv1 a0 a1
      go_wp2_with fail
      refine (c_one g (N + 3) _ 4 [1000, 1001, -1001, -1000] _ (HR2.out.ext (ext_alloc _ _)) (by omega) (ints_new w2 _ _ rfl rfl) (by simp) (by simp) (fun b off hA => by cases hA; omega)).mono ?_
      rintro e w3 ⟨q, rfl, hq, hr3, hg3⟩
      have hq : -1001 ≤ q ∧ q ≤ 1001 := by simp at hq; omega
      have R3 := (R2.out.alloc _).keptR hg3 (by omega)
      have S3 := (S2.out.alloc _).keptR hg3 (by omega)
      have c0 := R3.cell_of (i := 0) rfl
      have c1 := R3.cell_of (i := 1) rfl
      have d0 := S3.cell_of (i := 0) rfl
      have d1 := S3.cell_of (i := 1) rfl
      have y0 := R3.frozen 0
      have y1 := R3.frozen 1
      have y2 := S3.frozen 1
      have HR3 := Lib.hid hr3
      have G3 := Lib.hid (grown_trans (grown_alloc G2.out _) hg3)
      have hn2 : ¬ w.heap.size = w1.heap.size := by omega
      have hn3 : ¬ w1.heap.size = w.heap.size := by omega
      clear R3 S3 hr3 hg3
      go_wp2_with fail
      exact bodyPost_ret (v := .agg #[.int .i64 x, .int .i64 q]) (by simp [results, Try.results45, go_sem, c0, c1]) rfl ⟨(x, q), rfl, by unfold CrdP Crd; dsimp only; omega, ((HR3.out.far (by simp; omega) _).far (by simp; omega) _).far (by simp; omega) _, grown_far (grown_far (grown_far G3.out (by simp; omega) _) (by simp) _) (by simp) _⟩
    · have hb1 : (v == 1) = false := by simp [hv1]
      clear hv0 hv1 a0 a1
      have R3 := R2.out
      have S3 := S2.out
      have c0 := R3.cell_of (i := 0) rfl
      have c1 := R3.cell_of (i := 1) rfl
      have d0 := S3.cell_of (i := 0) rfl
      have d1 := S3.cell_of (i := 1) rfl
      have y0 := R3.frozen 0
      have y1 := R3.frozen 1
      clear R3 S3
      go_wp2_with fail
      exact bodyPost_ret (v := .agg #[.int .i64 x, .int .i64 y]) (by simp [results, Try.results45, go_sem, c0, c1]) rfl ⟨(x, y), rfl, by unfold CrdP Crd; dsimp only; omega, ((HR2.out.mono (by omega)).far (by simp; omega) _).far (by simp; omega) _, grown_far (grown_far G2.out (by simp) _) (by simp) _⟩
/-- The point between. -/
def midL (a b : Pt) : Pt := ((a.1 + b.1) / 2, (a.2 + b.2) / 2)
theorem midL_crd {a b : Pt} (h1 : CrdP a) (h2 : CrdP b) : CrdP (midL a b) := by unfold CrdP Crd midL at *; dsimp only; omega
set_option maxHeartbeats 2000000 in
theorem c_middle (a b : Pt) (w : World) (ha : CrdP a) (hb : CrdP b) :
    Calls Try.prog 73 #[.agg #[.int .i64 a.1, .int .i64 a.2], .agg #[.int .i64 b.1, .int .i64 b.2]] w fun e w' => e = .returned (.agg #[.int .i64 (midL a b).1, .int .i64 (midL a b).2]) ∧ Below w.heap.size w w' := by
  obtain ⟨x1, y1⟩ := a
  obtain ⟨x2, y2⟩ := b
  unfold CrdP Crd at ha hb
  dsimp only at ha hb
  obtain ⟨⟨p1, p2⟩, p3, p4⟩ := ha
  obtain ⟨⟨q1, q2⟩, q3, q4⟩ := hb
  go_enter Try.func73, Try.ntmps73
  go_wp2_with fail
  generalize hW : ((w.alloc (.cells #[.int .i64 x1, .int .i64 y1] 27)).alloc (.cells #[.int .i64 x2, .int .i64 y2] 27)).alloc (.cells #[.int .i64 0, .int .i64 0] 27) = wa
  have Ea : Ext w wa := by rw [← hW]; exact (by repeat (first | exact Below.refl _ _ | assumption | refine Below.drew ?_ | refine Below.alloc ?_ (by first | exact Nat.le_refl _ | omega | (simp; done) | (simp; omega)) _ | refine Below.setCell ?_ (by first | exact Nat.le_refl _ | omega | (simp; done) | (simp; omega)) _))
  have A1 : Row wa w.heap.size 27 [.int .i64 x1, .int .i64 y1] := by rw [← hW]; exact ((Row.new w 27 [.int .i64 x1, .int .i64 y1]).alloc _).alloc _
  have A2 : Row wa (w.heap.size + 1) 27 [.int .i64 x2, .int .i64 y2] := by rw [← hW]; exact row_mid w _ _ 27 [.int .i64 x2, .int .i64 y2]
  have A3 : Row wa (w.heap.size + 2) 27 [.int .i64 0, .int .i64 0] := by
    rw [← hW]
    have := Row.new ((w.alloc (.cells #[.int .i64 x1, .int .i64 y1] 27)).alloc (.cells #[.int .i64 x2, .int .i64 y2] 27)) 27 [.int .i64 0, .int .i64 0]
    simpa using this
  clear hW
  have c0 := A1.cell_of (i := 0) rfl
  have c1 := A1.cell_of (i := 1) rfl
  have d0 := A2.cell_of (i := 0) rfl
  have d1 := A2.cell_of (i := 1) rfl
  have f1 : IntKind.i64.wrap (x1 + x2) = x1 + x2 := IntWalk.i64_in _ (by omega)
  have f2 : IntKind.i64.wrap (y1 + y2) = y1 + y2 := IntWalk.i64_in _ (by omega)
  have H3 := Lib.hid A3
  clear A1 A2 A3
  refine wp_region_calm [0,1,2,3,4,5,6,7,8,9,10,11,12] [13] (by kernel_rfl) (by kernel_rfl) ?_
  iterate 5 ((refine calm_yes rfl rfl (fun w' hC => (by have c0 := hC.cell c0; have c1 := hC.cell c1; have d0 := hC.cell d0; have d1 := hC.cell d1; go_simp; rfl)) (fun K hK => ?_); go_simp; refine hK _ ?_; clear hK K))
  (apply calm_call rfl rfl rfl Try.func74 (by kernel_rfl) rfl (by go_simp; rfl); exact (fun w' hC => ext_of_same (c_floorDiv (x1 + x2) 2 w' (by decide) (by decide) (by omega) (by omega))); intro K hK; go_simp; refine hK _ ?_; clear hK K)
  iterate 5 ((refine calm_yes rfl rfl (fun w' hC => (by have c0 := hC.cell c0; have c1 := hC.cell c1; have d0 := hC.cell d0; have d1 := hC.cell d1; go_simp; rfl)) (fun K hK => ?_); go_simp; refine hK _ ?_; clear hK K))
  (apply calm_call rfl rfl rfl Try.func74 (by kernel_rfl) rfl (by go_simp; rfl); exact (fun w' hC => ext_of_same (c_floorDiv (y1 + y2) 2 w' (by decide) (by decide) (by omega) (by omega))); intro K hK; go_simp; refine hK _ ?_; clear hK K)
  (refine calm_yes rfl rfl (fun w' hC => (by go_simp; rfl)) (fun K hK => ?_); go_simp; refine hK _ ?_; clear hK K)
  refine calm_nil (fun w2 hC2 => ?_)
  refine late_free (by kernel_rfl) rfl rfl (fun w3 hx3 K hK => ?_)
  have E3 : Ext wa w3 := Ext.trans (ext_cls hC2) hx3
  have S3 := H3.out.ext E3
  have e0 := S3.cell_of (i := 0) rfl
  have e1 := S3.cell_of (i := 1) rfl
  have z0 := S3.frozen 0
  have z1 := S3.frozen 1
  go_simp
  refine hK _ _ ?_
  clear hK K
  refine late_nil (fun w4 hx4 => ?_)
  have S4 := ((S3.set_ 0 (.int .i64 ((x1 + x2) / 2))).set_ 1 (.int .i64 ((y1 + y2) / 2))).ext hx4
  have B4 : Ext w w4 := Ext.trans (((Ext.trans Ea E3).setCell (by simp; omega) _).setCell (by simp; omega) _) hx4
  have g0 := S4.cell_of (i := 0) rfl
  have g1 := S4.cell_of (i := 1) rfl
  clear e0 e1 z0 z1 S3 E3 hx3 hx4 hC2
  go_wp2_with fail
  exact bodyPost_ret (v := .agg #[.int .i64 ((x1 + x2) / 2), .int .i64 ((y1 + y2) / 2)]) (by simp [results, Try.results73, go_sem, g0, g1]) rfl ⟨rfl, B4⟩
end Go.Proofs.Ytkjbkbincmcioaa
