/-
  The pixels of boxes, and how much of them boxes of whole pixels cover.
-/
import Derived.Test.YtnclnmciaehgeaaBoxIn
import Derived.Test.YtnclnmciaehgeaaMask
import Derived.Test.YtnclnmciaehgeaaNum
namespace Go.Proofs.Ytnclnmciaehgeaa
open Go Go.RowKit Reg
attribute [local go_sem] calmAt calmUpon
theorem cnt_congr {f g : Nat → Nat → Bool} (h : ∀ i k, i < 4 → k < 4 → f i k = g i k) : cnt f 4 0 = cnt g 4 0 := by
  simp only [cnt, show List.range 4 = [0, 1, 2, 3] from rfl, show List.range 0 = [] from rfl, List.map_cons, List.map_nil, List.sum_cons, List.sum_nil, List.countP_cons, List.countP_nil,
    h 0 0 (by omega) (by omega), h 0 1 (by omega) (by omega), h 0 2 (by omega) (by omega), h 0 3 (by omega) (by omega), h 1 0 (by omega) (by omega), h 1 1 (by omega) (by omega), h 1 2 (by omega) (by omega), h 1 3 (by omega) (by omega),
    h 2 0 (by omega) (by omega), h 2 1 (by omega) (by omega), h 2 2 (by omega) (by omega), h 2 3 (by omega) (by omega), h 3 0 (by omega) (by omega), h 3 1 (by omega) (by omega), h 3 2 (by omega) (by omega), h 3 3 (by omega) (by omega)]
def pixB (b : Bx) : Bx := (b.1 / 16, b.2.1 / 16, b.2.2.1 / 16 + 1, b.2.2.2 / 16 + 1)
def bigB (c : Bx) : Bx := (16 * c.1, 16 * c.2.1, 16 * c.2.2.1, 16 * c.2.2.2)
theorem cover_box {p : Bx} (hd : boxOk (bigB p) = true) (hv : vbxB p = true) {c r : Nat} (hc : c ≤ 11) (hr : r ≤ 11) : coverL [boxPts (bigB p)] 0 c r = if hasB p c r = true then 16 else 0 := by
  have hg : rgsB [boxPts (bigB p)] = true := rgsB4 (box_ps hd)
  have hvb : vbxB (bigB p) = true := by unfold boxOk at hd; simp only [Bool.and_eq_true] at hd; exact hd.1
  have key : ∀ i k, i < 4 → k < 4 → smpS [boxPts (bigB p)] 0 c r i k = (fun _ _ => hasB p c r) i k := by
    intro i k hi hk
    have hb := box_wind hd (x := 16 * (c : Int) + 4 * (k : Int) + 2) (y := 16 * (r : Int) + 4 * (i : Int) + 2) (by omega) (by omega)
    unfold insA insideL at hb
    rw [hg, inB_iff.2 (show -1000 ≤ 16 * (c : Int) + 4 * (k : Int) + 2 ∧ 16 * (c : Int) + 4 * (k : Int) + 2 ≤ 1000 by omega), inB_iff.2 (show -1000 ≤ 16 * (r : Int) + 4 * (i : Int) + 2 ∧ 16 * (r : Int) + 4 * (i : Int) + 2 ≤ 1000 by omega), if_neg (by decide)] at hb
    unfold smpS insB
    rw [if_neg (by decide)]
    have hb2 : (windL [boxPts (bigB p)] (16 * (c : Int) + 4 * (k : Int) + 2) (16 * (r : Int) + 4 * (i : Int) + 2) != 0) = hasB (bigB p) (16 * (c : Int) + 4 * (k : Int) + 2) (16 * (r : Int) + 4 * (i : Int) + 2) := by simpa using hb
    have e1 : decide (windL [boxPts (bigB p)] (16 * (c : Int) + 4 * (k : Int) + 2) (16 * (r : Int) + 4 * (i : Int) + 2) ≠ 0) = (windL [boxPts (bigB p)] (16 * (c : Int) + 4 * (k : Int) + 2) (16 * (r : Int) + 4 * (i : Int) + 2) != 0) := by
      rw [Bool.eq_iff_iff]; simp
    rw [e1, hb2]
    unfold hasB
    rw [hvb, hv, Bool.eq_iff_iff]
    simp only [Bool.true_and, Bool.and_eq_true, inB_iff, bigB]
    omega
  unfold coverL
  rw [cnt_congr key]
  cases hasB p c r <;> rfl
theorem flat12 (g : Nat → List Int) (hg : ∀ a, (g a).length = 12) : ∀ (n k : Nat), k < 12 * n → ((List.range n).flatMap g)[k]? = (g (k / 12))[k % 12]?
  | 0, k, h => by omega
  | n + 1, k, h => by
    have hl : ((List.range n).flatMap g).length = 12 * n := by
      have : ∀ m, ((List.range m).flatMap g).length = 12 * m := by
        intro m
        induction m with
        | zero => rfl
        | succ m ih => rw [List.range_succ, List.flatMap_append, List.length_append, ih]; simp [hg]; omega
      exact this n
    rw [List.range_succ, List.flatMap_append]
    by_cases hk : k < 12 * n
    · rw [List.getElem?_append_left (by omega)]
      exact flat12 g hg n k hk
    · rw [List.getElem?_append_right (by omega), hl]
      have e1 : k / 12 = n := by omega
      have e2 : k % 12 = k - 12 * n := by omega
      rw [e1, e2]
      simp
theorem cellsM_get (f : Nat → Nat → Int) {k : Nat} (h : k < 144) : (cellsM f 12 12 0)[k]? = some (f (k / 12) (k % 12)) := by
  unfold cellsM
  rw [List.range_zero, List.map_nil, List.append_nil, flat12 _ (fun a => by simp) 12 k (by omega)]
  have h2 : k % 12 < 12 := by omega
  simp [h2]
set_option maxRecDepth 100000 in
set_option maxHeartbeats 2000000 in
theorem c_PixelBox (l t r b : Int) (w : World) (hv : vbxB (l, t, r, b) = true) : Calls Try.prog 52 #[bxV (l, t, r, b)] w fun e w' => e = .returned (bxV (pixB (l, t, r, b))) ∧ Below w.heap.size w w' := by
  have HV := Lib.hid hv
  have hb := hv
  unfold vbxB at hb
  simp only [decide_eq_true_eq] at hb
  have E := Lib.hid (Below.refl w.heap.size w)
  have K1 := Lib.hid (fun W => c_floor l 16 W (by omega) (by omega) (by omega) (by omega))
  have K2 := Lib.hid (fun W => c_floor t 16 W (by omega) (by omega) (by omega) (by omega))
  have K3 := Lib.hid (fun W => c_floor r 16 W (by omega) (by omega) (by omega) (by omega))
  have K4 := Lib.hid (fun W => c_floor b 16 W (by omega) (by omega) (by omega) (by omega))
  have g3 : IntKind.i64.wrap (r / 16 + 1) = r / 16 + 1 := IntWalk.i64_in _ (by omega)
  have g4 : IntKind.i64.wrap (b / 16 + 1) = b / 16 + 1 := IntWalk.i64_in _ (by omega)
  have G := Lib.hid (And.intro g3 g4)
  have hpx : Hid (pixB (l, t, r, b) = (l / 16, t / 16, r / 16 + 1, b / 16 + 1)) := Lib.hid rfl
  rw [hpx.out]
  generalize l / 16 = l2 at *
  generalize t / 16 = t2 at *
  generalize r / 16 = r2 at *
  generalize b / 16 = b2 at *
  clear hv hb g3 g4
  go_enter Try.func52, Try.ntmps52
  go_wp2_with fail
  first | refine gen_calls ?_ | refine gen_code ?_ | refine gen_list ?_
  intro w0 hW
  obtain ⟨hb, hR1, hR2⟩ := new2 hW
  clear hW
  replace E := Lib.hid (Ext.trans E.out hb)
  clear hb
  have R1 := Lib.hid hR1
  have lR1 := R1.out.lt
  clear hR1
  have R2 := Lib.hid hR2
  have lR2 := R2.out.lt
  clear hR2
  have c0 := R1.out.cell_of (i := 0) rfl
  have c1 := R1.out.cell_of (i := 1) rfl
  have c2 := R1.out.cell_of (i := 2) rfl
  have c3 := R1.out.cell_of (i := 3) rfl
  go_wp2_with fail
  clear c0 c1 c2 c3
  refine (c_boxvalid l t r b _).mono ?_
  rw [HV.out]
  rintro e w1 ⟨rfl, hb⟩
  replace E := Lib.hid (Ext.trans E.out hb)
  replace R1 := Lib.hid (R1.out.ext hb)
  have lR1 := R1.out.lt
  replace R2 := Lib.hid (R2.out.ext hb)
  have lR2 := R2.out.lt
  clear hb
  have c0 := R1.out.cell_of (i := 0) rfl
  have c1 := R1.out.cell_of (i := 1) rfl
  have c2 := R1.out.cell_of (i := 2) rfl
  have c3 := R1.out.cell_of (i := 3) rfl
  go_wp2_with fail
  obtain ⟨g3, g4⟩ := G.out
  refine wp_region_calm [0,1,2,3,4,5,6,7,8,9,10,11,12,13,14] [15] (by kernel_rfl) (by kernel_rfl) ?_
  iterate 2 ((refine calm_yes rfl rfl (fun w' hC => (by have c0 := hC.cell c0; have c1 := hC.cell c1; have c2 := hC.cell c2; have c3 := hC.cell c3; go_simp; rfl)) (fun K hK => ?_); go_simp; refine hK _ ?_; clear hK K))
  (apply calm_call rfl rfl rfl Try.func103 (by kernel_rfl) rfl (by go_simp; rfl); exact (fun w' hC => ext_of_same (K1.out w')); intro K hK; go_simp; refine hK _ ?_; clear hK K)
  iterate 2 ((refine calm_yes rfl rfl (fun w' hC => (by have c0 := hC.cell c0; have c1 := hC.cell c1; have c2 := hC.cell c2; have c3 := hC.cell c3; go_simp; rfl)) (fun K hK => ?_); go_simp; refine hK _ ?_; clear hK K))
  (apply calm_call rfl rfl rfl Try.func103 (by kernel_rfl) rfl (by go_simp; rfl); exact (fun w' hC => ext_of_same (K2.out w')); intro K hK; go_simp; refine hK _ ?_; clear hK K)
  iterate 2 ((refine calm_yes rfl rfl (fun w' hC => (by have c0 := hC.cell c0; have c1 := hC.cell c1; have c2 := hC.cell c2; have c3 := hC.cell c3; go_simp; rfl)) (fun K hK => ?_); go_simp; refine hK _ ?_; clear hK K))
  (apply calm_call rfl rfl rfl Try.func103 (by kernel_rfl) rfl (by go_simp; rfl); exact (fun w' hC => ext_of_same (K3.out w')); intro K hK; go_simp; refine hK _ ?_; clear hK K)
  iterate 3 ((refine calm_yes rfl rfl (fun w' hC => (by have c0 := hC.cell c0; have c1 := hC.cell c1; have c2 := hC.cell c2; have c3 := hC.cell c3; go_simp; rfl)) (fun K hK => ?_); go_simp; refine hK _ ?_; clear hK K))
  (apply calm_call rfl rfl rfl Try.func103 (by kernel_rfl) rfl (by go_simp; rfl); exact (fun w' hC => ext_of_same (K4.out w')); intro K hK; go_simp; refine hK _ ?_; clear hK K)
  iterate 2 ((refine calm_yes rfl rfl (fun w' hC => (by have c0 := hC.cell c0; have c1 := hC.cell c1; have c2 := hC.cell c2; have c3 := hC.cell c3; go_simp; rfl)) (fun K hK => ?_); go_simp; refine hK _ ?_; clear hK K))
  refine calm_nil (fun wa hCa => ?_)
  clear c0 c1 c2 c3 g3 g4
  refine late_free (by kernel_rfl) rfl rfl (fun wd hxd K hK => ?_)
  have Ed : Ext w1 wd := Ext.trans (ext_cls hCa) hxd
  have Q := R2.out.ext Ed
  have y0 := Q.cell_of (i := 0) rfl
  have y1 := Q.cell_of (i := 1) rfl
  have y2 := Q.cell_of (i := 2) rfl
  have y3 := Q.cell_of (i := 3) rfl
  have f0 := Q.frozen 0
  have f1 := Q.frozen 1
  have f2 := Q.frozen 2
  have f3 := Q.frozen 3
  go_simp
  refine hK _ _ ?_
  clear hK K y0 y1 y2 y3 f0 f1 f2 f3
  refine late_nil (fun wz hxz => ?_)
  have Z := ((((Q.set_ 0 (.int .i64 l2)).set_ 1 (.int .i64 t2)).set_ 2 (.int .i64 (r2 + 1))).set_ 3 (.int .i64 (b2 + 1))).ext hxz
  have e0 := Z.cell_of (i := 0) rfl
  have e1 := Z.cell_of (i := 1) rfl
  have e2 := Z.cell_of (i := 2) rfl
  have e3 := Z.cell_of (i := 3) rfl
  have EZ := Lib.hid (Ext.trans (((((Ext.trans E.out Ed).setCell (p := ⟨w.heap.size + 1, 0, none⟩) (by simp) (.int .i64 l2)).setCell (p := ⟨w.heap.size + 1, 1, none⟩) (by simp) (.int .i64 t2)).setCell (p := ⟨w.heap.size + 1, 2, none⟩) (by simp) (.int .i64 (r2 + 1))).setCell (p := ⟨w.heap.size + 1, 3, none⟩) (by simp) (.int .i64 (b2 + 1))) hxz)
  clear Q Z hxz hxd hCa Ed
  go_wp2
  exact bodyPost_ret (v := bxV (l2, t2, r2 + 1, b2 + 1)) (by simp [results, Try.results52, go_sem, e0, e1, e2, e3]) rfl ⟨rfl, EZ.out⟩
end Go.Proofs.Ytnclnmciaehgeaa
