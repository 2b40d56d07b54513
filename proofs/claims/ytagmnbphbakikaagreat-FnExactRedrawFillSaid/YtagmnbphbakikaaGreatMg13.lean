/-
  Several texts in one: PixC, PixW.
-/
import Derived.Test.YtagmnbphbakikaaGreatMg12
import Derived.Test.YtagmnbphbakikaaGreatMg1
import Derived.Test.YtagmnbphbakikaaGreatMg8
import Derived.Test.YtagmnbphbakikaaGreatMg25
import Derived.Test.YtagmnbphbakikaaGreatRingsI
import Derived.Test.YtagmnbphbakikaaGreatRingsS
namespace Go.Proofs.YtagmnbphbakikaaGreat
open Go Go.RowKit Reg
attribute [local go_sem] calmAt calmUpon
set_option maxRecDepth 100000 in
set_option maxHeartbeats 4000000 in
theorem c_scaled (c : Bx4) (part whole : Int) (w : World) (hc : coB c = true) (hp : 0 ≤ part ∧ part ≤ 255) (hw : 0 < whole ∧ whole ≤ 255) :
    Calls Tryz.prog 106 #[bx4V c, .int .i64 part, .int .i64 whole] w fun e w' => e = .returned (bx4V (scL c part whole)) ∧ Below w.heap.size w w' := by
  obtain ⟨⟨a10, a11⟩, ⟨a20, a21⟩, ⟨a30, a31⟩, a40, a41⟩ := coB_bd hc
  obtain ⟨x1, x2, x3, x4⟩ := c
  dsimp only at a10 a11 a20 a21 a30 a31 a40 a41
  clear hc
  obtain ⟨p1, q1⟩ := mul_nn_bd a10 a11 hp.1 hp.2
  obtain ⟨p2, q2⟩ := mul_nn_bd a20 a21 hp.1 hp.2
  obtain ⟨p3, q3⟩ := mul_nn_bd a30 a31 hp.1 hp.2
  obtain ⟨p4, q4⟩ := mul_nn_bd a40 a41 hp.1 hp.2
  have f1 : IntKind.i64.wrap (x1 * part) = x1 * part := IntWalk.i64_in _ (by omega)
  have f2 : IntKind.i64.wrap (x2 * part) = x2 * part := IntWalk.i64_in _ (by omega)
  have f3 : IntKind.i64.wrap (x3 * part) = x3 * part := IntWalk.i64_in _ (by omega)
  have f4 : IntKind.i64.wrap (x4 * part) = x4 * part := IntWalk.i64_in _ (by omega)
  have N1 := Lib.hid (fun W => c_nearest (x1 * part) whole W (by omega) (by omega) (by omega) (by omega))
  have N2 := Lib.hid (fun W => c_nearest (x2 * part) whole W (by omega) (by omega) (by omega) (by omega))
  have N3 := Lib.hid (fun W => c_nearest (x3 * part) whole W (by omega) (by omega) (by omega) (by omega))
  have N4 := Lib.hid (fun W => c_nearest (x4 * part) whole W (by omega) (by omega) (by omega) (by omega))
  have HF := Lib.hid (And.intro f1 (And.intro f2 (And.intro f3 f4)))
  clear f1 f2 f3 f4 p1 p2 p3 p4 q1 q2 q3 q4
  have E := Lib.hid (Below.refl w.heap.size w)
  obtain ⟨M, hM⟩ : ∃ M, scL (x1, x2, x3, x4) part whole = M := ⟨_, rfl⟩
  have HM := Lib.hid hM
  rw [hM]
  clear hM
  go_enter Tryz.func106, Tryz.ntmps106
  go_wp2_with fail
  first | refine gen_calls ?_ | refine gen_code ?_ | refine gen_list ?_
  intro w1 hW
  obtain ⟨hb, hA, hZ⟩ := new2 hW
  clear hW
  replace E := Lib.hid (Ext.trans E.out hb)
  clear hb
  have A := Lib.hid hA
  have lA := A.out.lt
  clear hA
  have Z := Lib.hid hZ
  have lZ := Z.out.lt
  clear hZ
  have c0 := A.out.cell_of (i := 0) rfl
  have c1 := A.out.cell_of (i := 1) rfl
  have c2 := A.out.cell_of (i := 2) rfl
  have c3 := A.out.cell_of (i := 3) rfl
  go_wp2_with fail
  obtain ⟨f1, f2, f3, f4⟩ := HF.out
  refine wp_region_calm [0,1,2,3,4,5,6,7,8,9,10,11,12,13,14,15,16,17,18,19,20,21,22,23,24] [25] (by kernel_rfl) (by kernel_rfl) ?_
  iterate 5 ((refine calm_yes rfl rfl (fun w' hC => (by have c0 := hC.cell c0; have c1 := hC.cell c1; have c2 := hC.cell c2; have c3 := hC.cell c3; go_simp; rfl)) (fun K hK => ?_); go_simp; refine hK _ ?_; clear hK K))
  (apply calm_call rfl rfl rfl Tryz.func144 (by kernel_rfl) rfl (by go_simp; rfl); exact (fun w' hC => ext_of_same (N1.out w')); intro K hK; go_simp; refine hK _ ?_; clear hK K)
  iterate 5 ((refine calm_yes rfl rfl (fun w' hC => (by have c0 := hC.cell c0; have c1 := hC.cell c1; have c2 := hC.cell c2; have c3 := hC.cell c3; go_simp; rfl)) (fun K hK => ?_); go_simp; refine hK _ ?_; clear hK K))
  (apply calm_call rfl rfl rfl Tryz.func144 (by kernel_rfl) rfl (by go_simp; rfl); exact (fun w' hC => ext_of_same (N2.out w')); intro K hK; go_simp; refine hK _ ?_; clear hK K)
  iterate 5 ((refine calm_yes rfl rfl (fun w' hC => (by have c0 := hC.cell c0; have c1 := hC.cell c1; have c2 := hC.cell c2; have c3 := hC.cell c3; go_simp; rfl)) (fun K hK => ?_); go_simp; refine hK _ ?_; clear hK K))
  (apply calm_call rfl rfl rfl Tryz.func144 (by kernel_rfl) rfl (by go_simp; rfl); exact (fun w' hC => ext_of_same (N3.out w')); intro K hK; go_simp; refine hK _ ?_; clear hK K)
  iterate 5 ((refine calm_yes rfl rfl (fun w' hC => (by have c0 := hC.cell c0; have c1 := hC.cell c1; have c2 := hC.cell c2; have c3 := hC.cell c3; go_simp; rfl)) (fun K hK => ?_); go_simp; refine hK _ ?_; clear hK K))
  (apply calm_call rfl rfl rfl Tryz.func144 (by kernel_rfl) rfl (by go_simp; rfl); exact (fun w' hC => ext_of_same (N4.out w')); intro K hK; go_simp; refine hK _ ?_; clear hK K)
  (refine calm_yes rfl rfl (fun w' hC => (by go_simp; rfl)) (fun K hK => ?_); go_simp; refine hK _ ?_; clear hK K)
  clear f1 f2 f3 f4
  clear c0 c1 c2 c3
  refine calm_nil (fun w2 hC2 => ?_)
  refine late_free (by kernel_rfl) rfl rfl (fun w3 hx3 K' hK => ?_)
  have E3 := Ext.trans (ext_cls hC2) hx3
  have S3 := Z.out.ext E3
  have E4 := Ext.trans E.out E3
  have e0 := S3.cell_of (i := 0) rfl
  have e1 := S3.cell_of (i := 1) rfl
  have e2 := S3.cell_of (i := 2) rfl
  have e3 := S3.cell_of (i := 3) rfl
  have z0 := S3.frozen 0
  have z1 := S3.frozen 1
  have z2 := S3.frozen 2
  have z3 := S3.frozen 3
  go_simp
  refine hK _ _ ?_
  clear hK K'
  refine late_nil (fun w4 hx4 => ?_)
  have S4 := (((((S3.set_ 0 (.int .i64 (rndL (x1 * part) whole))).set_ 1 (.int .i64 (rndL (x2 * part) whole))).set_ 2 (.int .i64 (rndL (x3 * part) whole))).set_ 3 (.int .i64 (rndL (x4 * part) whole)))).ext hx4
  have B4 : Ext w w4 := Ext.trans ((((E4.setCell (by simp) _).setCell (by simp) _).setCell (by simp) _).setCell (by simp) _) hx4
  have g0 := S4.cell_of (i := 0) rfl
  have g1 := S4.cell_of (i := 1) rfl
  have g2 := S4.cell_of (i := 2) rfl
  have g3 := S4.cell_of (i := 3) rfl
  clear e0 e1 e2 e3 z0 z1 z2 z3 S3 E3 E4 hx3 hx4 hC2 S4
  go_wp2_with fail
  exact bodyPost_ret (v := bx4V M) (by rw [← HM.out]; simp [results, Tryz.results106, go_sem, g0, g1, g2, g3, scL]) rfl ⟨rfl, B4⟩
set_option maxRecDepth 100000 in
set_option maxHeartbeats 4000000 in
theorem c_over (a b : Bx4) (w : World) (ha : coB a = true) (hb : coB b = true) :
    Calls Tryz.prog 105 #[bx4V a, bx4V b] w fun e w' => e = .returned (bx4V (ovL a b)) ∧ Below w.heap.size w w' := by
  have hab := coB_ov ha hb
  obtain ⟨⟨a10, a11⟩, ⟨a20, a21⟩, ⟨a30, a31⟩, a40, a41⟩ := coB_bd ha
  obtain ⟨⟨b10, b11⟩, ⟨b20, b21⟩, ⟨b30, b31⟩, b40, b41⟩ := coB_bd hab
  obtain ⟨x1, x2, x3, x4⟩ := a
  dsimp only [ovL] at a10 a11 a20 a21 a30 a31 a40 a41 b10 b11 b20 b21 b30 b31 b40 b41
  have KS := Lib.hid (fun W => c_scaled b (255 - x4) 255 W hb (by omega) (by omega))
  have E := Lib.hid (Below.refl w.heap.size w)
  obtain ⟨S, hS⟩ : ∃ S, scL b (255 - x4) 255 = S := ⟨_, rfl⟩
  have hO : ovL (x1, x2, x3, x4) b = (x1 + S.1, x2 + S.2.1, x3 + S.2.2.1, x4 + S.2.2.2) := by rw [← hS]; rfl
  have e1 : rndL (b.1 * (255 - x4)) 255 = S.1 := by rw [← hS]; rfl
  have e2 : rndL (b.2.1 * (255 - x4)) 255 = S.2.1 := by rw [← hS]; rfl
  have e3 : rndL (b.2.2.1 * (255 - x4)) 255 = S.2.2.1 := by rw [← hS]; rfl
  have e4 : rndL (b.2.2.2 * (255 - x4)) 255 = S.2.2.2 := by rw [← hS]; rfl
  rw [e1] at b10 b11
  rw [e2] at b20 b21
  rw [e3] at b30 b31
  rw [e4] at b40 b41
  rw [hS] at KS
  rw [hO]
  clear hS hO e1 e2 e3 e4 ha hb hab
  obtain ⟨y1, y2, y3, y4⟩ := b
  obtain ⟨s1, s2, s3, s4⟩ := S
  dsimp only at b10 b11 b20 b21 b30 b31 b40 b41 ⊢
  go_enter Tryz.func105, Tryz.ntmps105
  go_wp2_with fail
  first | refine gen_calls ?_ | refine gen_code ?_ | refine gen_list ?_
  intro w1 hW
  obtain ⟨hb, hA, hB, hZ⟩ := new3 hW
  clear hW
  replace E := Lib.hid (Ext.trans E.out hb)
  clear hb
  have A := Lib.hid hA
  have lA := A.out.lt
  clear hA
  have B := Lib.hid hB
  have lB := B.out.lt
  clear hB
  have Z := Lib.hid hZ
  have lZ := Z.out.lt
  clear hZ
  have a0 := A.out.cell_of (i := 0) rfl
  have a1 := A.out.cell_of (i := 1) rfl
  have a2 := A.out.cell_of (i := 2) rfl
  have a3 := A.out.cell_of (i := 3) rfl
  have b0 := B.out.cell_of (i := 0) rfl
  have b1 := B.out.cell_of (i := 1) rfl
  have b2 := B.out.cell_of (i := 2) rfl
  have b3 := B.out.cell_of (i := 3) rfl
  go_wp2_with fail
  clear a0 a1 a2 a3 b0 b1 b2 b3
  refine (KS.out _).mono ?_
  rintro e w2 ⟨rfl, hb⟩
  replace E := Lib.hid (Ext.trans E.out hb)
  replace A := Lib.hid (A.out.ext hb)
  have lA := A.out.lt
  replace B := Lib.hid (B.out.ext hb)
  have lB := B.out.lt
  replace Z := Lib.hid (Z.out.ext hb)
  have lZ := Z.out.lt
  clear hb
  have a0 := A.out.cell_of (i := 0) rfl
  have a1 := A.out.cell_of (i := 1) rfl
  have a2 := A.out.cell_of (i := 2) rfl
  have a3 := A.out.cell_of (i := 3) rfl
  have b0 := B.out.cell_of (i := 0) rfl
  have b1 := B.out.cell_of (i := 1) rfl
  have b2 := B.out.cell_of (i := 2) rfl
  have b3 := B.out.cell_of (i := 3) rfl
  clear a0 a1 a2 a3 b0 b1 b2 b3
  have a0 := A.out.cell_of (i := 0) rfl
  have a1 := A.out.cell_of (i := 1) rfl
  have a2 := A.out.cell_of (i := 2) rfl
  have a3 := A.out.cell_of (i := 3) rfl
  have b0 := B.out.cell_of (i := 0) rfl
  have b1 := B.out.cell_of (i := 1) rfl
  have b2 := B.out.cell_of (i := 2) rfl
  have b3 := B.out.cell_of (i := 3) rfl
  have z0 := Z.out.cell_of (i := 0) rfl
  have zz0 := Z.out.frozen 0
  have z1 := Z.out.cell_of (i := 1) rfl
  have zz1 := Z.out.frozen 1
  have z2 := Z.out.cell_of (i := 2) rfl
  have zz2 := Z.out.frozen 2
  have z3 := Z.out.cell_of (i := 3) rfl
  have zz3 := Z.out.frozen 3
  have g1 : IntKind.i64.wrap (x1 + s1) = x1 + s1 := IntWalk.i64_in _ (by omega)
  have g2 : IntKind.i64.wrap (x2 + s2) = x2 + s2 := IntWalk.i64_in _ (by omega)
  have g3 : IntKind.i64.wrap (x3 + s3) = x3 + s3 := IntWalk.i64_in _ (by omega)
  have g4 : IntKind.i64.wrap (x4 + s4) = x4 + s4 := IntWalk.i64_in _ (by omega)
  go_wp2_with fail
  refine gen_post (fun W hW => ?_)
  have R : Row W (w.heap.size + 2) 118 (bxC (x1 + s1, x2 + s2, x3 + s3, x4 + s4)) := by rw [hW]; exact ((((Z.out.set_ 0 _).set_ 1 _).set_ 2 _).set_ 3 _).alloc _
  have B4 := ((((E.out.setCell (p := ⟨w.heap.size + 2, 0, none⟩) (by simp) (.int .i64 (x1 + s1))).setCell (p := ⟨w.heap.size + 2, 1, none⟩) (by simp) (.int .i64 (x2 + s2))).setCell (p := ⟨w.heap.size + 2, 2, none⟩) (by simp) (.int .i64 (x3 + s3))).setCell (p := ⟨w.heap.size + 2, 3, none⟩) (by simp) (.int .i64 (x4 + s4)))
  have BW : Below w.heap.size w W := by rw [hW]; exact B4.alloc B4.size _
  have y0 := R.cell_of (i := 0) rfl
  have y1 := R.cell_of (i := 1) rfl
  have y2 := R.cell_of (i := 2) rfl
  have y3 := R.cell_of (i := 3) rfl
  exact bodyPost_ret (v := bx4V (x1 + s1, x2 + s2, x3 + s3, x4 + s4)) (by simp [results, Tryz.results105, go_sem, y0, y1, y2, y3]) rfl ⟨rfl, BW⟩
theorem c_cover1 (x y t : Int) (g : Nat) (w : World) (hx : 0 ≤ x ∧ x ≤ 255) (ht : 0 ≤ t ∧ t ≤ 16) (hr : w.cell? ⟨g, 0, none⟩ = some (.int .i64 t)) :
    Calls Tryz.prog 159 (#[.int .i64 x, .int .i64 y] ++ #[.pointer (some ⟨g, 0, none⟩)]) w fun e w' => e = .returned (.int .i64 (rndL (x * t) 16)) ∧ w = w' := by
  obtain ⟨p1, p2⟩ := mul_nn_bd hx.1 hx.2 ht.1 ht.2
  show Calls Tryz.prog 159 #[.int .i64 x, .int .i64 y, .pointer (some ⟨g, 0, none⟩)] w _
  go_enter Tryz.func159, Tryz.ntmps159
  go_wp2_with fail
  refine (c_round (x * t) 16 w (by decide) (by decide) (by omega) (by omega)).mono ?_; rintro e w' ⟨rfl, rfl⟩
  go_wp2
  go_ret
  exact ⟨rfl, rfl⟩
set_option maxRecDepth 100000 in
set_option maxHeartbeats 4000000 in
theorem c_CoverColor (c : Bx4) (t : Int) (w : World) (hc : coB c = true) (ht : 0 ≤ t ∧ t ≤ 16) :
    Calls Tryz.prog 121 #[bx4V c, .int .i64 t] w fun e w' => e = .returned (bx4V (scL c t 16)) ∧ Below w.heap.size w w' := by
  have Bc := Lib.hid (coB_bd hc)
  have Hc := Lib.hid hc
  have Ht := Lib.hid ht
  have Hin : Hid (inB t 0 16 = true) := Lib.hid (inB_iff.2 ht)
  have E := Lib.hid (Below.refl w.heap.size w)
  obtain ⟨M, hM⟩ : ∃ M, scL c t 16 = M := ⟨_, rfl⟩
  rw [hM]
  have HM := Lib.hid hM
  clear hM hc ht
  go_enter Tryz.func121, Tryz.ntmps121
  go_wp2_with fail
  first | refine gen_calls ?_ | refine gen_code ?_ | refine gen_list ?_
  intro w1 hW
  obtain ⟨hb, hA, hT, hZ⟩ := new3 hW
  clear hW
  replace E := Lib.hid (Ext.trans E.out hb)
  clear hb
  have A := Lib.hid hA
  have lA := A.out.lt
  clear hA
  have T := Lib.hid hT
  have lT := T.out.lt
  clear hT
  have Z := Lib.hid hZ
  have lZ := Z.out.lt
  clear hZ
  have a0 := A.out.cell_of (i := 0) rfl
  have a1 := A.out.cell_of (i := 1) rfl
  have a2 := A.out.cell_of (i := 2) rfl
  have a3 := A.out.cell_of (i := 3) rfl
  have t0 := T.out.cell_of (i := 0) rfl
  go_wp2_with fail
  clear a0 a1 a2 a3 t0
  refine (c_ValidColor c _).mono ?_
  rw [Hc.out]
  rintro e w2 ⟨rfl, hb⟩
  replace E := Lib.hid (Ext.trans E.out hb)
  replace A := Lib.hid (A.out.ext hb)
  have lA := A.out.lt
  replace T := Lib.hid (T.out.ext hb)
  have lT := T.out.lt
  replace Z := Lib.hid (Z.out.ext hb)
  have lZ := Z.out.lt
  clear hb
  have a0 := A.out.cell_of (i := 0) rfl
  have a1 := A.out.cell_of (i := 1) rfl
  have a2 := A.out.cell_of (i := 2) rfl
  have a3 := A.out.cell_of (i := 3) rfl
  have t0 := T.out.cell_of (i := 0) rfl
  go_wp2_with fail
  refine (c_in t 0 16 _).mono ?_
  rw [Hin.out]
  rintro e w' ⟨rfl, rfl⟩
  go_wp2_with fail
  clear a0 a1 a2 a3 t0
  have hq : Calls Tryz.prog 156 #[bx4V c, bx4V c, .func (.func 159) #[] #[.pointer (some ⟨w.heap.size + 1, 0, none⟩)]] w2 fun e w' => e = .returned (bx4V (scL c t 16)) ∧ Below w2.heap.size w2 w' :=
    c_each 159 _ _ Tryz.func159 (by kernel_rfl) rfl (fun x _ => rndL (x * t) 16) c c w2 (fun W hW x y hxy => c_cover1 x y t _ W (by have := Bc.out; omega) Ht.out ((T.out.ext hW).cell_of (i := 0) rfl))
  refine hq.mono ?_
  rw [HM.out]
  rintro e w3 ⟨rfl, hb⟩
  clear hq
  replace E := Lib.hid (Ext.trans E.out hb)
  replace A := Lib.hid (A.out.ext hb)
  have lA := A.out.lt
  replace T := Lib.hid (T.out.ext hb)
  have lT := T.out.lt
  replace Z := Lib.hid (Z.out.ext hb)
  have lZ := Z.out.lt
  clear hb
  have a0 := A.out.cell_of (i := 0) rfl
  have a1 := A.out.cell_of (i := 1) rfl
  have a2 := A.out.cell_of (i := 2) rfl
  have a3 := A.out.cell_of (i := 3) rfl
  have t0 := T.out.cell_of (i := 0) rfl
  clear a0 a1 a2 a3 t0
  have z0 := Z.out.cell_of (i := 0) rfl
  have zz0 := Z.out.frozen 0
  have z1 := Z.out.cell_of (i := 1) rfl
  have zz1 := Z.out.frozen 1
  have z2 := Z.out.cell_of (i := 2) rfl
  have zz2 := Z.out.frozen 2
  have z3 := Z.out.cell_of (i := 3) rfl
  have zz3 := Z.out.frozen 3
  go_wp2_with fail
  exact bodyPost_ret (v := bx4V M) (by simp [results, Tryz.results121, go_sem, z0, z1, z2, z3]) rfl ⟨rfl, (((E.out.setCell (by simp; omega) _).setCell (by simp; omega) _).setCell (by simp; omega) _).setCell (by simp; omega) _⟩
theorem c_over1 (x y t : Int) (g : Nat) (w : World) (hx : 0 ≤ x ∧ x ≤ 255) (hy : 0 ≤ y ∧ y ≤ 255) (ht : 0 ≤ t ∧ t ≤ 255) (hr : w.cell? ⟨g, 3, none⟩ = some (.int .i64 t)) :
    Calls Tryz.prog 157 (#[.int .i64 x, .int .i64 y] ++ #[.pointer (some ⟨g, 0, none⟩)]) w fun e w' => e = .returned (.int .i64 (x + rndL (y * (255 - t)) 255)) ∧ w = w' := by
  obtain ⟨p1, p2⟩ := mul_nn_bd hy.1 hy.2 (show 0 ≤ 255 - t by omega) (show 255 - t ≤ 255 by omega)
  have r1 := rndL_nn (show (0 : Int) < 255 by decide) p1
  have r2 := rndL_le (show (0 : Int) < 255 by decide) p2
  show Calls Tryz.prog 157 #[.int .i64 x, .int .i64 y, .pointer (some ⟨g, 0, none⟩)] w _
  go_enter Tryz.func157, Tryz.ntmps157
  go_wp2_with fail
  refine (c_round (y * (255 - t)) 255 w (by decide) (by decide) (by omega) (by omega)).mono ?_; rintro e w' ⟨rfl, rfl⟩
  go_wp2
  go_ret
  exact ⟨rfl, rfl⟩
set_option maxRecDepth 100000 in
set_option maxHeartbeats 4000000 in
theorem c_OverColor (a b : Bx4) (w : World) (ha : coB a = true) (hb : coB b = true) :
    Calls Tryz.prog 120 #[bx4V a, bx4V b] w fun e w' => e = .returned (bx4V (ovL a b)) ∧ Below w.heap.size w w' := by
  have Ba := Lib.hid (coB_bd ha)
  have Bb := Lib.hid (coB_bd hb)
  have Ha := Lib.hid ha
  have Hb := Lib.hid hb
  have E := Lib.hid (Below.refl w.heap.size w)
  obtain ⟨M, hM⟩ : ∃ M, ovL a b = M := ⟨_, rfl⟩
  rw [hM]
  have HM := Lib.hid hM
  clear hM ha hb
  go_enter Tryz.func120, Tryz.ntmps120
  go_wp2_with fail
  first | refine gen_calls ?_ | refine gen_code ?_ | refine gen_list ?_
  intro w1 hW
  obtain ⟨hb, hA, hB, hZ⟩ := new3 hW
  clear hW
  replace E := Lib.hid (Ext.trans E.out hb)
  clear hb
  have A := Lib.hid hA
  have lA := A.out.lt
  clear hA
  have B := Lib.hid hB
  have lB := B.out.lt
  clear hB
  have Z := Lib.hid hZ
  have lZ := Z.out.lt
  clear hZ
  have a0 := A.out.cell_of (i := 0) rfl
  have a1 := A.out.cell_of (i := 1) rfl
  have a2 := A.out.cell_of (i := 2) rfl
  have a3 := A.out.cell_of (i := 3) rfl
  have b0 := B.out.cell_of (i := 0) rfl
  have b1 := B.out.cell_of (i := 1) rfl
  have b2 := B.out.cell_of (i := 2) rfl
  have b3 := B.out.cell_of (i := 3) rfl
  go_wp2_with fail
  clear a0 a1 a2 a3 b0 b1 b2 b3
  refine (c_ValidColor a _).mono ?_
  rw [Ha.out]
  rintro e w2 ⟨rfl, hb⟩
  replace E := Lib.hid (Ext.trans E.out hb)
  replace A := Lib.hid (A.out.ext hb)
  have lA := A.out.lt
  replace B := Lib.hid (B.out.ext hb)
  have lB := B.out.lt
  replace Z := Lib.hid (Z.out.ext hb)
  have lZ := Z.out.lt
  clear hb
  have a0 := A.out.cell_of (i := 0) rfl
  have a1 := A.out.cell_of (i := 1) rfl
  have a2 := A.out.cell_of (i := 2) rfl
  have a3 := A.out.cell_of (i := 3) rfl
  have b0 := B.out.cell_of (i := 0) rfl
  have b1 := B.out.cell_of (i := 1) rfl
  have b2 := B.out.cell_of (i := 2) rfl
  have b3 := B.out.cell_of (i := 3) rfl
  go_wp2_with fail
  clear a0 a1 a2 a3 b0 b1 b2 b3
  refine (c_ValidColor b _).mono ?_
  rw [Hb.out]
  rintro e w3 ⟨rfl, hb⟩
  replace E := Lib.hid (Ext.trans E.out hb)
  replace A := Lib.hid (A.out.ext hb)
  have lA := A.out.lt
  replace B := Lib.hid (B.out.ext hb)
  have lB := B.out.lt
  replace Z := Lib.hid (Z.out.ext hb)
  have lZ := Z.out.lt
  clear hb
  have a0 := A.out.cell_of (i := 0) rfl
  have a1 := A.out.cell_of (i := 1) rfl
  have a2 := A.out.cell_of (i := 2) rfl
  have a3 := A.out.cell_of (i := 3) rfl
  have b0 := B.out.cell_of (i := 0) rfl
  have b1 := B.out.cell_of (i := 1) rfl
  have b2 := B.out.cell_of (i := 2) rfl
  have b3 := B.out.cell_of (i := 3) rfl
  go_wp2_with fail
  clear a0 a1 a2 a3 b0 b1 b2 b3
  have hq : Calls Tryz.prog 156 #[bx4V a, bx4V b, .func (.func 157) #[] #[.pointer (some ⟨w.heap.size, 0, none⟩)]] w3 fun e w' => e = .returned (bx4V (ovL a b)) ∧ Below w3.heap.size w3 w' :=
    c_each 157 _ _ Tryz.func157 (by kernel_rfl) rfl (fun x y => x + rndL (y * (255 - a.2.2.2)) 255) a b w3 (fun W hW x y hxy => c_over1 x y a.2.2.2 _ W (by have := Ba.out; omega) (by have := Bb.out; omega) (by have := Ba.out; omega) ((A.out.ext hW).cell_of (i := 3) rfl))
  refine hq.mono ?_
  rw [HM.out]
  rintro e w4 ⟨rfl, hb⟩
  clear hq
  replace E := Lib.hid (Ext.trans E.out hb)
  replace A := Lib.hid (A.out.ext hb)
  have lA := A.out.lt
  replace B := Lib.hid (B.out.ext hb)
  have lB := B.out.lt
  replace Z := Lib.hid (Z.out.ext hb)
  have lZ := Z.out.lt
  clear hb
  have a0 := A.out.cell_of (i := 0) rfl
  have a1 := A.out.cell_of (i := 1) rfl
  have a2 := A.out.cell_of (i := 2) rfl
  have a3 := A.out.cell_of (i := 3) rfl
  have b0 := B.out.cell_of (i := 0) rfl
  have b1 := B.out.cell_of (i := 1) rfl
  have b2 := B.out.cell_of (i := 2) rfl
  have b3 := B.out.cell_of (i := 3) rfl
  clear a0 a1 a2 a3 b0 b1 b2 b3
  have z0 := Z.out.cell_of (i := 0) rfl
  have zz0 := Z.out.frozen 0
  have z1 := Z.out.cell_of (i := 1) rfl
  have zz1 := Z.out.frozen 1
  have z2 := Z.out.cell_of (i := 2) rfl
  have zz2 := Z.out.frozen 2
  have z3 := Z.out.cell_of (i := 3) rfl
  have zz3 := Z.out.frozen 3
  go_wp2_with fail
  exact bodyPost_ret (v := bx4V M) (by simp [results, Tryz.results120, go_sem, z0, z1, z2, z3]) rfl ⟨rfl, (((E.out.setCell (by simp; omega) _).setCell (by simp; omega) _).setCell (by simp; omega) _).setCell (by simp; omega) _⟩
end Go.Proofs.YtagmnbphbakikaaGreat
namespace Go.Proofs.YtagmnbphbakikaaGreat
open Go Go.RowKit Reg
attribute [local go_sem] calmAt calmUpon
theorem cap_ok {A : Option Addr} {n c : Nat} (h : SlOk A n c) : n ≤ c := h.2.1
theorem bxC_row {w : World} {g : Nat} {e : TypeId} {a b : Bx4} (h : Row w g e (bxC a)) : Row ((((w.setCell ⟨g, 0, none⟩ (.int .i64 b.1)).setCell ⟨g, 1, none⟩ (.int .i64 b.2.1)).setCell ⟨g, 2, none⟩ (.int .i64 b.2.2.1)).setCell ⟨g, 3, none⟩ (.int .i64 b.2.2.2)) g e (bxC b) := (((h.set_ 0 _).set_ 1 _).set_ 2 _).set_ 3 _
theorem set4_below {B : Nat} {w w' : World} {g : Nat} (h : Below B w w') (hg : B ≤ g) (a b c d : Value) : Below B w ((((w'.setCell ⟨g, 0, none⟩ a).setCell ⟨g, 1, none⟩ b).setCell ⟨g, 2, none⟩ c).setCell ⟨g, 3, none⟩ d) :=
  (((h.setCell (p := ⟨g, 0, none⟩) hg _).setCell (p := ⟨g, 1, none⟩) hg _).setCell (p := ⟨g, 2, none⟩) hg _).setCell (p := ⟨g, 3, none⟩) hg _
theorem set4_far {w : World} {g b : Nat} {e : TypeId} {cs : List Value} (h : Row w b e cs) (hne : b ≠ g) (x1 x2 x3 x4 : Value) : Row ((((w.setCell ⟨g, 0, none⟩ x1).setCell ⟨g, 1, none⟩ x2).setCell ⟨g, 2, none⟩ x3).setCell ⟨g, 3, none⟩ x4) b e cs :=
  (((h.far (p := ⟨g, 0, none⟩) hne _).far (p := ⟨g, 1, none⟩) hne _).far (p := ⟨g, 2, none⟩) hne _).far (p := ⟨g, 3, none⟩) hne _
set_option maxRecDepth 100000 in
set_option maxHeartbeats 8000000 in
theorem c_spixel (W H : Int) (A : Option Addr) (cap : Nat) (fs : List FlD) (c r : Int) (w : World) (h : Fls w A fs) (hv : ∀ f ∈ fs, pathOk f.1 = true ∧ rgsB (ringsL f.1) = true ∧ inB f.2.1 0 1 = true ∧ paB f.2.2.1 f.2.2.2.1 f.2.2.2.2 = true) (hl : fs.length ≤ 4) (hc : inB c 0 11 = true) (hr : inB r 0 11 = true) :
    Calls Tryz.prog 69 #[.agg #[.int .i64 W, .int .i64 H, .slice A fs.length cap], .int .i64 c, .int .i64 r] w fun e w' => e = .returned (bx4V (pixL fs c r)) ∧ Below w.heap.size w w' := by
  have PW := Lib.hid h
  have Hv := Lib.hid hv
  have E := Lib.hid (Below.refl w.heap.size w)
  have Hc := Lib.hid hc
  have Hr := Lib.hid hr
  obtain ⟨hc0, hc1⟩ := inB_iff.1 hc
  obtain ⟨hr0, hr1⟩ := inB_iff.1 hr
  have HB : Hid (∀ k, k ≤ fs.length → coB (pixK fs c r k) = true) := Lib.hid (coB_pixK (fun f hf => (hv f hf).2.2.2))
  obtain ⟨M, hM⟩ : ∃ M, pixL fs c r = M := ⟨_, rfl⟩
  have HM : Hid (pixK fs c r fs.length = M) := Lib.hid hM
  rw [hM]
  clear h hv hM hc hr
  go_enter Tryz.func69, Tryz.ntmps69
  go_wp2_with fail
  first | refine gen_calls ?_ | refine gen_code ?_ | refine gen_list ?_
  intro w0 hW
  obtain ⟨hb, hR0, hR1, hR2⟩ := new3 hW
  clear hW
  replace E := Lib.hid (Ext.trans E.out hb)
  clear hb
  have R0 := Lib.hid hR0
  have lR0 := R0.out.lt
  clear hR0
  have R1 := Lib.hid hR1
  have lR1 := R1.out.lt
  clear hR1
  have R2 := Lib.hid hR2
  have lR2 := R2.out.lt
  clear hR2
  obtain ⟨bo, hbo⟩ : ∃ b, w.heap.size + 2 = b := ⟨_, rfl⟩
  obtain ⟨br, hbr⟩ : ∃ b, w.heap.size + 1 = b := ⟨_, rfl⟩
  rw [hbo] at R2 ⊢
  rw [hbr] at R1 ⊢
  have hzo : w.heap.size ≤ bo := by omega
  have hzr : w.heap.size ≤ br := by omega
  have hne1 : w.heap.size ≠ bo := by omega
  have hne2 : br ≠ bo := by omega
  clear hbo hbr
  go_loopw [8] (fun i wr => ∃ k : Nat, k ≤ fs.length ∧ i = .int .i64 k ∧ Row wr bo 118 (bxC (pixK fs c r k)) ∧ Row wr br 118 (bxC (0, 0, 0, 0)) ∧ Row wr w.heap.size 42 [.int .i64 W, .int .i64 H, .slice A fs.length cap] ∧ Ext w wr) (fun i _ => fs.length - (intOf i).toNat)
  case atStart => exact ⟨0, Nat.zero_le _, rfl, R2.out, R1.out, R0.out, E.out⟩
  case round =>
    obtain ⟨k, hk, rfl, hO, hR, hS, hbw⟩ := hrel
    clear E R0 R1 R2
    have E := Lib.hid hbw
    have O := Lib.hid hO
    have R := Lib.hid hR
    have S := Lib.hid hS
    clear hO hR hS hbw
    by_cases hlt : k < fs.length
    · obtain ⟨b, off, hA, _, hcc⟩ := (PW.out.ext flR_stab E.out).fls (by omega)
      obtain ⟨A1, c1, A2, c2, ⟨hvb, _, hst, hsk⟩, x0, x1, x2, x3, x4, x5, x6⟩ := hcc k hlt
      obtain ⟨v1, v2, _, v4⟩ := Hv.out _ (List.getElem_mem hlt)
      have HVb := Lib.hid hvb
      have HSt := Lib.hid hst
      have hcp := hsk.2.1
      have V1 := Lib.hid v1
      have V2 := Lib.hid v2
      have V4 := Lib.hid v4
      have Hs := Lib.hid (pixK_succ (c := c) (r := r) hlt)
      have Hcb := Lib.hid (HB.out k (by omega))
      have HsV := Lib.hid (HB.out (k + 1) (by omega))
      obtain ⟨T, hT⟩ : ∃ T, pixK fs c r k = T := ⟨_, rfl⟩
      rw [hT] at O Hcb Hs
      clear hcc hvb hst hsk v1 v2 v4 hT
      generalize fs[k] = f at *
      obtain ⟨vs, q, ⟨fx, fy⟩, ⟨tx, ty⟩, ss⟩ := f
      dsimp only at x0 x1 x2 x3 x4 x5 x6 HVb HSt hcp V1 V2 V4 Hs
      obtain ⟨Q, hQ⟩ : ∃ Q, ringsL vs = Q := ⟨_, rfl⟩
      have HQ := Lib.hid hQ
      rw [hQ] at V2 Hs
      obtain ⟨K, hK⟩ : ∃ K, coverL Q q c r = K := ⟨_, rfl⟩
      have HK := Lib.hid hK
      have hKb := coverL_bd Q q c r
      rw [hK] at Hs hKb
      obtain ⟨V, hV⟩ : ∃ V, paintL (fx, fy) (tx, ty) ss c r = V := ⟨_, rfl⟩
      have HPV := Lib.hid hV
      have HVc : Hid (coB V = true) := Lib.hid (by rw [← hV]; exact coB_paint V4.out)
      rw [hV] at Hs
      clear hQ hK hV
      have HC2 : Hid (coB (scL V K 16) = true) := Lib.hid (coB_sc HVc.out (by decide) hKb)
      subst hA
      have X0 := Lib.hid x0
      have X1 := Lib.hid x1
      have X2 := Lib.hid x2
      have X3 := Lib.hid x3
      have X4 := Lib.hid x4
      have X5 := Lib.hid x5
      have X6 := Lib.hid x6
      clear x0 x1 x2 x3 x4 x5 x6
      have hkI : (k : Int) < (fs.length : Int) := by omega
      have hkD : decide ((k : Int) < (fs.length : Int)) = true := by simp; omega
      have cX0 := X0.out
      have cX1 := X1.out
      have cX2 := X2.out
      have cX3 := X3.out
      have cX4 := X4.out
      have cX5 := X5.out
      have cX6 := X6.out
      have k0 := S.out.cell_of (i := 0) rfl
      have k1 := S.out.cell_of (i := 1) rfl
      have k2 := S.out.cell_of (i := 2) rfl
      go_wp2_with fail
      clear cX0 cX1 cX2 cX3 cX4 cX5 cX6 k0 k1 k2
      first | refine gen_calls ?_ | refine gen_code ?_ | refine gen_list ?_
      intro w1 hW
      obtain ⟨hb, hF⟩ := new1 hW
      clear hW
      replace E := Lib.hid (Ext.trans E.out hb)
      replace HVb := Lib.hid (HVb.out.ext verbK_stab hb)
      replace HSt := Lib.hid (HSt.out.ext stR_stab hb)
      replace O := Lib.hid (O.out.ext hb)
      have lO := O.out.lt
      replace R := Lib.hid (R.out.ext hb)
      have lR := R.out.lt
      replace S := Lib.hid (S.out.ext hb)
      have lS := S.out.lt
      replace X0 := Lib.hid (Cls.cell hb X0.out)
      replace X1 := Lib.hid (Cls.cell hb X1.out)
      replace X2 := Lib.hid (Cls.cell hb X2.out)
      replace X3 := Lib.hid (Cls.cell hb X3.out)
      replace X4 := Lib.hid (Cls.cell hb X4.out)
      replace X5 := Lib.hid (Cls.cell hb X5.out)
      replace X6 := Lib.hid (Cls.cell hb X6.out)
      clear hb
      have F := Lib.hid hF
      have lF := F.out.lt
      clear hF
      have cX0 := X0.out
      have cX1 := X1.out
      have cX2 := X2.out
      have cX3 := X3.out
      have cX4 := X4.out
      have cX5 := X5.out
      have cX6 := X6.out
      have k0 := S.out.cell_of (i := 0) rfl
      have k1 := S.out.cell_of (i := 1) rfl
      have k2 := S.out.cell_of (i := 2) rfl
      clear cX0 cX1 cX2 cX3 cX4 cX5 cX6 k0 k1 k2
      have f0 := F.out.cell_of (i := 0) rfl
      have f1 := F.out.cell_of (i := 1) rfl
      go_wp2_with fail
      refine wp_region_calm [0,1,3,4,5,6] [2,7,8] (by kernel_rfl) (by kernel_rfl) ?_
      iterate 6 ((refine calm_yes rfl rfl (fun w' hC => (by have f0 := hC.cell f0; have f1 := hC.cell f1; go_simp; rfl)) (fun K hK => ?_); go_simp; refine hK _ ?_; clear hK K))
      refine calm_nil (fun wa hCa => ?_)
      clear f0 f1
      have Ea := ext_cls hCa
      refine late_fn rfl rfl rfl Tryz.func67 (by kernel_rfl) rfl (by go_simp) (fun wb hxb KK hK => (c_srings A1 c1 vs wb (HVb.out.ext verbK_stab (Ext.trans Ea hxb)).toV V1.out).mono ?_)
      rw [HQ.out]
      rintro e wc ⟨A3, cap3, ss3, rfl, ho3, hb⟩
      replace Ea := Ext.trans (Ext.trans Ea hxb) hb
      replace hCa := Cls.ext (Cls.ext hCa hxb) hb
      refine ⟨_, rfl, hK _ _ ⟨fun _ => hCa, ?_⟩⟩
      clear hK KK hxb hb
      refine late_fn rfl rfl rfl Tryz.func104 (by kernel_rfl) rfl (by go_simp) (fun wb hxb KK hK => (c_scover A3 cap3 Q q c r wb (ho3.in_.ext rgR_stab hxb) V2.out (by omega) (by omega)).mono ?_)
      rw [HK.out]
      rintro e wc ⟨rfl, hb⟩
      replace Ea := Ext.trans (Ext.trans Ea hxb) hb
      replace hCa := Cls.ext (Cls.ext hCa hxb) hb
      refine ⟨_, rfl, hK _ _ ⟨fun _ => hCa, ?_⟩⟩
      clear hK KK hxb hb ho3
      refine late_free (by kernel_rfl) rfl rfl (fun wf hxf KK hK => ?_)
      go_simp
      refine hK _ _ ?_
      clear hK KK
      refine late_nil (fun wz hxz => ?_)
      have hb := Ext.trans Ea (Ext.trans hxf hxz)
      clear hxf hxz Ea hCa
      replace E := Lib.hid (Ext.trans E.out hb)
      replace HVb := Lib.hid (HVb.out.ext verbK_stab hb)
      replace HSt := Lib.hid (HSt.out.ext stR_stab hb)
      replace O := Lib.hid (O.out.ext hb)
      have lO := O.out.lt
      replace R := Lib.hid (R.out.ext hb)
      have lR := R.out.lt
      replace S := Lib.hid (S.out.ext hb)
      have lS := S.out.lt
      replace F := Lib.hid (F.out.ext hb)
      have lF := F.out.lt
      clear hb
      have f0 := F.out.cell_of (i := 0) rfl
      have f1 := F.out.cell_of (i := 1) rfl
      clear f0 f1
      have f2 := F.out.cell_of (i := 2) rfl
      have f3 := F.out.cell_of (i := 3) rfl
      have f4 := F.out.cell_of (i := 4) rfl
      have f5 := F.out.cell_of (i := 5) rfl
      have f6 := F.out.cell_of (i := 6) rfl
      have o0 := O.out.cell_of (i := 0) rfl
      have o1 := O.out.cell_of (i := 1) rfl
      have o2 := O.out.cell_of (i := 2) rfl
      have o3 := O.out.cell_of (i := 3) rfl
      go_wp2_with fail
      refine wp_region_calm [0,1,2,3,5,7] [4,6,8,9] (by kernel_rfl) (by kernel_rfl) ?_
      iterate 6 ((refine calm_yes rfl rfl (fun w' hC => (by have f2 := hC.cell f2; have f3 := hC.cell f3; have f4 := hC.cell f4; have f5 := hC.cell f5; have f6 := hC.cell f6; have o0 := hC.cell o0; have o1 := hC.cell o1; have o2 := hC.cell o2; have o3 := hC.cell o3; go_simp; rfl)) (fun K hK => ?_); go_simp; refine hK _ ?_; clear hK K))
      refine calm_nil (fun wa hCa => ?_)
      clear f2 f3 f4 f5 f6 o0 o1 o2 o3
      have Ea := ext_cls hCa
      refine late_fn rfl rfl rfl Tryz.func107 (by kernel_rfl) rfl (by go_simp) (fun wb hxb KK hK => (c_sPaintAt1 (fx, fy) (tx, ty) A2 c2 ss c r wb (HSt.out.ext stR_stab (Ext.trans Ea hxb)) hcp V4.out Hc.out Hr.out).mono ?_)
      rw [HPV.out]
      rintro e wc ⟨rfl, hb⟩
      replace Ea := Ext.trans (Ext.trans Ea hxb) hb
      replace hCa := Cls.ext (Cls.ext hCa hxb) hb
      refine ⟨_, rfl, hK _ _ ⟨fun _ => hCa, ?_⟩⟩
      clear hK KK hxb hb
      refine late_fn rfl rfl rfl Tryz.func106 (by kernel_rfl) rfl (by go_simp) (fun wb hxb KK hK => (c_scaled V K 16 wb HVc.out (by omega) (by omega)).mono ?_)
      rintro e wc ⟨rfl, hb⟩
      replace Ea := Ext.trans (Ext.trans Ea hxb) hb
      replace hCa := Cls.ext (Cls.ext hCa hxb) hb
      refine ⟨_, rfl, hK _ _ ⟨fun _ => hCa, ?_⟩⟩
      clear hK KK hxb hb
      refine late_fn rfl rfl rfl Tryz.func105 (by kernel_rfl) rfl (by go_simp) (fun wb hxb KK hK => (c_over (scL V K 16) T wb HC2.out Hcb.out).mono ?_)
      rintro e wc ⟨rfl, hb⟩
      replace Ea := Ext.trans (Ext.trans Ea hxb) hb
      replace hCa := Cls.ext (Cls.ext hCa hxb) hb
      refine ⟨_, rfl, hK _ _ ⟨fun _ => hCa, ?_⟩⟩
      clear hK KK hxb hb
      refine late_free (by kernel_rfl) rfl rfl (fun ws hxs KK hK => ?_)
      have S3 := O.out.ext (Ext.trans Ea hxs)
      have F3 := R.out.ext (Ext.trans Ea hxs)
      have G3 := S.out.ext (Ext.trans Ea hxs)
      have E3 := Ext.trans (Ext.trans E.out Ea) hxs
      have e0 := S3.cell_of (i := 0) rfl
      have e1 := S3.cell_of (i := 1) rfl
      have e2 := S3.cell_of (i := 2) rfl
      have e3 := S3.cell_of (i := 3) rfl
      have z0 := S3.frozen 0
      have z1 := S3.frozen 1
      have z2 := S3.frozen 2
      have z3 := S3.frozen 3
      go_simp
      refine hK _ _ ?_
      clear hK KK
      refine late_nil (fun w4 hx4 => ?_)
      have S4 : Hid (Row w4 bo 118 (bxC (pixK fs c r (k + 1)))) := Lib.hid (by rw [Hs.out]; exact (bxC_row S3).ext hx4)
      have F4 := Lib.hid ((set4_far F3 hne2 _ _ _ _).ext hx4)
      have G4 := Lib.hid ((set4_far G3 hne1 _ _ _ _).ext hx4)
      have B4 := Lib.hid (Ext.trans (set4_below E3 hzo _ _ _ _) hx4)
      clear e0 e1 e2 e3 z0 z1 z2 z3 S3 F3 G3 E3 hxs hx4 Ea hCa
      go_wp2
      go_roundw
      case rel => exact ⟨k + 1, by omega, by go_num, S4.out, F4.out, G4.out, B4.out⟩
      case measure => simp [intOf]; omega
    · obtain rfl : k = fs.length := by omega
      have hkI : ¬ (fs.length : Int) < (fs.length : Int) := by omega
      have hkD : decide ((fs.length : Int) < (fs.length : Int)) = false := by simp
      have k0 := S.out.cell_of (i := 0) rfl
      have k1 := S.out.cell_of (i := 1) rfl
      have k2 := S.out.cell_of (i := 2) rfl
      have o0 := O.out.cell_of (i := 0) rfl
      have o1 := O.out.cell_of (i := 1) rfl
      have o2 := O.out.cell_of (i := 2) rfl
      have o3 := O.out.cell_of (i := 3) rfl
      have r0 := R.out.cell_of (i := 0) rfl
      have zr0 := R.out.frozen 0
      have r1 := R.out.cell_of (i := 1) rfl
      have zr1 := R.out.frozen 1
      have r2 := R.out.cell_of (i := 2) rfl
      have zr2 := R.out.frozen 2
      have r3 := R.out.cell_of (i := 3) rfl
      have zr3 := R.out.frozen 3
      go_wp2
      exact bodyPost_ret (v := bx4V M) (by rw [← HM.out]; simp [results, Tryz.results69, go_sem, r0, r1, r2, r3]) rfl ⟨rfl, set4_below E.out hzr _ _ _ _⟩
set_option maxRecDepth 100000 in
set_option maxHeartbeats 8000000 in
theorem c_ipixel (W H : Int) (A : Option Addr) (cap : Nat) (fs : List FlD) (c r : Int) (w : World) (h : Fls w A fs) (hv : ∀ f ∈ fs, pathOk f.1 = true ∧ rgsB (ringsL f.1) = true ∧ inB f.2.1 0 1 = true ∧ paB f.2.2.1 f.2.2.2.1 f.2.2.2.2 = true) (hl : fs.length ≤ 4) (hc : inB c 0 11 = true) (hr : inB r 0 11 = true) :
    Calls Tryz.prog 79 #[.agg #[.int .i64 W, .int .i64 H, .slice A fs.length cap], .int .i64 c, .int .i64 r] w fun e w' => e = .returned (bx4V (pixL fs c r)) ∧ Below w.heap.size w w' := by
  have PW := Lib.hid h
  have Hv := Lib.hid hv
  have E := Lib.hid (Below.refl w.heap.size w)
  have Hc := Lib.hid hc
  have Hr := Lib.hid hr
  obtain ⟨hc0, hc1⟩ := inB_iff.1 hc
  obtain ⟨hr0, hr1⟩ := inB_iff.1 hr
  have HB : Hid (∀ k, k ≤ fs.length → coB (pixK fs c r k) = true) := Lib.hid (coB_pixK (fun f hf => (hv f hf).2.2.2))
  obtain ⟨M, hM⟩ : ∃ M, pixL fs c r = M := ⟨_, rfl⟩
  have HM : Hid (pixK fs c r fs.length = M) := Lib.hid hM
  rw [hM]
  clear h hv hM hc hr
  go_enter Tryz.func79, Tryz.ntmps79
  go_wp2_with fail
  first | refine gen_calls ?_ | refine gen_code ?_ | refine gen_list ?_
  intro w0 hW
  obtain ⟨hb, hR0, hR1, hR2⟩ := new3 hW
  clear hW
  replace E := Lib.hid (Ext.trans E.out hb)
  clear hb
  have R0 := Lib.hid hR0
  have lR0 := R0.out.lt
  clear hR0
  have R1 := Lib.hid hR1
  have lR1 := R1.out.lt
  clear hR1
  have R2 := Lib.hid hR2
  have lR2 := R2.out.lt
  clear hR2
  obtain ⟨bo, hbo⟩ : ∃ b, w.heap.size + 2 = b := ⟨_, rfl⟩
  obtain ⟨br, hbr⟩ : ∃ b, w.heap.size + 1 = b := ⟨_, rfl⟩
  rw [hbo] at R2 ⊢
  rw [hbr] at R1 ⊢
  have hzo : w.heap.size ≤ bo := by omega
  have hzr : w.heap.size ≤ br := by omega
  have hne1 : w.heap.size ≠ bo := by omega
  have hne2 : br ≠ bo := by omega
  clear hbo hbr
  have k0 := R0.out.cell_of (i := 0) rfl
  have k1 := R0.out.cell_of (i := 1) rfl
  have k2 := R0.out.cell_of (i := 2) rfl
  go_wp2_with fail
  clear k0 k1 k2
  go_loopw [14] (fun i wr => ∃ k : Nat, k ≤ fs.length ∧ i = .int .i64 k ∧ Row wr bo 118 (bxC (pixK fs c r k)) ∧ Row wr br 118 (bxC (0, 0, 0, 0)) ∧ Row wr w.heap.size 42 [.int .i64 W, .int .i64 H, .slice A fs.length cap] ∧ Ext w wr) (fun i _ => fs.length - (intOf i).toNat)
  case atStart => exact ⟨0, Nat.zero_le _, rfl, R2.out, R1.out, R0.out, E.out⟩
  case round =>
    obtain ⟨k, hk, rfl, hO, hR, hS, hbw⟩ := hrel
    clear E R0 R1 R2
    have E := Lib.hid hbw
    have O := Lib.hid hO
    have R := Lib.hid hR
    have S := Lib.hid hS
    clear hO hR hS hbw
    by_cases hlt : k < fs.length
    · obtain ⟨b, off, hA, _, hcc⟩ := (PW.out.ext flR_stab E.out).fls (by omega)
      obtain ⟨A1, c1, A2, c2, ⟨hvb, _, hst, hsk⟩, x0, x1, x2, x3, x4, x5, x6⟩ := hcc k hlt
      obtain ⟨v1, v2, _, v4⟩ := Hv.out _ (List.getElem_mem hlt)
      have HVb := Lib.hid hvb
      have HSt := Lib.hid hst
      have hcp := hsk.2.1
      have V1 := Lib.hid v1
      have V2 := Lib.hid v2
      have V4 := Lib.hid v4
      have Hs := Lib.hid (pixK_succ (c := c) (r := r) hlt)
      have Hcb := Lib.hid (HB.out k (by omega))
      have HsV := Lib.hid (HB.out (k + 1) (by omega))
      obtain ⟨T, hT⟩ : ∃ T, pixK fs c r k = T := ⟨_, rfl⟩
      rw [hT] at O Hcb Hs
      clear hcc hvb hst hsk v1 v2 v4 hT
      generalize fs[k] = f at *
      obtain ⟨vs, q, ⟨fx, fy⟩, ⟨tx, ty⟩, ss⟩ := f
      dsimp only at x0 x1 x2 x3 x4 x5 x6 HVb HSt hcp V1 V2 V4 Hs
      obtain ⟨Q, hQ⟩ : ∃ Q, ringsL vs = Q := ⟨_, rfl⟩
      have HQ := Lib.hid hQ
      rw [hQ] at V2 Hs
      obtain ⟨K, hK⟩ : ∃ K, coverL Q q c r = K := ⟨_, rfl⟩
      have HK := Lib.hid hK
      have hKb := coverL_bd Q q c r
      rw [hK] at Hs hKb
      obtain ⟨V, hV⟩ : ∃ V, paintL (fx, fy) (tx, ty) ss c r = V := ⟨_, rfl⟩
      have HPV := Lib.hid hV
      have HVc : Hid (coB V = true) := Lib.hid (by rw [← hV]; exact coB_paint V4.out)
      rw [hV] at Hs
      clear hQ hK hV
      have HC2 : Hid (coB (scL V K 16) = true) := Lib.hid (coB_sc HVc.out (by decide) hKb)
      subst hA
      have X0 := Lib.hid x0
      have X1 := Lib.hid x1
      have X2 := Lib.hid x2
      have X3 := Lib.hid x3
      have X4 := Lib.hid x4
      have X5 := Lib.hid x5
      have X6 := Lib.hid x6
      clear x0 x1 x2 x3 x4 x5 x6
      have hkI : (k : Int) < (fs.length : Int) := by omega
      have hkD : decide ((k : Int) < (fs.length : Int)) = true := by simp; omega
      have cX0 := X0.out
      have cX1 := X1.out
      have cX2 := X2.out
      have cX3 := X3.out
      have cX4 := X4.out
      have cX5 := X5.out
      have cX6 := X6.out
      have k0 := S.out.cell_of (i := 0) rfl
      have k1 := S.out.cell_of (i := 1) rfl
      have k2 := S.out.cell_of (i := 2) rfl
      go_wp2_with fail
      clear cX0 cX1 cX2 cX3 cX4 cX5 cX6 k0 k1 k2
      first | refine gen_calls ?_ | refine gen_code ?_ | refine gen_list ?_
      intro w1 hW
      obtain ⟨hb, hF⟩ := new1 hW
      clear hW
      replace E := Lib.hid (Ext.trans E.out hb)
      replace HVb := Lib.hid (HVb.out.ext verbK_stab hb)
      replace HSt := Lib.hid (HSt.out.ext stR_stab hb)
      replace O := Lib.hid (O.out.ext hb)
      have lO := O.out.lt
      replace R := Lib.hid (R.out.ext hb)
      have lR := R.out.lt
      replace S := Lib.hid (S.out.ext hb)
      have lS := S.out.lt
      replace X0 := Lib.hid (Cls.cell hb X0.out)
      replace X1 := Lib.hid (Cls.cell hb X1.out)
      replace X2 := Lib.hid (Cls.cell hb X2.out)
      replace X3 := Lib.hid (Cls.cell hb X3.out)
      replace X4 := Lib.hid (Cls.cell hb X4.out)
      replace X5 := Lib.hid (Cls.cell hb X5.out)
      replace X6 := Lib.hid (Cls.cell hb X6.out)
      clear hb
      have F := Lib.hid hF
      have lF := F.out.lt
      clear hF
      have cX0 := X0.out
      have cX1 := X1.out
      have cX2 := X2.out
      have cX3 := X3.out
      have cX4 := X4.out
      have cX5 := X5.out
      have cX6 := X6.out
      have k0 := S.out.cell_of (i := 0) rfl
      have k1 := S.out.cell_of (i := 1) rfl
      have k2 := S.out.cell_of (i := 2) rfl
      clear cX0 cX1 cX2 cX3 cX4 cX5 cX6 k0 k1 k2
      have f0 := F.out.cell_of (i := 0) rfl
      have f1 := F.out.cell_of (i := 1) rfl
      have f2 := F.out.cell_of (i := 2) rfl
      have f3 := F.out.cell_of (i := 3) rfl
      have f4 := F.out.cell_of (i := 4) rfl
      have f5 := F.out.cell_of (i := 5) rfl
      have f6 := F.out.cell_of (i := 6) rfl
      have o0 := O.out.cell_of (i := 0) rfl
      have o1 := O.out.cell_of (i := 1) rfl
      have o2 := O.out.cell_of (i := 2) rfl
      have o3 := O.out.cell_of (i := 3) rfl
      go_wp2_with fail
      refine wp_region_calm [0,1,2,3,5,6,8,9,10,11,14] [4,7,12,13,15,16] (by kernel_rfl) (by kernel_rfl) ?_
      iterate 11 ((refine calm_yes rfl rfl (fun w' hC => (by have f0 := hC.cell f0; have f1 := hC.cell f1; have f2 := hC.cell f2; have f3 := hC.cell f3; have f4 := hC.cell f4; have f5 := hC.cell f5; have f6 := hC.cell f6; have o0 := hC.cell o0; have o1 := hC.cell o1; have o2 := hC.cell o2; have o3 := hC.cell o3; go_simp; rfl)) (fun K hK => ?_); go_simp; refine hK _ ?_; clear hK K))
      refine calm_nil (fun wa hCa => ?_)
      clear f0 f1 f2 f3 f4 f5 f6 o0 o1 o2 o3
      have Ea := ext_cls hCa
      refine late_fn rfl rfl rfl Tryz.func122 (by kernel_rfl) rfl (by go_simp) (fun wb hxb KK hK => (c_iPaintAt1 (fx, fy) (tx, ty) A2 c2 ss c r wb (HSt.out.ext stR_stab (Ext.trans Ea hxb)) hcp V4.out Hc.out Hr.out).mono ?_)
      rw [HPV.out]
      rintro e wc ⟨rfl, hb⟩
      have hbb := Ext.trans hxb hb
      replace Ea := Ext.trans (Ext.trans Ea hxb) hb
      replace hCa := Cls.ext (Cls.ext hCa hxb) hb
      refine ⟨_, rfl, hK _ _ ⟨fun _ => hCa, ?_⟩⟩
      clear hK KK hxb hb
      refine late_fn rfl rfl rfl Tryz.func117 (by kernel_rfl) rfl (by go_simp) (fun wb hxb KK hK => (c_irings A1 c1 vs wb (HVb.out.ext verbK_stab (Ext.trans Ea hxb)) V1.out).mono ?_)
      rw [HQ.out]
      rintro e wc ⟨A3, cap3, ss3, rfl, ho3, hb⟩
      have HR3 := Lib.hid ho3.in_
      clear ho3
      replace Ea := Ext.trans (Ext.trans Ea hxb) hb
      replace hCa := Cls.ext (Cls.ext hCa hxb) hb
      replace HR3 := HR3
      refine ⟨_, rfl, hK _ _ ⟨fun _ => hCa, ?_⟩⟩
      clear hK KK hxb hb
      refine late_fn rfl rfl rfl Tryz.func123 (by kernel_rfl) rfl (by go_simp) (fun wb hxb KK hK => (c_icover A3 cap3 Q q c r wb (HR3.out.ext rgR_stab (hxb)) V2.out (by omega) (by omega)).mono ?_)
      rw [HK.out]
      rintro e wc ⟨rfl, hb⟩
      replace Ea := Ext.trans (Ext.trans Ea hxb) hb
      replace hCa := Cls.ext (Cls.ext hCa hxb) hb
      refine ⟨_, rfl, hK _ _ ⟨fun _ => hCa, ?_⟩⟩
      clear hK KK hxb hb
      clear HR3
      refine late_fn rfl rfl rfl Tryz.func121 (by kernel_rfl) rfl (by go_simp) (fun wb hxb KK hK => (c_CoverColor V K wb HVc.out hKb).mono ?_)
      rintro e wc ⟨rfl, hb⟩
      replace Ea := Ext.trans (Ext.trans Ea hxb) hb
      replace hCa := Cls.ext (Cls.ext hCa hxb) hb
      refine ⟨_, rfl, hK _ _ ⟨fun _ => hCa, ?_⟩⟩
      clear hK KK hxb hb
      refine late_fn rfl rfl rfl Tryz.func120 (by kernel_rfl) rfl (by go_simp) (fun wb hxb KK hK => (c_OverColor (scL V K 16) T wb HC2.out Hcb.out).mono ?_)
      rintro e wc ⟨rfl, hb⟩
      replace Ea := Ext.trans (Ext.trans Ea hxb) hb
      replace hCa := Cls.ext (Cls.ext hCa hxb) hb
      refine ⟨_, rfl, hK _ _ ⟨fun _ => hCa, ?_⟩⟩
      clear hK KK hxb hb
      refine late_free (by kernel_rfl) rfl rfl (fun ws hxs KK hK => ?_)
      have S3 := O.out.ext (Ext.trans Ea hxs)
      have F3 := R.out.ext (Ext.trans Ea hxs)
      have G3 := S.out.ext (Ext.trans Ea hxs)
      have E3 := Ext.trans (Ext.trans E.out Ea) hxs
      have e0 := S3.cell_of (i := 0) rfl
      have e1 := S3.cell_of (i := 1) rfl
      have e2 := S3.cell_of (i := 2) rfl
      have e3 := S3.cell_of (i := 3) rfl
      have z0 := S3.frozen 0
      have z1 := S3.frozen 1
      have z2 := S3.frozen 2
      have z3 := S3.frozen 3
      go_simp
      refine hK _ _ ?_
      clear hK KK
      refine late_nil (fun w4 hx4 => ?_)
      have S4 : Hid (Row w4 bo 118 (bxC (pixK fs c r (k + 1)))) := Lib.hid (by rw [Hs.out]; exact (bxC_row S3).ext hx4)
      have F4 := Lib.hid ((set4_far F3 hne2 _ _ _ _).ext hx4)
      have G4 := Lib.hid ((set4_far G3 hne1 _ _ _ _).ext hx4)
      have B4 := Lib.hid (Ext.trans (set4_below E3 hzo _ _ _ _) hx4)
      clear e0 e1 e2 e3 z0 z1 z2 z3 S3 F3 G3 E3 hxs hx4 Ea hCa
      go_wp2
      go_roundw
      case rel => exact ⟨k + 1, by omega, by go_num, S4.out, F4.out, G4.out, B4.out⟩
      case measure => simp [intOf]; omega
    · obtain rfl : k = fs.length := by omega
      have hkI : ¬ (fs.length : Int) < (fs.length : Int) := by omega
      have hkD : decide ((fs.length : Int) < (fs.length : Int)) = false := by simp
      have k0 := S.out.cell_of (i := 0) rfl
      have k1 := S.out.cell_of (i := 1) rfl
      have k2 := S.out.cell_of (i := 2) rfl
      have o0 := O.out.cell_of (i := 0) rfl
      have o1 := O.out.cell_of (i := 1) rfl
      have o2 := O.out.cell_of (i := 2) rfl
      have o3 := O.out.cell_of (i := 3) rfl
      have r0 := R.out.cell_of (i := 0) rfl
      have zr0 := R.out.frozen 0
      have r1 := R.out.cell_of (i := 1) rfl
      have zr1 := R.out.frozen 1
      have r2 := R.out.cell_of (i := 2) rfl
      have zr2 := R.out.frozen 2
      have r3 := R.out.cell_of (i := 3) rfl
      have zr3 := R.out.frozen 3
      go_wp2
      exact bodyPost_ret (v := bx4V M) (by rw [← HM.out]; simp [results, Tryz.results79, go_sem, r0, r1, r2, r3]) rfl ⟨rfl, set4_below E.out hzr _ _ _ _⟩
end Go.Proofs.YtagmnbphbakikaaGreat
