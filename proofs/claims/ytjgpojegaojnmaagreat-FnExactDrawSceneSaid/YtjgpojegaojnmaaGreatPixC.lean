/-
  Colors covered and laid over one another: the walks.
-/
import Derived.Test.YtjgpojegaojnmaaGreatPixL
import Derived.Test.YtjgpojegaojnmaaGreatMg1
import Derived.Test.YtjgpojegaojnmaaGreatMg8
import Derived.Test.YtjgpojegaojnmaaGreatRegionL
namespace Go.Proofs.YtjgpojegaojnmaaGreat
open Go Go.RowKit Reg
attribute [local go_sem] calmAt calmUpon
set_option maxRecDepth 100000 in
set_option maxHeartbeats 4000000 in
theorem c_scaled (c : Bx4) (part whole : Int) (w : World) (hc : coB c = true) (hp : 0 ≤ part ∧ part ≤ 255) (hw : 0 < whole ∧ whole ≤ 255) :
    Calls Tryz.prog 56 #[bx4V c, .int .i64 part, .int .i64 whole] w fun e w' => e = .returned (bx4V (scL c part whole)) ∧ Below w.heap.size w w' := by
  obtain ⟨⟨a10, a11⟩, ⟨a20, a21⟩, ⟨a30, a31⟩, a40, a41⟩ := coB_bd hc
  obtain ⟨x1, x2, x3, x4⟩ := c
  dsimp only at a10 a11 a20 a21 a30 a31 a40 a41
  clear hc
  obtain ⟨p1, q1⟩ := mul_nn_bd a10 a11 hp.1 hp.2
  obtain ⟨p2, q2⟩ := mul_nn_bd a20 a21 hp.1 hp.2
  obtain ⟨p3, q3⟩ := mul_nn_bd a30 a31 hp.1 hp.2
  obtain ⟨p4, q4⟩ := mul_nn_bd a40 a41 hp.1 hp.2
  have f1 : IntKind.i64.wrap (x1 * part) = x1 * part := IntWalk.i64_in _ (by omega)
  have f2 : IntKind.i64.wrap (x2 * part) = x2 * part := IntWalk.i64_in _ (by omega)
  have f3 : IntKind.i64.wrap (x3 * part) = x3 * part := IntWalk.i64_in _ (by omega)
  have f4 : IntKind.i64.wrap (x4 * part) = x4 * part := IntWalk.i64_in _ (by omega)
  have N1 := Lib.hid (fun W => c_nearest (x1 * part) whole W (by omega) (by omega) (by omega) (by omega))
  have N2 := Lib.hid (fun W => c_nearest (x2 * part) whole W (by omega) (by omega) (by omega) (by omega))
  have N3 := Lib.hid (fun W => c_nearest (x3 * part) whole W (by omega) (by omega) (by omega) (by omega))
  have N4 := Lib.hid (fun W => c_nearest (x4 * part) whole W (by omega) (by omega) (by omega) (by omega))
  have HF := Lib.hid (And.intro f1 (And.intro f2 (And.intro f3 f4)))
  clear f1 f2 f3 f4 p1 p2 p3 p4 q1 q2 q3 q4
  have E := Lib.hid (Below.refl w.heap.size w)
  obtain ⟨M, hM⟩ : ∃ M, scL (x1, x2, x3, x4) part whole = M := ⟨_, rfl⟩
  have HM := Lib.hid hM
  rw [hM]
  clear hM
  go_enter Tryz.func56, Tryz.ntmps56
  go_wp2_with fail
  first | refine gen_calls ?_ | refine gen_code ?_ | refine gen_list ?_
  intro w1 hW
  obtain ⟨hb, hA, hZ⟩ := new2 hW
  clear hW
  replace E := Lib.hid (Ext.trans E.out hb)
  clear hb
  have A := Lib.hid hA
  have lA := A.out.lt
  clear hA
  have Z := Lib.hid hZ
  have lZ := Z.out.lt
  clear hZ
  have c0 := A.out.cell_of (i := 0) rfl
  have c1 := A.out.cell_of (i := 1) rfl
  have c2 := A.out.cell_of (i := 2) rfl
  have c3 := A.out.cell_of (i := 3) rfl
  go_wp2_with fail
  obtain ⟨f1, f2, f3, f4⟩ := HF.out
  refine wp_region_calm [0,1,2,3,4,5,6,7,8,9,10,11,12,13,14,15,16,17,18,19,20,21,22,23,24] [25] (by kernel_rfl) (by kernel_rfl) ?_
  iterate 5 ((refine calm_yes rfl rfl (fun w' hC => (by have c0 := hC.cell c0; have c1 := hC.cell c1; have c2 := hC.cell c2; have c3 := hC.cell c3; go_simp; rfl)) (fun K hK => ?_); go_simp; refine hK _ ?_; clear hK K))
  (apply calm_call rfl rfl rfl Tryz.func96 (by kernel_rfl) rfl (by go_simp; rfl); exact (fun w' hC => ext_of_same (N1.out w')); intro K hK; go_simp; refine hK _ ?_; clear hK K)
  iterate 5 ((refine calm_yes rfl rfl (fun w' hC => (by have c0 := hC.cell c0; have c1 := hC.cell c1; have c2 := hC.cell c2; have c3 := hC.cell c3; go_simp; rfl)) (fun K hK => ?_); go_simp; refine hK _ ?_; clear hK K))
  (apply calm_call rfl rfl rfl Tryz.func96 (by kernel_rfl) rfl (by go_simp; rfl); exact (fun w' hC => ext_of_same (N2.out w')); intro K hK; go_simp; refine hK _ ?_; clear hK K)
  iterate 5 ((refine calm_yes rfl rfl (fun w' hC => (by have c0 := hC.cell c0; have c1 := hC.cell c1; have c2 := hC.cell c2; have c3 := hC.cell c3; go_simp; rfl)) (fun K hK => ?_); go_simp; refine hK _ ?_; clear hK K))
  (apply calm_call rfl rfl rfl Tryz.func96 (by kernel_rfl) rfl (by go_simp; rfl); exact (fun w' hC => ext_of_same (N3.out w')); intro K hK; go_simp; refine hK _ ?_; clear hK K)
  iterate 5 ((refine calm_yes rfl rfl (fun w' hC => (by have c0 := hC.cell c0; have c1 := hC.cell c1; have c2 := hC.cell c2; have c3 := hC.cell c3; go_simp; rfl)) (fun K hK => ?_); go_simp; refine hK _ ?_; clear hK K))
  (apply calm_call rfl rfl rfl Tryz.func96 (by kernel_rfl) rfl (by go_simp; rfl); exact (fun w' hC => ext_of_same (N4.out w')); intro K hK; go_simp; refine hK _ ?_; clear hK K)
  (refine calm_yes rfl rfl (fun w' hC => (by go_simp; rfl)) (fun K hK => ?_); go_simp; refine hK _ ?_; clear hK K)
  clear f1 f2 f3 f4
  clear c0 c1 c2 c3
  refine calm_nil (fun w2 hC2 => ?_)
  refine late_free (by kernel_rfl) rfl rfl (fun w3 hx3 K' hK => ?_)
  have E3 := Ext.trans (ext_cls hC2) hx3
  have S3 := Z.out.ext E3
  have E4 := Ext.trans E.out E3
  have e0 := S3.cell_of (i := 0) rfl
  have e1 := S3.cell_of (i := 1) rfl
  have e2 := S3.cell_of (i := 2) rfl
  have e3 := S3.cell_of (i := 3) rfl
  have z0 := S3.frozen 0
  have z1 := S3.frozen 1
  have z2 := S3.frozen 2
  have z3 := S3.frozen 3
  go_simp
  refine hK _ _ ?_
  clear hK K'
  refine late_nil (fun w4 hx4 => ?_)
  have S4 := (((((S3.set_ 0 (.int .i64 (rndL (x1 * part) whole))).set_ 1 (.int .i64 (rndL (x2 * part) whole))).set_ 2 (.int .i64 (rndL (x3 * part) whole))).set_ 3 (.int .i64 (rndL (x4 * part) whole)))).ext hx4
  have B4 : Ext w w4 := Ext.trans ((((E4.setCell (by simp) _).setCell (by simp) _).setCell (by simp) _).setCell (by simp) _) hx4
  have g0 := S4.cell_of (i := 0) rfl
  have g1 := S4.cell_of (i := 1) rfl
  have g2 := S4.cell_of (i := 2) rfl
  have g3 := S4.cell_of (i := 3) rfl
  clear e0 e1 e2 e3 z0 z1 z2 z3 S3 E3 E4 hx3 hx4 hC2 S4
  go_wp2_with fail
  exact bodyPost_ret (v := bx4V M) (by rw [← HM.out]; simp [results, Tryz.results56, go_sem, g0, g1, g2, g3, scL]) rfl ⟨rfl, B4⟩
set_option maxRecDepth 100000 in
set_option maxHeartbeats 4000000 in
theorem c_over (a b : Bx4) (w : World) (ha : coB a = true) (hb : coB b = true) :
    Calls Tryz.prog 55 #[bx4V a, bx4V b] w fun e w' => e = .returned (bx4V (ovL a b)) ∧ Below w.heap.size w w' := by
  have hab := coB_ov ha hb
  obtain ⟨⟨a10, a11⟩, ⟨a20, a21⟩, ⟨a30, a31⟩, a40, a41⟩ := coB_bd ha
  obtain ⟨⟨b10, b11⟩, ⟨b20, b21⟩, ⟨b30, b31⟩, b40, b41⟩ := coB_bd hab
  obtain ⟨x1, x2, x3, x4⟩ := a
  dsimp only [ovL] at a10 a11 a20 a21 a30 a31 a40 a41 b10 b11 b20 b21 b30 b31 b40 b41
  have KS := Lib.hid (fun W => c_scaled b (255 - x4) 255 W hb (by omega) (by omega))
  have E := Lib.hid (Below.refl w.heap.size w)
  obtain ⟨S, hS⟩ : ∃ S, scL b (255 - x4) 255 = S := ⟨_, rfl⟩
  have hO : ovL (x1, x2, x3, x4) b = (x1 + S.1, x2 + S.2.1, x3 + S.2.2.1, x4 + S.2.2.2) := by rw [← hS]; rfl
  have e1 : rndL (b.1 * (255 - x4)) 255 = S.1 := by rw [← hS]; rfl
  have e2 : rndL (b.2.1 * (255 - x4)) 255 = S.2.1 := by rw [← hS]; rfl
  have e3 : rndL (b.2.2.1 * (255 - x4)) 255 = S.2.2.1 := by rw [← hS]; rfl
  have e4 : rndL (b.2.2.2 * (255 - x4)) 255 = S.2.2.2 := by rw [← hS]; rfl
  rw [e1] at b10 b11
  rw [e2] at b20 b21
  rw [e3] at b30 b31
  rw [e4] at b40 b41
  rw [hS] at KS
  rw [hO]
  clear hS hO e1 e2 e3 e4 ha hb hab
  obtain ⟨y1, y2, y3, y4⟩ := b
  obtain ⟨s1, s2, s3, s4⟩ := S
  dsimp only at b10 b11 b20 b21 b30 b31 b40 b41 ⊢
  go_enter Tryz.func55, Tryz.ntmps55
  go_wp2_with fail
  first | refine gen_calls ?_ | refine gen_code ?_ | refine gen_list ?_
  intro w1 hW
  obtain ⟨hb, hA, hB, hZ⟩ := new3 hW
  clear hW
  replace E := Lib.hid (Ext.trans E.out hb)
  clear hb
  have A := Lib.hid hA
  have lA := A.out.lt
  clear hA
  have B := Lib.hid hB
  have lB := B.out.lt
  clear hB
  have Z := Lib.hid hZ
  have lZ := Z.out.lt
  clear hZ
  have a0 := A.out.cell_of (i := 0) rfl
  have a1 := A.out.cell_of (i := 1) rfl
  have a2 := A.out.cell_of (i := 2) rfl
  have a3 := A.out.cell_of (i := 3) rfl
  have b0 := B.out.cell_of (i := 0) rfl
  have b1 := B.out.cell_of (i := 1) rfl
  have b2 := B.out.cell_of (i := 2) rfl
  have b3 := B.out.cell_of (i := 3) rfl
  go_wp2_with fail
  clear a0 a1 a2 a3 b0 b1 b2 b3
  refine (KS.out _).mono ?_
  rintro e w2 ⟨rfl, hb⟩
  replace E := Lib.hid (Ext.trans E.out hb)
  replace A := Lib.hid (A.out.ext hb)
  have lA := A.out.lt
  replace B := Lib.hid (B.out.ext hb)
  have lB := B.out.lt
  replace Z := Lib.hid (Z.out.ext hb)
  have lZ := Z.out.lt
  clear hb
  have a0 := A.out.cell_of (i := 0) rfl
  have a1 := A.out.cell_of (i := 1) rfl
  have a2 := A.out.cell_of (i := 2) rfl
  have a3 := A.out.cell_of (i := 3) rfl
  have b0 := B.out.cell_of (i := 0) rfl
  have b1 := B.out.cell_of (i := 1) rfl
  have b2 := B.out.cell_of (i := 2) rfl
  have b3 := B.out.cell_of (i := 3) rfl
  clear a0 a1 a2 a3 b0 b1 b2 b3
  have a0 := A.out.cell_of (i := 0) rfl
  have a1 := A.out.cell_of (i := 1) rfl
  have a2 := A.out.cell_of (i := 2) rfl
  have a3 := A.out.cell_of (i := 3) rfl
  have b0 := B.out.cell_of (i := 0) rfl
  have b1 := B.out.cell_of (i := 1) rfl
  have b2 := B.out.cell_of (i := 2) rfl
  have b3 := B.out.cell_of (i := 3) rfl
  have z0 := Z.out.cell_of (i := 0) rfl
  have zz0 := Z.out.frozen 0
  have z1 := Z.out.cell_of (i := 1) rfl
  have zz1 := Z.out.frozen 1
  have z2 := Z.out.cell_of (i := 2) rfl
  have zz2 := Z.out.frozen 2
  have z3 := Z.out.cell_of (i := 3) rfl
  have zz3 := Z.out.frozen 3
  have g1 : IntKind.i64.wrap (x1 + s1) = x1 + s1 := IntWalk.i64_in _ (by omega)
  have g2 : IntKind.i64.wrap (x2 + s2) = x2 + s2 := IntWalk.i64_in _ (by omega)
  have g3 : IntKind.i64.wrap (x3 + s3) = x3 + s3 := IntWalk.i64_in _ (by omega)
  have g4 : IntKind.i64.wrap (x4 + s4) = x4 + s4 := IntWalk.i64_in _ (by omega)
  go_wp2_with fail
  refine gen_post (fun W hW => ?_)
  have R : Row W (w.heap.size + 2) 27 (bxC (x1 + s1, x2 + s2, x3 + s3, x4 + s4)) := by rw [hW]; exact ((((Z.out.set_ 0 _).set_ 1 _).set_ 2 _).set_ 3 _).alloc _
  have B4 := ((((E.out.setCell (p := ⟨w.heap.size + 2, 0, none⟩) (by simp) (.int .i64 (x1 + s1))).setCell (p := ⟨w.heap.size + 2, 1, none⟩) (by simp) (.int .i64 (x2 + s2))).setCell (p := ⟨w.heap.size + 2, 2, none⟩) (by simp) (.int .i64 (x3 + s3))).setCell (p := ⟨w.heap.size + 2, 3, none⟩) (by simp) (.int .i64 (x4 + s4)))
  have BW : Below w.heap.size w W := by rw [hW]; exact B4.alloc B4.size _
  have y0 := R.cell_of (i := 0) rfl
  have y1 := R.cell_of (i := 1) rfl
  have y2 := R.cell_of (i := 2) rfl
  have y3 := R.cell_of (i := 3) rfl
  exact bodyPost_ret (v := bx4V (x1 + s1, x2 + s2, x3 + s3, x4 + s4)) (by simp [results, Tryz.results55, go_sem, y0, y1, y2, y3]) rfl ⟨rfl, BW⟩
theorem c_cover1 (x y t : Int) (g : Nat) (w : World) (hx : 0 ≤ x ∧ x ≤ 255) (ht : 0 ≤ t ∧ t ≤ 16) (hr : w.cell? ⟨g, 0, none⟩ = some (.int .i64 t)) :
    Calls Tryz.prog 108 (#[.int .i64 x, .int .i64 y] ++ #[.pointer (some ⟨g, 0, none⟩)]) w fun e w' => e = .returned (.int .i64 (rndL (x * t) 16)) ∧ w = w' := by
  obtain ⟨p1, p2⟩ := mul_nn_bd hx.1 hx.2 ht.1 ht.2
  show Calls Tryz.prog 108 #[.int .i64 x, .int .i64 y, .pointer (some ⟨g, 0, none⟩)] w _
  go_enter Tryz.func108, Tryz.ntmps108
  go_wp2_with fail
  refine (c_round (x * t) 16 w (by decide) (by decide) (by omega) (by omega)).mono ?_; rintro e w' ⟨rfl, rfl⟩
  go_wp2
  go_ret
  exact ⟨rfl, rfl⟩
set_option maxRecDepth 100000 in
set_option maxHeartbeats 4000000 in
theorem c_CoverColor (c : Bx4) (t : Int) (w : World) (hc : coB c = true) (ht : 0 ≤ t ∧ t ≤ 16) :
    Calls Tryz.prog 64 #[bx4V c, .int .i64 t] w fun e w' => e = .returned (bx4V (scL c t 16)) ∧ Below w.heap.size w w' := by
  have Bc := Lib.hid (coB_bd hc)
  have Hc := Lib.hid hc
  have Ht := Lib.hid ht
  have Hin : Hid (inB t 0 16 = true) := Lib.hid (inB_iff.2 ht)
  have E := Lib.hid (Below.refl w.heap.size w)
  obtain ⟨M, hM⟩ : ∃ M, scL c t 16 = M := ⟨_, rfl⟩
  rw [hM]
  have HM := Lib.hid hM
  clear hM hc ht
  go_enter Tryz.func64, Tryz.ntmps64
  go_wp2_with fail
  first | refine gen_calls ?_ | refine gen_code ?_ | refine gen_list ?_
  intro w1 hW
  obtain ⟨hb, hA, hT, hZ⟩ := new3 hW
  clear hW
  replace E := Lib.hid (Ext.trans E.out hb)
  clear hb
  have A := Lib.hid hA
  have lA := A.out.lt
  clear hA
  have T := Lib.hid hT
  have lT := T.out.lt
  clear hT
  have Z := Lib.hid hZ
  have lZ := Z.out.lt
  clear hZ
  have a0 := A.out.cell_of (i := 0) rfl
  have a1 := A.out.cell_of (i := 1) rfl
  have a2 := A.out.cell_of (i := 2) rfl
  have a3 := A.out.cell_of (i := 3) rfl
  have t0 := T.out.cell_of (i := 0) rfl
  go_wp2_with fail
  clear a0 a1 a2 a3 t0
  refine (c_ValidColor c _).mono ?_
  rw [Hc.out]
  rintro e w2 ⟨rfl, hb⟩
  replace E := Lib.hid (Ext.trans E.out hb)
  replace A := Lib.hid (A.out.ext hb)
  have lA := A.out.lt
  replace T := Lib.hid (T.out.ext hb)
  have lT := T.out.lt
  replace Z := Lib.hid (Z.out.ext hb)
  have lZ := Z.out.lt
  clear hb
  have a0 := A.out.cell_of (i := 0) rfl
  have a1 := A.out.cell_of (i := 1) rfl
  have a2 := A.out.cell_of (i := 2) rfl
  have a3 := A.out.cell_of (i := 3) rfl
  have t0 := T.out.cell_of (i := 0) rfl
  go_wp2_with fail
  refine (c_in t 0 16 _).mono ?_
  rw [Hin.out]
  rintro e w' ⟨rfl, rfl⟩
  go_wp2_with fail
  clear a0 a1 a2 a3 t0
  have hq : Calls Tryz.prog 105 #[bx4V c, bx4V c, .func (.func 108) #[] #[.pointer (some ⟨w.heap.size + 1, 0, none⟩)]] w2 fun e w' => e = .returned (bx4V (scL c t 16)) ∧ Below w2.heap.size w2 w' :=
    c_each 108 _ _ Tryz.func108 (by kernel_rfl) rfl (fun x _ => rndL (x * t) 16) c c w2 (fun W hW x y hxy => c_cover1 x y t _ W (by have := Bc.out; omega) Ht.out ((T.out.ext hW).cell_of (i := 0) rfl))
  refine hq.mono ?_
  rw [HM.out]
  rintro e w3 ⟨rfl, hb⟩
  clear hq
  replace E := Lib.hid (Ext.trans E.out hb)
  replace A := Lib.hid (A.out.ext hb)
  have lA := A.out.lt
  replace T := Lib.hid (T.out.ext hb)
  have lT := T.out.lt
  replace Z := Lib.hid (Z.out.ext hb)
  have lZ := Z.out.lt
  clear hb
  have a0 := A.out.cell_of (i := 0) rfl
  have a1 := A.out.cell_of (i := 1) rfl
  have a2 := A.out.cell_of (i := 2) rfl
  have a3 := A.out.cell_of (i := 3) rfl
  have t0 := T.out.cell_of (i := 0) rfl
  clear a0 a1 a2 a3 t0
  have z0 := Z.out.cell_of (i := 0) rfl
  have zz0 := Z.out.frozen 0
  have z1 := Z.out.cell_of (i := 1) rfl
  have zz1 := Z.out.frozen 1
  have z2 := Z.out.cell_of (i := 2) rfl
  have zz2 := Z.out.frozen 2
  have z3 := Z.out.cell_of (i := 3) rfl
  have zz3 := Z.out.frozen 3
  go_wp2_with fail
  exact bodyPost_ret (v := bx4V M) (by simp [results, Tryz.results64, go_sem, z0, z1, z2, z3]) rfl ⟨rfl, (((E.out.setCell (by simp; omega) _).setCell (by simp; omega) _).setCell (by simp; omega) _).setCell (by simp; omega) _⟩
theorem c_over1 (x y t : Int) (g : Nat) (w : World) (hx : 0 ≤ x ∧ x ≤ 255) (hy : 0 ≤ y ∧ y ≤ 255) (ht : 0 ≤ t ∧ t ≤ 255) (hr : w.cell? ⟨g, 3, none⟩ = some (.int .i64 t)) :
    Calls Tryz.prog 106 (#[.int .i64 x, .int .i64 y] ++ #[.pointer (some ⟨g, 0, none⟩)]) w fun e w' => e = .returned (.int .i64 (x + rndL (y * (255 - t)) 255)) ∧ w = w' := by
  obtain ⟨p1, p2⟩ := mul_nn_bd hy.1 hy.2 (show 0 ≤ 255 - t by omega) (show 255 - t ≤ 255 by omega)
  have r1 := rndL_nn (show (0 : Int) < 255 by decide) p1
  have r2 := rndL_le (show (0 : Int) < 255 by decide) p2
  show Calls Tryz.prog 106 #[.int .i64 x, .int .i64 y, .pointer (some ⟨g, 0, none⟩)] w _
  go_enter Tryz.func106, Tryz.ntmps106
  go_wp2_with fail
  refine (c_round (y * (255 - t)) 255 w (by decide) (by decide) (by omega) (by omega)).mono ?_; rintro e w' ⟨rfl, rfl⟩
  go_wp2
  go_ret
  exact ⟨rfl, rfl⟩
set_option maxRecDepth 100000 in
set_option maxHeartbeats 4000000 in
theorem c_OverColor (a b : Bx4) (w : World) (ha : coB a = true) (hb : coB b = true) :
    Calls Tryz.prog 63 #[bx4V a, bx4V b] w fun e w' => e = .returned (bx4V (ovL a b)) ∧ Below w.heap.size w w' := by
  have Ba := Lib.hid (coB_bd ha)
  have Bb := Lib.hid (coB_bd hb)
  have Ha := Lib.hid ha
  have Hb := Lib.hid hb
  have E := Lib.hid (Below.refl w.heap.size w)
  obtain ⟨M, hM⟩ : ∃ M, ovL a b = M := ⟨_, rfl⟩
  rw [hM]
  have HM := Lib.hid hM
  clear hM ha hb
  go_enter Tryz.func63, Tryz.ntmps63
  go_wp2_with fail
  first | refine gen_calls ?_ | refine gen_code ?_ | refine gen_list ?_
  intro w1 hW
  obtain ⟨hb, hA, hB, hZ⟩ := new3 hW
  clear hW
  replace E := Lib.hid (Ext.trans E.out hb)
  clear hb
  have A := Lib.hid hA
  have lA := A.out.lt
  clear hA
  have B := Lib.hid hB
  have lB := B.out.lt
  clear hB
  have Z := Lib.hid hZ
  have lZ := Z.out.lt
  clear hZ
  have a0 := A.out.cell_of (i := 0) rfl
  have a1 := A.out.cell_of (i := 1) rfl
  have a2 := A.out.cell_of (i := 2) rfl
  have a3 := A.out.cell_of (i := 3) rfl
  have b0 := B.out.cell_of (i := 0) rfl
  have b1 := B.out.cell_of (i := 1) rfl
  have b2 := B.out.cell_of (i := 2) rfl
  have b3 := B.out.cell_of (i := 3) rfl
  go_wp2_with fail
  clear a0 a1 a2 a3 b0 b1 b2 b3
  refine (c_ValidColor a _).mono ?_
  rw [Ha.out]
  rintro e w2 ⟨rfl, hb⟩
  replace E := Lib.hid (Ext.trans E.out hb)
  replace A := Lib.hid (A.out.ext hb)
  have lA := A.out.lt
  replace B := Lib.hid (B.out.ext hb)
  have lB := B.out.lt
  replace Z := Lib.hid (Z.out.ext hb)
  have lZ := Z.out.lt
  clear hb
  have a0 := A.out.cell_of (i := 0) rfl
  have a1 := A.out.cell_of (i := 1) rfl
  have a2 := A.out.cell_of (i := 2) rfl
  have a3 := A.out.cell_of (i := 3) rfl
  have b0 := B.out.cell_of (i := 0) rfl
  have b1 := B.out.cell_of (i := 1) rfl
  have b2 := B.out.cell_of (i := 2) rfl
  have b3 := B.out.cell_of (i := 3) rfl
  go_wp2_with fail
  clear a0 a1 a2 a3 b0 b1 b2 b3
  refine (c_ValidColor b _).mono ?_
  rw [Hb.out]
  rintro e w3 ⟨rfl, hb⟩
  replace E := Lib.hid (Ext.trans E.out hb)
  replace A := Lib.hid (A.out.ext hb)
  have lA := A.out.lt
  replace B := Lib.hid (B.out.ext hb)
  have lB := B.out.lt
  replace Z := Lib.hid (Z.out.ext hb)
  have lZ := Z.out.lt
  clear hb
  have a0 := A.out.cell_of (i := 0) rfl
  have a1 := A.out.cell_of (i := 1) rfl
  have a2 := A.out.cell_of (i := 2) rfl
  have a3 := A.out.cell_of (i := 3) rfl
  have b0 := B.out.cell_of (i := 0) rfl
  have b1 := B.out.cell_of (i := 1) rfl
  have b2 := B.out.cell_of (i := 2) rfl
  have b3 := B.out.cell_of (i := 3) rfl
  go_wp2_with fail
  clear a0 a1 a2 a3 b0 b1 b2 b3
  have hq : Calls Tryz.prog 105 #[bx4V a, bx4V b, .func (.func 106) #[] #[.pointer (some ⟨w.heap.size, 0, none⟩)]] w3 fun e w' => e = .returned (bx4V (ovL a b)) ∧ Below w3.heap.size w3 w' :=
    c_each 106 _ _ Tryz.func106 (by kernel_rfl) rfl (fun x y => x + rndL (y * (255 - a.2.2.2)) 255) a b w3 (fun W hW x y hxy => c_over1 x y a.2.2.2 _ W (by have := Ba.out; omega) (by have := Bb.out; omega) (by have := Ba.out; omega) ((A.out.ext hW).cell_of (i := 3) rfl))
  refine hq.mono ?_
  rw [HM.out]
  rintro e w4 ⟨rfl, hb⟩
  clear hq
  replace E := Lib.hid (Ext.trans E.out hb)
  replace A := Lib.hid (A.out.ext hb)
  have lA := A.out.lt
  replace B := Lib.hid (B.out.ext hb)
  have lB := B.out.lt
  replace Z := Lib.hid (Z.out.ext hb)
  have lZ := Z.out.lt
  clear hb
  have a0 := A.out.cell_of (i := 0) rfl
  have a1 := A.out.cell_of (i := 1) rfl
  have a2 := A.out.cell_of (i := 2) rfl
  have a3 := A.out.cell_of (i := 3) rfl
  have b0 := B.out.cell_of (i := 0) rfl
  have b1 := B.out.cell_of (i := 1) rfl
  have b2 := B.out.cell_of (i := 2) rfl
  have b3 := B.out.cell_of (i := 3) rfl
  clear a0 a1 a2 a3 b0 b1 b2 b3
  have z0 := Z.out.cell_of (i := 0) rfl
  have zz0 := Z.out.frozen 0
  have z1 := Z.out.cell_of (i := 1) rfl
  have zz1 := Z.out.frozen 1
  have z2 := Z.out.cell_of (i := 2) rfl
  have zz2 := Z.out.frozen 2
  have z3 := Z.out.cell_of (i := 3) rfl
  have zz3 := Z.out.frozen 3
  go_wp2_with fail
  exact bodyPost_ret (v := bx4V M) (by simp [results, Tryz.results63, go_sem, z0, z1, z2, z3]) rfl ⟨rfl, (((E.out.setCell (by simp; omega) _).setCell (by simp; omega) _).setCell (by simp; omega) _).setCell (by simp; omega) _⟩
end Go.Proofs.YtjgpojegaojnmaaGreat
