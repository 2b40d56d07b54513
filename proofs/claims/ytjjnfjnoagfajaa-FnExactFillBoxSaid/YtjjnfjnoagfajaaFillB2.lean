/-
  The boxes of any fills: the walks.
-/
import Derived.Test.YtjjnfjnoagfajaaFillB
namespace Go.Proofs.Ytjjnfjnoagfajaa
open Go Go.RowKit Reg
attribute [local go_sem] calmAt calmUpon
set_option maxRecDepth 100000 in
set_option maxHeartbeats 4000000 in
theorem c_iFillBox (A1 : Option Addr) (c1 : Nat) (x : FlD) (A2 : Option Addr) (c2 : Nat) (w : World) (hv : VbK w A1 x.1) (hs : Sts w A2 x.2.2.2.2) (hsm : flSm x) :
    Calls Try.prog 14 #[flV A1 x.1.length c1 x.2.1 x.2.2.1 x.2.2.2.1 A2 x.2.2.2.2.length c2] w fun e w' => e = .returned (bx4V (fbR x)) ∧ Below w.heap.size w w' := by
  obtain ⟨M, hM⟩ : ∃ M, fbR x = M := ⟨_, rfl⟩
  obtain ⟨d, hd⟩ : ∃ d, flB x = d := ⟨_, rfl⟩
  have HR : Hid (M = if d then fbL x else (0, 0, 0, 0)) := Lib.hid (by rw [← hM]; unfold fbR; rw [hd])
  rw [hM]
  have Hd := Lib.hid hd
  have H := Lib.hid hv
  have P := Lib.hid hs
  have E := Lib.hid (Below.refl w.heap.size w)
  clear hv hs hM hd
  go_enter Try.func14, Try.ntmps14
  go_wp2_with fail
  first | refine gen_calls ?_ | refine gen_code ?_ | refine gen_list ?_
  intro w0 hW
  obtain ⟨hb, hR1, hR2⟩ := new2 hW
  clear hW
  replace E := Lib.hid (Ext.trans E.out hb)
  replace H := Lib.hid (H.out.ext verbK_stab hb)
  replace P := Lib.hid (P.out.ext stR_stab hb)
  clear hb
  have R1 := Lib.hid hR1
  have lR1 := R1.out.lt
  clear hR1
  have R2 := Lib.hid hR2
  have lR2 := R2.out.lt
  clear hR2
  have k0 := R1.out.cell_of (i := 0) rfl
  have k1 := R1.out.cell_of (i := 1) rfl
  have k2 := R1.out.cell_of (i := 2) rfl
  have k3 := R1.out.cell_of (i := 3) rfl
  have k4 := R1.out.cell_of (i := 4) rfl
  have k5 := R1.out.cell_of (i := 5) rfl
  have k6 := R1.out.cell_of (i := 6) rfl
  go_wp2_with fail
  clear k0 k1 k2 k3 k4 k5 k6
  refine (c_iFillValid A1 c1 x A2 c2 _ H.out P.out hsm).mono ?_
  rw [Hd.out]
  rintro e w1 ⟨rfl, hb⟩
  replace E := Lib.hid (Ext.trans E.out hb)
  replace H := Lib.hid (H.out.ext verbK_stab hb)
  replace P := Lib.hid (P.out.ext stR_stab hb)
  replace R1 := Lib.hid (R1.out.ext hb)
  have lR1 := R1.out.lt
  replace R2 := Lib.hid (R2.out.ext hb)
  have lR2 := R2.out.lt
  clear hb
  have k0 := R1.out.cell_of (i := 0) rfl
  have k1 := R1.out.cell_of (i := 1) rfl
  have k2 := R1.out.cell_of (i := 2) rfl
  have k3 := R1.out.cell_of (i := 3) rfl
  have k4 := R1.out.cell_of (i := 4) rfl
  have k5 := R1.out.cell_of (i := 5) rfl
  have k6 := R1.out.cell_of (i := 6) rfl
  cases d
  · have Hf : Hid (M = (0, 0, 0, 0)) := Lib.hid (by rw [HR.out]; simp)
    clear k0 k1 k2 k3 k4 k5 k6
    have m0 := R2.out.cell_of (i := 0) rfl
    have zm0 := R2.out.frozen 0
    have m1 := R2.out.cell_of (i := 1) rfl
    have zm1 := R2.out.frozen 1
    have m2 := R2.out.cell_of (i := 2) rfl
    have zm2 := R2.out.frozen 2
    have m3 := R2.out.cell_of (i := 3) rfl
    have zm3 := R2.out.frozen 3
    go_wp2
    clear m0 zm0 m1 zm1 m2 zm2 m3 zm3
    refine gen_post (fun W hW => ?_)
    have D : Row W (w.heap.size + 1) 43 [.int .i64 0, .int .i64 0, .int .i64 0, .int .i64 0] := by
      rw [hW]; exact (((R2.out.set_ 0 _).set_ 1 _).set_ 2 _).set_ 3 _
    have E9 := below_set E.out (w' := W) (g := w.heap.size + 1) (by rw [hW]; exact sets4 w1 _ 0 _ _ _ _) (by omega) E.out.size
    have y0 := D.cell_of (i := 0) rfl
    have y1 := D.cell_of (i := 1) rfl
    have y2 := D.cell_of (i := 2) rfl
    have y3 := D.cell_of (i := 3) rfl
    exact bodyPost_ret (v := bx4V (0, 0, 0, 0)) (by simp [results, Try.results14, go_sem, y0, y1, y2, y3]) rfl ⟨by rw [Hf.out], E9⟩
  · have Hf : Hid (M = fbL x) := Lib.hid (by rw [HR.out]; simp)
    have hp : pathOk x.1 = true := by
      have h := Hd.out; unfold flB at h; simp only [Bool.and_eq_true] at h; exact h.1.1.1
    go_wp2_with fail
    clear k0 k1 k2 k3 k4 k5 k6
    refine (c_iFillBox1 A1 c1 x A2 c2 _ H.out hp).mono ?_
    rintro e w4 ⟨rfl, hb⟩
    replace E := Lib.hid (Ext.trans E.out hb)
    replace H := Lib.hid (H.out.ext verbK_stab hb)
    replace P := Lib.hid (P.out.ext stR_stab hb)
    replace R1 := Lib.hid (R1.out.ext hb)
    have lR1 := R1.out.lt
    replace R2 := Lib.hid (R2.out.ext hb)
    have lR2 := R2.out.lt
    clear hb
    have k0 := R1.out.cell_of (i := 0) rfl
    have k1 := R1.out.cell_of (i := 1) rfl
    have k2 := R1.out.cell_of (i := 2) rfl
    have k3 := R1.out.cell_of (i := 3) rfl
    have k4 := R1.out.cell_of (i := 4) rfl
    have k5 := R1.out.cell_of (i := 5) rfl
    have k6 := R1.out.cell_of (i := 6) rfl
    obtain ⟨⟨l2, t2, r2, b2⟩, hbx⟩ : ∃ bb, fbL x = bb := ⟨_, rfl⟩
    rw [hbx] at Hf ⊢
    clear hbx hp
    clear k0 k1 k2 k3 k4 k5 k6
    have m0 := R2.out.cell_of (i := 0) rfl
    have zm0 := R2.out.frozen 0
    have m1 := R2.out.cell_of (i := 1) rfl
    have zm1 := R2.out.frozen 1
    have m2 := R2.out.cell_of (i := 2) rfl
    have zm2 := R2.out.frozen 2
    have m3 := R2.out.cell_of (i := 3) rfl
    have zm3 := R2.out.frozen 3
    go_wp2
    clear m0 zm0 m1 zm1 m2 zm2 m3 zm3
    refine gen_post (fun W hW => ?_)
    have D : Row W (w.heap.size + 1) 43 [.int .i64 l2, .int .i64 t2, .int .i64 r2, .int .i64 b2] := by
      rw [hW]; exact (((R2.out.set_ 0 _).set_ 1 _).set_ 2 _).set_ 3 _
    have E9 := below_set E.out (w' := W) (g := w.heap.size + 1) (by rw [hW]; exact sets4 w4 _ 0 _ _ _ _) (by omega) E.out.size
    have y0 := D.cell_of (i := 0) rfl
    have y1 := D.cell_of (i := 1) rfl
    have y2 := D.cell_of (i := 2) rfl
    have y3 := D.cell_of (i := 3) rfl
    exact bodyPost_ret (v := bx4V (l2, t2, r2, b2)) (by simp [results, Try.results14, go_sem, y0, y1, y2, y3]) rfl ⟨by rw [Hf.out], E9⟩
set_option maxRecDepth 100000 in
set_option maxHeartbeats 4000000 in
theorem c_sFillBox (A1 : Option Addr) (c1 : Nat) (x : FlD) (A2 : Option Addr) (c2 : Nat) (w : World) (hv : VbK w A1 x.1) (hs : Sts w A2 x.2.2.2.2) (hsm : flSm x) :
    Calls Try.prog 12 #[flV A1 x.1.length c1 x.2.1 x.2.2.1 x.2.2.2.1 A2 x.2.2.2.2.length c2] w fun e w' => e = .returned (bx4V (fbR x)) ∧ Below w.heap.size w w' := by
  obtain ⟨M, hM⟩ : ∃ M, fbR x = M := ⟨_, rfl⟩
  obtain ⟨d, hd⟩ : ∃ d, flB x = d := ⟨_, rfl⟩
  have HR : Hid (M = if d then fbL x else (0, 0, 0, 0)) := Lib.hid (by rw [← hM]; unfold fbR; rw [hd])
  rw [hM]
  have Hd := Lib.hid hd
  have H := Lib.hid hv
  have P := Lib.hid hs
  have E := Lib.hid (Below.refl w.heap.size w)
  clear hv hs hM hd
  go_enter Try.func12, Try.ntmps12
  go_wp2_with fail
  first | refine gen_calls ?_ | refine gen_code ?_ | refine gen_list ?_
  intro w0 hW
  obtain ⟨hb, hR1, hR2⟩ := new2 hW
  clear hW
  replace E := Lib.hid (Ext.trans E.out hb)
  replace H := Lib.hid (H.out.ext verbK_stab hb)
  replace P := Lib.hid (P.out.ext stR_stab hb)
  clear hb
  have R1 := Lib.hid hR1
  have lR1 := R1.out.lt
  clear hR1
  have R2 := Lib.hid hR2
  have lR2 := R2.out.lt
  clear hR2
  have k0 := R1.out.cell_of (i := 0) rfl
  have k1 := R1.out.cell_of (i := 1) rfl
  have k2 := R1.out.cell_of (i := 2) rfl
  have k3 := R1.out.cell_of (i := 3) rfl
  have k4 := R1.out.cell_of (i := 4) rfl
  have k5 := R1.out.cell_of (i := 5) rfl
  have k6 := R1.out.cell_of (i := 6) rfl
  go_wp2_with fail
  clear k0 k1 k2 k3 k4 k5 k6
  refine (c_sFillValid A1 c1 x A2 c2 _ H.out P.out hsm).mono ?_
  rw [Hd.out]
  rintro e w1 ⟨rfl, hb⟩
  replace E := Lib.hid (Ext.trans E.out hb)
  replace H := Lib.hid (H.out.ext verbK_stab hb)
  replace P := Lib.hid (P.out.ext stR_stab hb)
  replace R1 := Lib.hid (R1.out.ext hb)
  have lR1 := R1.out.lt
  replace R2 := Lib.hid (R2.out.ext hb)
  have lR2 := R2.out.lt
  clear hb
  have k0 := R1.out.cell_of (i := 0) rfl
  have k1 := R1.out.cell_of (i := 1) rfl
  have k2 := R1.out.cell_of (i := 2) rfl
  have k3 := R1.out.cell_of (i := 3) rfl
  have k4 := R1.out.cell_of (i := 4) rfl
  have k5 := R1.out.cell_of (i := 5) rfl
  have k6 := R1.out.cell_of (i := 6) rfl
  cases d
  · have Hf : Hid (M = (0, 0, 0, 0)) := Lib.hid (by rw [HR.out]; simp)
    clear k0 k1 k2 k3 k4 k5 k6
    have m0 := R2.out.cell_of (i := 0) rfl
    have zm0 := R2.out.frozen 0
    have m1 := R2.out.cell_of (i := 1) rfl
    have zm1 := R2.out.frozen 1
    have m2 := R2.out.cell_of (i := 2) rfl
    have zm2 := R2.out.frozen 2
    have m3 := R2.out.cell_of (i := 3) rfl
    have zm3 := R2.out.frozen 3
    go_wp2
    clear m0 zm0 m1 zm1 m2 zm2 m3 zm3
    refine gen_post (fun W hW => ?_)
    have D : Row W (w.heap.size + 1) 43 [.int .i64 0, .int .i64 0, .int .i64 0, .int .i64 0] := by
      rw [hW]; exact (((R2.out.set_ 0 _).set_ 1 _).set_ 2 _).set_ 3 _
    have E9 := below_set E.out (w' := W) (g := w.heap.size + 1) (by rw [hW]; exact sets4 w1 _ 0 _ _ _ _) (by omega) E.out.size
    have y0 := D.cell_of (i := 0) rfl
    have y1 := D.cell_of (i := 1) rfl
    have y2 := D.cell_of (i := 2) rfl
    have y3 := D.cell_of (i := 3) rfl
    exact bodyPost_ret (v := bx4V (0, 0, 0, 0)) (by simp [results, Try.results12, go_sem, y0, y1, y2, y3]) rfl ⟨by rw [Hf.out], E9⟩
  · have Hf : Hid (M = fbL x) := Lib.hid (by rw [HR.out]; simp)
    have hp : pathOk x.1 = true := by
      have h := Hd.out; unfold flB at h; simp only [Bool.and_eq_true] at h; exact h.1.1.1
    go_wp2_with fail
    clear k0 k1 k2 k3 k4 k5 k6
    refine (c_sFillBox1 A1 c1 x A2 c2 _ H.out hp).mono ?_
    rintro e w4 ⟨rfl, hb⟩
    replace E := Lib.hid (Ext.trans E.out hb)
    replace H := Lib.hid (H.out.ext verbK_stab hb)
    replace P := Lib.hid (P.out.ext stR_stab hb)
    replace R1 := Lib.hid (R1.out.ext hb)
    have lR1 := R1.out.lt
    replace R2 := Lib.hid (R2.out.ext hb)
    have lR2 := R2.out.lt
    clear hb
    have k0 := R1.out.cell_of (i := 0) rfl
    have k1 := R1.out.cell_of (i := 1) rfl
    have k2 := R1.out.cell_of (i := 2) rfl
    have k3 := R1.out.cell_of (i := 3) rfl
    have k4 := R1.out.cell_of (i := 4) rfl
    have k5 := R1.out.cell_of (i := 5) rfl
    have k6 := R1.out.cell_of (i := 6) rfl
    obtain ⟨⟨l2, t2, r2, b2⟩, hbx⟩ : ∃ bb, fbL x = bb := ⟨_, rfl⟩
    rw [hbx] at Hf ⊢
    clear hbx hp
    clear k0 k1 k2 k3 k4 k5 k6
    have m0 := R2.out.cell_of (i := 0) rfl
    have zm0 := R2.out.frozen 0
    have m1 := R2.out.cell_of (i := 1) rfl
    have zm1 := R2.out.frozen 1
    have m2 := R2.out.cell_of (i := 2) rfl
    have zm2 := R2.out.frozen 2
    have m3 := R2.out.cell_of (i := 3) rfl
    have zm3 := R2.out.frozen 3
    go_wp2
    clear m0 zm0 m1 zm1 m2 zm2 m3 zm3
    refine gen_post (fun W hW => ?_)
    have D : Row W (w.heap.size + 1) 43 [.int .i64 l2, .int .i64 t2, .int .i64 r2, .int .i64 b2] := by
      rw [hW]; exact (((R2.out.set_ 0 _).set_ 1 _).set_ 2 _).set_ 3 _
    have E9 := below_set E.out (w' := W) (g := w.heap.size + 1) (by rw [hW]; exact sets4 w4 _ 0 _ _ _ _) (by omega) E.out.size
    have y0 := D.cell_of (i := 0) rfl
    have y1 := D.cell_of (i := 1) rfl
    have y2 := D.cell_of (i := 2) rfl
    have y3 := D.cell_of (i := 3) rfl
    exact bodyPost_ret (v := bx4V (l2, t2, r2, b2)) (by simp [results, Try.results12, go_sem, y0, y1, y2, y3]) rfl ⟨by rw [Hf.out], E9⟩
set_option maxHeartbeats 1000000 in
theorem c_eqBoxF (b : Bx4) (w : World) : Calls Try.prog 15 #[bx4V b, bx4V b] w fun e w' => e = .returned (.bool true) ∧ Below w.heap.size w w' := by
  go_enter Try.func15, Try.ntmps15
  go_wp2
  go_ret
  exact ⟨rfl, (by repeat (first | exact Below.refl _ _ | assumption | refine Below.drew ?_ | refine Below.alloc ?_ (by first | exact Nat.le_refl _ | omega | (simp; done) | (simp; omega)) _ | refine Below.setCell ?_ (by first | exact Nat.le_refl _ | omega | (simp; done) | (simp; omega)) _))⟩
end Go.Proofs.Ytjjnfjnoagfajaa
