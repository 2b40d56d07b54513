/-
  PixelOf: the walks.
-/
import Derived.Test.YtjgpojegaojnmaaGreatPixW
import Derived.Test.YtjgpojegaojnmaaGreatScene
namespace Go.Proofs.YtjgpojegaojnmaaGreat
open Go Go.RowKit Reg
attribute [local go_sem] calmAt calmUpon
theorem in12 {W c : Int} (hW : 1 ≤ W ∧ W ≤ 12) (h : inB c 0 (W - 1) = true) : inB c 0 11 = true := by
  have := inB_iff.1 h
  exact inB_iff.2 (by omega)
set_option maxHeartbeats 1000000 in
theorem c_has (W H : Int) (A : Option Addr) (n cap : Nat) (c r : Int) (w : World) (hW : 1 ≤ W ∧ W ≤ 12) (hH : 1 ≤ H ∧ H ≤ 12) :
    Calls Tryz.prog 33 #[.agg #[.int .i64 W, .int .i64 H, .slice A n cap], .int .i64 c, .int .i64 r] w fun e w' => e = .returned (.bool (inB c 0 (W - 1) && inB r 0 (H - 1))) ∧ Below w.heap.size w w' := by
  have E := Lib.hid (Below.refl w.heap.size w)
  have g1 : IntKind.i64.wrap (W - 1) = W - 1 := IntWalk.i64_in _ (by omega)
  have g2 : IntKind.i64.wrap (H - 1) = H - 1 := IntWalk.i64_in _ (by omega)
  obtain ⟨d2, hd2⟩ : ∃ d, inB c 0 (W - 1) = d := ⟨_, rfl⟩
  have H2 := Lib.hid hd2
  rw [hd2]
  clear hd2
  go_enter Tryz.func33, Tryz.ntmps33
  go_wp2_with fail
  first | refine gen_calls ?_ | refine gen_code ?_ | refine gen_list ?_
  intro w0 hW
  obtain ⟨hb, hR0⟩ := new1 hW
  clear hW
  replace E := Lib.hid (Ext.trans E.out hb)
  clear hb
  have R0 := Lib.hid hR0
  have lR0 := R0.out.lt
  clear hR0
  have k0 := R0.out.cell_of (i := 0) rfl
  have k1 := R0.out.cell_of (i := 1) rfl
  have k2 := R0.out.cell_of (i := 2) rfl
  go_wp2_with fail
  refine (c_in c 0 (W - 1) _).mono ?_
  rw [H2.out]
  rintro e w' ⟨rfl, rfl⟩
  cases d2
  · go_wp2
    go_ret
    exact ⟨rfl, E.out⟩
  · go_wp2_with fail
    refine (c_in r 0 (H - 1) _).mono ?_
    rintro e w' ⟨rfl, rfl⟩
    go_wp2
    go_ret
    exact ⟨ret_bb (by simp), E.out⟩
set_option maxRecDepth 100000 in
set_option maxHeartbeats 4000000 in
theorem c_sPixelOf (W H : Int) (A : Option Addr) (cap : Nat) (fs : List FlD) (c r : Int) (w : World) (h : Fls w A fs) (hsm : flsSm fs) :
    Calls Tryz.prog 7 #[.agg #[.int .i64 W, .int .i64 H, .slice A fs.length cap], .int .i64 c, .int .i64 r] w fun e w' => e = .returned (bx4V (pixR W H fs c r)) ∧ Below w.heap.size w w' := by
  have P := Lib.hid h
  have Hsm := Lib.hid hsm
  have E := Lib.hid (Below.refl w.heap.size w)
  obtain ⟨d1, hd1⟩ : ∃ d, scB W H fs = d := ⟨_, rfl⟩
  obtain ⟨d2, hd2⟩ : ∃ d, inB c 0 (W - 1) = d := ⟨_, rfl⟩
  obtain ⟨d3, hd3⟩ : ∃ d, inB r 0 (H - 1) = d := ⟨_, rfl⟩
  obtain ⟨M, hM⟩ : ∃ M, pixR W H fs c r = M := ⟨_, rfl⟩
  have HM : Hid (M = if d1 && (d2 && d3) then pixL fs c r else (0, 0, 0, 0)) := Lib.hid (by rw [← hM]; unfold pixR; rw [hd1, hd2, hd3])
  rw [hM]
  have H1 := Lib.hid hd1
  have H2 := Lib.hid hd2
  have H3 := Lib.hid hd3
  clear h hsm hd1 hd2 hd3 hM
  go_enter Tryz.func7, Tryz.ntmps7
  go_wp2_with fail
  first | refine gen_calls ?_ | refine gen_code ?_ | refine gen_list ?_
  intro w0 hW
  obtain ⟨hb, hR0, hR1⟩ := new2 hW
  clear hW
  replace E := Lib.hid (Ext.trans E.out hb)
  replace P := Lib.hid (P.out.ext flR_stab hb)
  clear hb
  have R0 := Lib.hid hR0
  have lR0 := R0.out.lt
  clear hR0
  have R1 := Lib.hid hR1
  have lR1 := R1.out.lt
  clear hR1
  have k0 := R0.out.cell_of (i := 0) rfl
  have k1 := R0.out.cell_of (i := 1) rfl
  have k2 := R0.out.cell_of (i := 2) rfl
  have r0 := R1.out.cell_of (i := 0) rfl
  have zr0 := R1.out.frozen 0
  have r1 := R1.out.cell_of (i := 1) rfl
  have zr1 := R1.out.frozen 1
  have r2 := R1.out.cell_of (i := 2) rfl
  have zr2 := R1.out.frozen 2
  have r3 := R1.out.cell_of (i := 3) rfl
  have zr3 := R1.out.frozen 3
  go_wp2_with fail
  clear k0 k1 k2 r0 zr0 r1 zr1 r2 zr2 r3 zr3
  refine (c_sValidScene W H A cap fs _ P.out Hsm.out).mono ?_
  rw [H1.out]
  rintro e w1 ⟨rfl, hb⟩
  replace E := Lib.hid (Ext.trans E.out hb)
  replace P := Lib.hid (P.out.ext flR_stab hb)
  replace R0 := Lib.hid (R0.out.ext hb)
  have lR0 := R0.out.lt
  replace R1 := Lib.hid (R1.out.ext hb)
  have lR1 := R1.out.lt
  clear hb
  have k0 := R0.out.cell_of (i := 0) rfl
  have k1 := R0.out.cell_of (i := 1) rfl
  have k2 := R0.out.cell_of (i := 2) rfl
  have r0 := R1.out.cell_of (i := 0) rfl
  have zr0 := R1.out.frozen 0
  have r1 := R1.out.cell_of (i := 1) rfl
  have zr1 := R1.out.frozen 1
  have r2 := R1.out.cell_of (i := 2) rfl
  have zr2 := R1.out.frozen 2
  have r3 := R1.out.cell_of (i := 3) rfl
  have zr3 := R1.out.frozen 3
  cases d1
  · have hz : M = (0, 0, 0, 0) := by rw [HM.out]; simp
    subst hz
    go_wp2
    exact bodyPost_ret (v := bx4V (0, 0, 0, 0)) (by simp [results, Tryz.results7, go_sem, r0, r1, r2, r3]) rfl ⟨rfl, set4_below E.out (by omega) _ _ _ _⟩
  · obtain ⟨hW, hH⟩ := scB_sz H1.out
    have g1 : IntKind.i64.wrap (W - 1) = W - 1 := IntWalk.i64_in _ (by omega)
    have g2 : IntKind.i64.wrap (H - 1) = H - 1 := IntWalk.i64_in _ (by omega)
    go_wp2_with fail
    refine (c_inRange c 0 (W - 1) _).mono ?_
    rw [H2.out]
    rintro e w' ⟨rfl, rfl⟩
    cases d2
    · have hz : M = (0, 0, 0, 0) := by rw [HM.out]; simp
      subst hz
      go_wp2
      exact bodyPost_ret (v := bx4V (0, 0, 0, 0)) (by simp [results, Tryz.results7, go_sem, r0, r1, r2, r3]) rfl ⟨rfl, set4_below E.out (by omega) _ _ _ _⟩
    · go_wp2_with fail
      refine (c_inRange r 0 (H - 1) _).mono ?_
      rw [H3.out]
      rintro e w' ⟨rfl, rfl⟩
      cases d3
      · have hz : M = (0, 0, 0, 0) := by rw [HM.out]; simp
        subst hz
        go_wp2
        exact bodyPost_ret (v := bx4V (0, 0, 0, 0)) (by simp [results, Tryz.results7, go_sem, r0, r1, r2, r3]) rfl ⟨rfl, set4_below E.out (by omega) _ _ _ _⟩
      · have Hz : Hid (pixL fs c r = M) := Lib.hid (by rw [HM.out]; simp)
        go_wp2_with fail
        clear k0 k1 k2 r0 zr0 r1 zr1 r2 zr2 r3 zr3
        refine (c_spixel W H A cap fs c r _ P.out (scB_all H1.out) (scB_le H1.out) (in12 hW H2.out) (in12 hH H3.out)).mono ?_
        rw [Hz.out]
        rintro e w2 ⟨rfl, hb⟩
        replace E := Lib.hid (Ext.trans E.out hb)
        replace P := Lib.hid (P.out.ext flR_stab hb)
        replace R0 := Lib.hid (R0.out.ext hb)
        have lR0 := R0.out.lt
        replace R1 := Lib.hid (R1.out.ext hb)
        have lR1 := R1.out.lt
        clear hb
        have k0 := R0.out.cell_of (i := 0) rfl
        have k1 := R0.out.cell_of (i := 1) rfl
        have k2 := R0.out.cell_of (i := 2) rfl
        have r0 := R1.out.cell_of (i := 0) rfl
        have zr0 := R1.out.frozen 0
        have r1 := R1.out.cell_of (i := 1) rfl
        have zr1 := R1.out.frozen 1
        have r2 := R1.out.cell_of (i := 2) rfl
        have zr2 := R1.out.frozen 2
        have r3 := R1.out.cell_of (i := 3) rfl
        have zr3 := R1.out.frozen 3
        go_wp2
        exact bodyPost_ret (v := bx4V M) (by simp [results, Tryz.results7, go_sem, r0, r1, r2, r3]) rfl ⟨rfl, set4_below E.out (by omega) _ _ _ _⟩
set_option maxRecDepth 100000 in
set_option maxHeartbeats 4000000 in
theorem c_iPixelOf (W H : Int) (A : Option Addr) (cap : Nat) (fs : List FlD) (c r : Int) (w : World) (h : Fls w A fs) (hsm : flsSm fs) :
    Calls Tryz.prog 9 #[.agg #[.int .i64 W, .int .i64 H, .slice A fs.length cap], .int .i64 c, .int .i64 r] w fun e w' => e = .returned (bx4V (pixR W H fs c r)) ∧ Below w.heap.size w w' := by
  have P := Lib.hid h
  have Hsm := Lib.hid hsm
  have E := Lib.hid (Below.refl w.heap.size w)
  obtain ⟨d1, hd1⟩ : ∃ d, scB W H fs = d := ⟨_, rfl⟩
  obtain ⟨d2, hd2⟩ : ∃ d, (inB c 0 (W - 1) && inB r 0 (H - 1)) = d := ⟨_, rfl⟩
  obtain ⟨M, hM⟩ : ∃ M, pixR W H fs c r = M := ⟨_, rfl⟩
  have HM : Hid (M = if d1 && d2 then pixL fs c r else (0, 0, 0, 0)) := Lib.hid (by rw [← hM]; unfold pixR; rw [hd1, hd2])
  rw [hM]
  have H1 := Lib.hid hd1
  have H2 := Lib.hid hd2
  clear h hsm hd1 hd2 hM
  go_enter Tryz.func9, Tryz.ntmps9
  go_wp2_with fail
  first | refine gen_calls ?_ | refine gen_code ?_ | refine gen_list ?_
  intro w0 hW
  obtain ⟨hb, hR0, hR1⟩ := new2 hW
  clear hW
  replace E := Lib.hid (Ext.trans E.out hb)
  replace P := Lib.hid (P.out.ext flR_stab hb)
  clear hb
  have R0 := Lib.hid hR0
  have lR0 := R0.out.lt
  clear hR0
  have R1 := Lib.hid hR1
  have lR1 := R1.out.lt
  clear hR1
  have k0 := R0.out.cell_of (i := 0) rfl
  have k1 := R0.out.cell_of (i := 1) rfl
  have k2 := R0.out.cell_of (i := 2) rfl
  have r0 := R1.out.cell_of (i := 0) rfl
  have zr0 := R1.out.frozen 0
  have r1 := R1.out.cell_of (i := 1) rfl
  have zr1 := R1.out.frozen 1
  have r2 := R1.out.cell_of (i := 2) rfl
  have zr2 := R1.out.frozen 2
  have r3 := R1.out.cell_of (i := 3) rfl
  have zr3 := R1.out.frozen 3
  go_wp2_with fail
  clear k0 k1 k2 r0 zr0 r1 zr1 r2 zr2 r3 zr3
  refine (c_iValidScene W H A cap fs _ P.out Hsm.out).mono ?_
  rw [H1.out]
  rintro e w1 ⟨rfl, hb⟩
  replace E := Lib.hid (Ext.trans E.out hb)
  replace P := Lib.hid (P.out.ext flR_stab hb)
  replace R0 := Lib.hid (R0.out.ext hb)
  have lR0 := R0.out.lt
  replace R1 := Lib.hid (R1.out.ext hb)
  have lR1 := R1.out.lt
  clear hb
  have k0 := R0.out.cell_of (i := 0) rfl
  have k1 := R0.out.cell_of (i := 1) rfl
  have k2 := R0.out.cell_of (i := 2) rfl
  have r0 := R1.out.cell_of (i := 0) rfl
  have zr0 := R1.out.frozen 0
  have r1 := R1.out.cell_of (i := 1) rfl
  have zr1 := R1.out.frozen 1
  have r2 := R1.out.cell_of (i := 2) rfl
  have zr2 := R1.out.frozen 2
  have r3 := R1.out.cell_of (i := 3) rfl
  have zr3 := R1.out.frozen 3
  cases d1
  · have hz : M = (0, 0, 0, 0) := by rw [HM.out]; simp
    subst hz
    go_wp2
    exact bodyPost_ret (v := bx4V (0, 0, 0, 0)) (by simp [results, Tryz.results9, go_sem, r0, r1, r2, r3]) rfl ⟨rfl, set4_below E.out (by omega) _ _ _ _⟩
  · obtain ⟨hW, hH⟩ := scB_sz H1.out
    go_wp2_with fail
    clear k0 k1 k2 r0 zr0 r1 zr1 r2 zr2 r3 zr3
    refine (c_has W H A fs.length cap c r _ hW hH).mono ?_
    rw [H2.out]
    rintro e w2 ⟨rfl, hb⟩
    replace E := Lib.hid (Ext.trans E.out hb)
    replace P := Lib.hid (P.out.ext flR_stab hb)
    replace R0 := Lib.hid (R0.out.ext hb)
    have lR0 := R0.out.lt
    replace R1 := Lib.hid (R1.out.ext hb)
    have lR1 := R1.out.lt
    clear hb
    have k0 := R0.out.cell_of (i := 0) rfl
    have k1 := R0.out.cell_of (i := 1) rfl
    have k2 := R0.out.cell_of (i := 2) rfl
    have r0 := R1.out.cell_of (i := 0) rfl
    have zr0 := R1.out.frozen 0
    have r1 := R1.out.cell_of (i := 1) rfl
    have zr1 := R1.out.frozen 1
    have r2 := R1.out.cell_of (i := 2) rfl
    have zr2 := R1.out.frozen 2
    have r3 := R1.out.cell_of (i := 3) rfl
    have zr3 := R1.out.frozen 3
    cases d2
    · have hz : M = (0, 0, 0, 0) := by rw [HM.out]; simp
      subst hz
      go_wp2
      exact bodyPost_ret (v := bx4V (0, 0, 0, 0)) (by simp [results, Tryz.results9, go_sem, r0, r1, r2, r3]) rfl ⟨rfl, set4_below E.out (by omega) _ _ _ _⟩
    · have Hz : Hid (pixL fs c r = M) := Lib.hid (by rw [HM.out]; simp)
      have H23 := Lib.hid (Bool.and_eq_true_iff.1 H2.out)
      go_wp2_with fail
      clear k0 k1 k2 r0 zr0 r1 zr1 r2 zr2 r3 zr3
      refine (c_ipixel W H A cap fs c r _ P.out (scB_all H1.out) (scB_le H1.out) (in12 hW H23.out.1) (in12 hH H23.out.2)).mono ?_
      rw [Hz.out]
      rintro e w3 ⟨rfl, hb⟩
      replace E := Lib.hid (Ext.trans E.out hb)
      replace P := Lib.hid (P.out.ext flR_stab hb)
      replace R0 := Lib.hid (R0.out.ext hb)
      have lR0 := R0.out.lt
      replace R1 := Lib.hid (R1.out.ext hb)
      have lR1 := R1.out.lt
      clear hb
      have k0 := R0.out.cell_of (i := 0) rfl
      have k1 := R0.out.cell_of (i := 1) rfl
      have k2 := R0.out.cell_of (i := 2) rfl
      have r0 := R1.out.cell_of (i := 0) rfl
      have zr0 := R1.out.frozen 0
      have r1 := R1.out.cell_of (i := 1) rfl
      have zr1 := R1.out.frozen 1
      have r2 := R1.out.cell_of (i := 2) rfl
      have zr2 := R1.out.frozen 2
      have r3 := R1.out.cell_of (i := 3) rfl
      have zr3 := R1.out.frozen 3
      go_wp2
      exact bodyPost_ret (v := bx4V M) (by simp [results, Tryz.results9, go_sem, r0, r1, r2, r3]) rfl ⟨rfl, set4_below E.out (by omega) _ _ _ _⟩
end Go.Proofs.YtjgpojegaojnmaaGreat
