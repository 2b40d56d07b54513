/-
  impl.StopColor.
-/
import Derived.Test.YtonilmpodijgeaaStopW
namespace Go.Proofs.Ytonilmpodijgeaa
open Go Go.RowKit Reg
attribute [local go_sem] calmAt calmUpon
def stopR (ss : List St) (t : Int) : Bx4 := if stB ss then stopL ss t else (0, 0, 0, 0)
set_option maxHeartbeats 2000000 in
theorem c_StopColor (A : Option Addr) (cap : Nat) (ss : List St) (t : Int) (w : World) (h : Sts w A ss) (hcap : ss.length ≤ cap) (hl : ss.length ≤ 1000000000) (ht : -1000000 ≤ t ∧ t ≤ 1000000) :
    Calls Try.prog 51 #[.slice A ss.length cap, .int .i64 t] w fun e w' => e = .returned (bx4V (stopR ss t)) ∧ Below w.heap.size w w' := by
  obtain ⟨d, hd⟩ : ∃ d, stB ss = d := ⟨_, rfl⟩
  have Hr : Hid (stopR ss t = if d then stopL ss t else (0, 0, 0, 0)) := Lib.hid (by unfold stopR; rw [hd])
  rw [Hr.out]
  have Hd := Lib.hid hd
  have H := Lib.hid (h.ext stR_stab (ext_alloc w (.cells #[.int .i64 0, .int .i64 0, .int .i64 0, .int .i64 0] 60)))
  have R0 : Hid (Row (w.alloc (.cells #[.int .i64 0, .int .i64 0, .int .i64 0, .int .i64 0] 60)) w.heap.size 60 [.int .i64 0, .int .i64 0, .int .i64 0, .int .i64 0]) := Lib.hid (Row.new w 60 _)
  have B0 := Lib.hid (ext_alloc w (.cells #[.int .i64 0, .int .i64 0, .int .i64 0, .int .i64 0] 60))
  clear h hd
  go_enter Try.func51, Try.ntmps51
  go_wp2_with fail
  refine (c_iValidStops A cap ss _ H.out hl).mono ?_; rw [Hd.out]; rintro e w1 ⟨rfl, hb1⟩
  have R1 := Lib.hid (R0.out.ext hb1)
  have B1 := Lib.hid (Ext.trans B0.out hb1)
  have H1 := Lib.hid (H.out.ext stR_stab hb1)
  clear hb1
  cases d
  · have R2 := R1.out
    have e0 := R2.cell_of (i := 0) rfl
    have e1 := R2.cell_of (i := 1) rfl
    have e2 := R2.cell_of (i := 2) rfl
    have e3 := R2.cell_of (i := 3) rfl
    have z0 := R2.frozen 0
    have z1 := R2.frozen 1
    have z2 := R2.frozen 2
    have z3 := R2.frozen 3
    have B2 := B1.out
    clear R2
    go_wp2_with fail
    exact bodyPost_ret (v := bx4V (0, 0, 0, 0)) (by simp [results, Try.results51, go_sem, e0, e1, e2, e3]) rfl ⟨rfl, (by repeat (first | exact Below.refl _ _ | assumption | refine Below.drew ?_ | refine Below.alloc ?_ (by first | exact Nat.le_refl _ | omega | (simp; done) | (simp; omega)) _ | refine Below.setCell ?_ (by first | exact Nat.le_refl _ | omega | (simp; done) | (simp; omega)) _))⟩
  · obtain ⟨M, hM⟩ : ∃ M, stopL ss t = M := ⟨_, rfl⟩
    have K := Lib.hid (fun W (hW : Sts W A ss) => c_istopColor A cap ss t W hW Hd.out hcap ht)
    have HM := Lib.hid hM
    go_wp2_with fail
    refine (K.out _ H1.out).mono ?_; rw [HM.out]; rintro e w2 ⟨rfl, hb2⟩
    have R2 := R1.out.ext hb2
    have e0 := R2.cell_of (i := 0) rfl
    have e1 := R2.cell_of (i := 1) rfl
    have e2 := R2.cell_of (i := 2) rfl
    have e3 := R2.cell_of (i := 3) rfl
    have z0 := R2.frozen 0
    have z1 := R2.frozen 1
    have z2 := R2.frozen 2
    have z3 := R2.frozen 3
    have B2 := Ext.trans B1.out hb2
    clear hb2 R2
    go_wp2_with fail
    exact bodyPost_ret (v := bx4V M) (by simp [results, Try.results51, go_sem, e0, e1, e2, e3]) rfl ⟨by simp, (by repeat (first | exact Below.refl _ _ | assumption | refine Below.drew ?_ | refine Below.alloc ?_ (by first | exact Nat.le_refl _ | omega | (simp; done) | (simp; omega)) _ | refine Below.setCell ?_ (by first | exact Nat.le_refl _ | omega | (simp; done) | (simp; omega)) _))⟩
end Go.Proofs.Ytonilmpodijgeaa
