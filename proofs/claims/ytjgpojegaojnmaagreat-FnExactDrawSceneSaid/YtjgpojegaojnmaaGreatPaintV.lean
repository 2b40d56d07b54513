/-
  Valid paints: the walks.
-/
import Derived.Test.YtjgpojegaojnmaaGreatStops
import Derived.Test.YtjgpojegaojnmaaGreatMg3
namespace Go.Proofs.YtjgpojegaojnmaaGreat
open Go Go.RowKit Reg
attribute [local go_sem] calmAt calmUpon
def paB (f t : Pt) (ss : List St) : Bool := stB ss && vpB f && vpB t
abbrev paV (f t : Pt) (A : Option Addr) (n cap : Nat) : Value := .agg #[.int .i64 f.1, .int .i64 f.2, .int .i64 t.1, .int .i64 t.2, .slice A n cap]
theorem paB_iff {f t : Pt} {ss : List St} : paB f t ss = true ↔ stB ss = true ∧ vpB f = true ∧ vpB t = true := by simp [paB, and_assoc]
set_option maxHeartbeats 2000000 in
theorem c_iPaintValid (f t : Pt) (A : Option Addr) (cap : Nat) (ss : List St) (w : World) (h : Sts w A ss) (hl : ss.length ≤ 1000000000) :
    Calls Tryz.prog 103 #[paV f t A ss.length cap] w fun e w' => e = .returned (.bool (paB f t ss)) ∧ Below w.heap.size w w' := by
  have H := Lib.hid h
  clear h
  have R0 : Hid (Row (w.alloc (.cells #[.int .i64 f.1, .int .i64 f.2, .int .i64 t.1, .int .i64 t.2, .slice A ss.length cap] 57)) w.heap.size 57 [.int .i64 f.1, .int .i64 f.2, .int .i64 t.1, .int .i64 t.2, .slice A ss.length cap]) := Lib.hid (Row.new w 57 [.int .i64 f.1, .int .i64 f.2, .int .i64 t.1, .int .i64 t.2, .slice A ss.length cap])
  have E0 := Lib.hid (ext_alloc w (.cells #[.int .i64 f.1, .int .i64 f.2, .int .i64 t.1, .int .i64 t.2, .slice A ss.length cap] 57))
  obtain ⟨d1, hd1⟩ : ∃ d, stB ss = d := ⟨_, rfl⟩
  obtain ⟨d2, hd2⟩ : ∃ d, vpB f = d := ⟨_, rfl⟩
  obtain ⟨d3, hd3⟩ : ∃ d, vpB t = d := ⟨_, rfl⟩
  have Hp : Hid (paB f t ss = (d1 && d2 && d3)) := Lib.hid (by unfold paB; rw [hd1, hd2, hd3])
  rw [Hp.out]
  have H1 := Lib.hid hd1
  have H2 := Lib.hid hd2
  have H3 := Lib.hid hd3
  clear hd1 hd2 hd3
  go_enter Tryz.func103, Tryz.ntmps103
  go_wp2_with fail
  refine (c_iValidStops A cap ss _ (H.out.ext stR_stab E0.out) hl).mono ?_; rw [H1.out]; rintro e w1 ⟨rfl, hb1⟩
  have E1 := Lib.hid (Ext.trans E0.out hb1)
  have G1 := R0.out.ext hb1
  have c0 := G1.cell_of (i := 0) rfl
  have c1 := G1.cell_of (i := 1) rfl
  have c2 := G1.cell_of (i := 2) rfl
  have c3 := G1.cell_of (i := 3) rfl
  have c4 := G1.cell_of (i := 4) rfl
  have HG1 := Lib.hid G1
  clear hb1 G1
  cases d1
  · go_wp2
    go_ret
    exact ⟨rfl, E1.out⟩
  · go_wp2_with fail
    refine (c_ptvalid f w1).mono ?_; rw [H2.out]; rintro e w2 ⟨rfl, hb2⟩
    have E2 := Lib.hid (Ext.trans E1.out hb2)
    have G2 := HG1.out.ext hb2
    clear c0 c1 c2 c3 c4 hb2
    have c2 := G2.cell_of (i := 2) rfl
    have c3 := G2.cell_of (i := 3) rfl
    clear G2
    cases d2
    · go_wp2
      go_ret
      exact ⟨rfl, E2.out⟩
    · go_wp2_with fail
      refine (c_ptvalid t w2).mono ?_; rw [H3.out]; rintro e w3 ⟨rfl, hb3⟩
      have E3 := Lib.hid (Ext.trans E2.out hb3)
      clear hb3
      go_wp2
      go_ret
      exact ⟨rfl, E3.out⟩
set_option maxHeartbeats 2000000 in
theorem c_sPaintValid (f t : Pt) (A : Option Addr) (cap : Nat) (ss : List St) (w : World) (h : Sts w A ss) (hl : ss.length ≤ 1000000000) :
    Calls Tryz.prog 73 #[paV f t A ss.length cap] w fun e w' => e = .returned (.bool (paB f t ss)) ∧ Below w.heap.size w w' := by
  have H := Lib.hid h
  clear h
  have R0 : Hid (Row (w.alloc (.cells #[.int .i64 f.1, .int .i64 f.2, .int .i64 t.1, .int .i64 t.2, .slice A ss.length cap] 57)) w.heap.size 57 [.int .i64 f.1, .int .i64 f.2, .int .i64 t.1, .int .i64 t.2, .slice A ss.length cap]) := Lib.hid (Row.new w 57 [.int .i64 f.1, .int .i64 f.2, .int .i64 t.1, .int .i64 t.2, .slice A ss.length cap])
  have E0 := Lib.hid (ext_alloc w (.cells #[.int .i64 f.1, .int .i64 f.2, .int .i64 t.1, .int .i64 t.2, .slice A ss.length cap] 57))
  obtain ⟨d1, hd1⟩ : ∃ d, stB ss = d := ⟨_, rfl⟩
  obtain ⟨d2, hd2⟩ : ∃ d, vpB f = d := ⟨_, rfl⟩
  obtain ⟨d3, hd3⟩ : ∃ d, vpB t = d := ⟨_, rfl⟩
  have Hp : Hid (paB f t ss = (d1 && d2 && d3)) := Lib.hid (by unfold paB; rw [hd1, hd2, hd3])
  rw [Hp.out]
  have H1 := Lib.hid hd1
  have H2 := Lib.hid hd2
  have H3 := Lib.hid hd3
  clear hd1 hd2 hd3
  go_enter Tryz.func73, Tryz.ntmps73
  go_wp2_with fail
  refine (c_sValidStops A cap ss _ (H.out.ext stR_stab E0.out) hl).mono ?_; rw [H1.out]; rintro e w1 ⟨rfl, hb1⟩
  have E1 := Lib.hid (Ext.trans E0.out hb1)
  have G1 := R0.out.ext hb1
  have c0 := G1.cell_of (i := 0) rfl
  have c1 := G1.cell_of (i := 1) rfl
  have c2 := G1.cell_of (i := 2) rfl
  have c3 := G1.cell_of (i := 3) rfl
  have c4 := G1.cell_of (i := 4) rfl
  have HG1 := Lib.hid G1
  clear hb1 G1
  cases d1
  · go_wp2
    go_ret
    exact ⟨rfl, E1.out⟩
  · go_wp2_with fail
    refine (c_validPoint f w1).mono ?_; rw [H2.out]; rintro e w2 ⟨rfl, hb2⟩
    have E2 := Lib.hid (Ext.trans E1.out hb2)
    have G2 := HG1.out.ext hb2
    clear c0 c1 c2 c3 c4 hb2
    have c2 := G2.cell_of (i := 2) rfl
    have c3 := G2.cell_of (i := 3) rfl
    clear G2
    cases d2
    · go_wp2
      go_ret
      exact ⟨rfl, E2.out⟩
    · go_wp2_with fail
      refine (c_validPoint t w2).mono ?_; rw [H3.out]; rintro e w3 ⟨rfl, hb3⟩
      have E3 := Lib.hid (Ext.trans E2.out hb3)
      clear hb3
      go_wp2
      go_ret
      exact ⟨rfl, E3.out⟩
end Go.Proofs.YtjgpojegaojnmaaGreat
