/-
  Several texts in one: PaintV, PaintE.
-/
import Derived.Test.YtagmnbphbakikaaGreatMg19
import Derived.Test.YtagmnbphbakikaaGreatMg3
import Derived.Test.YtagmnbphbakikaaGreatMg1
namespace Go.Proofs.YtagmnbphbakikaaGreat
open Go Go.RowKit Reg
attribute [local go_sem] calmAt calmUpon
def paB (f t : Pt) (ss : List St) : Bool := stB ss && vpB f && vpB t
abbrev paV (f t : Pt) (A : Option Addr) (n cap : Nat) : Value := .agg #[.int .i64 f.1, .int .i64 f.2, .int .i64 t.1, .int .i64 t.2, .slice A n cap]
theorem paB_iff {f t : Pt} {ss : List St} : paB f t ss = true ↔ stB ss = true ∧ vpB f = true ∧ vpB t = true := by simp [paB, and_assoc]
set_option maxHeartbeats 2000000 in
theorem c_iPaintValid (f t : Pt) (A : Option Addr) (cap : Nat) (ss : List St) (w : World) (h : Sts w A ss) (hl : ss.length ≤ 1000000000) :
    Calls Tryz.prog 119 #[paV f t A ss.length cap] w fun e w' => e = .returned (.bool (paB f t ss)) ∧ Below w.heap.size w w' := by
  have H := Lib.hid h
  clear h
  have R0 : Hid (Row (w.alloc (.cells #[.int .i64 f.1, .int .i64 f.2, .int .i64 t.1, .int .i64 t.2, .slice A ss.length cap] 48)) w.heap.size 48 [.int .i64 f.1, .int .i64 f.2, .int .i64 t.1, .int .i64 t.2, .slice A ss.length cap]) := Lib.hid (Row.new w 48 [.int .i64 f.1, .int .i64 f.2, .int .i64 t.1, .int .i64 t.2, .slice A ss.length cap])
  have E0 := Lib.hid (ext_alloc w (.cells #[.int .i64 f.1, .int .i64 f.2, .int .i64 t.1, .int .i64 t.2, .slice A ss.length cap] 48))
  obtain ⟨d1, hd1⟩ : ∃ d, stB ss = d := ⟨_, rfl⟩
  obtain ⟨d2, hd2⟩ : ∃ d, vpB f = d := ⟨_, rfl⟩
  obtain ⟨d3, hd3⟩ : ∃ d, vpB t = d := ⟨_, rfl⟩
  have Hp : Hid (paB f t ss = (d1 && d2 && d3)) := Lib.hid (by unfold paB; rw [hd1, hd2, hd3])
  rw [Hp.out]
  have H1 := Lib.hid hd1
  have H2 := Lib.hid hd2
  have H3 := Lib.hid hd3
  clear hd1 hd2 hd3
  go_enter Tryz.func119, Tryz.ntmps119
  go_wp2_with fail
  refine (c_iValidStops A cap ss _ (H.out.ext stR_stab E0.out) hl).mono ?_; rw [H1.out]; rintro e w1 ⟨rfl, hb1⟩
  have E1 := Lib.hid (Ext.trans E0.out hb1)
  have G1 := R0.out.ext hb1
  have c0 := G1.cell_of (i := 0) rfl
  have c1 := G1.cell_of (i := 1) rfl
  have c2 := G1.cell_of (i := 2) rfl
  have c3 := G1.cell_of (i := 3) rfl
  have c4 := G1.cell_of (i := 4) rfl
  have HG1 := Lib.hid G1
  clear hb1 G1
  cases d1
  · go_wp2
    go_ret
    exact ⟨rfl, E1.out⟩
  · go_wp2_with fail
    refine (c_ptvalid f w1).mono ?_; rw [H2.out]; rintro e w2 ⟨rfl, hb2⟩
    have E2 := Lib.hid (Ext.trans E1.out hb2)
    have G2 := HG1.out.ext hb2
    clear c0 c1 c2 c3 c4 hb2
    have c2 := G2.cell_of (i := 2) rfl
    have c3 := G2.cell_of (i := 3) rfl
    clear G2
    cases d2
    · go_wp2
      go_ret
      exact ⟨rfl, E2.out⟩
    · go_wp2_with fail
      refine (c_ptvalid t w2).mono ?_; rw [H3.out]; rintro e w3 ⟨rfl, hb3⟩
      have E3 := Lib.hid (Ext.trans E2.out hb3)
      clear hb3
      go_wp2
      go_ret
      exact ⟨rfl, E3.out⟩
set_option maxHeartbeats 2000000 in
theorem c_sPaintValid (f t : Pt) (A : Option Addr) (cap : Nat) (ss : List St) (w : World) (h : Sts w A ss) (hl : ss.length ≤ 1000000000) :
    Calls Tryz.prog 68 #[paV f t A ss.length cap] w fun e w' => e = .returned (.bool (paB f t ss)) ∧ Below w.heap.size w w' := by
  have H := Lib.hid h
  clear h
  have R0 : Hid (Row (w.alloc (.cells #[.int .i64 f.1, .int .i64 f.2, .int .i64 t.1, .int .i64 t.2, .slice A ss.length cap] 48)) w.heap.size 48 [.int .i64 f.1, .int .i64 f.2, .int .i64 t.1, .int .i64 t.2, .slice A ss.length cap]) := Lib.hid (Row.new w 48 [.int .i64 f.1, .int .i64 f.2, .int .i64 t.1, .int .i64 t.2, .slice A ss.length cap])
  have E0 := Lib.hid (ext_alloc w (.cells #[.int .i64 f.1, .int .i64 f.2, .int .i64 t.1, .int .i64 t.2, .slice A ss.length cap] 48))
  obtain ⟨d1, hd1⟩ : ∃ d, stB ss = d := ⟨_, rfl⟩
  obtain ⟨d2, hd2⟩ : ∃ d, vpB f = d := ⟨_, rfl⟩
  obtain ⟨d3, hd3⟩ : ∃ d, vpB t = d := ⟨_, rfl⟩
  have Hp : Hid (paB f t ss = (d1 && d2 && d3)) := Lib.hid (by unfold paB; rw [hd1, hd2, hd3])
  rw [Hp.out]
  have H1 := Lib.hid hd1
  have H2 := Lib.hid hd2
  have H3 := Lib.hid hd3
  clear hd1 hd2 hd3
  go_enter Tryz.func68, Tryz.ntmps68
  go_wp2_with fail
  refine (c_sValidStops A cap ss _ (H.out.ext stR_stab E0.out) hl).mono ?_; rw [H1.out]; rintro e w1 ⟨rfl, hb1⟩
  have E1 := Lib.hid (Ext.trans E0.out hb1)
  have G1 := R0.out.ext hb1
  have c0 := G1.cell_of (i := 0) rfl
  have c1 := G1.cell_of (i := 1) rfl
  have c2 := G1.cell_of (i := 2) rfl
  have c3 := G1.cell_of (i := 3) rfl
  have c4 := G1.cell_of (i := 4) rfl
  have HG1 := Lib.hid G1
  clear hb1 G1
  cases d1
  · go_wp2
    go_ret
    exact ⟨rfl, E1.out⟩
  · go_wp2_with fail
    refine (c_validPoint f w1).mono ?_; rw [H2.out]; rintro e w2 ⟨rfl, hb2⟩
    have E2 := Lib.hid (Ext.trans E1.out hb2)
    have G2 := HG1.out.ext hb2
    clear c0 c1 c2 c3 c4 hb2
    have c2 := G2.cell_of (i := 2) rfl
    have c3 := G2.cell_of (i := 3) rfl
    clear G2
    cases d2
    · go_wp2
      go_ret
      exact ⟨rfl, E2.out⟩
    · go_wp2_with fail
      refine (c_validPoint t w2).mono ?_; rw [H3.out]; rintro e w3 ⟨rfl, hb3⟩
      have E3 := Lib.hid (Ext.trans E2.out hb3)
      clear hb3
      go_wp2
      go_ret
      exact ⟨rfl, E3.out⟩
end Go.Proofs.YtagmnbphbakikaaGreat
namespace Go.Proofs.YtagmnbphbakikaaGreat
open Go Go.RowKit Go.ChangeShapes Go.WideShapes Go.ChangeAt Go.Deep Reg
attribute [local go_sem] Reg.calmAt Reg.calmUpon
/-- What is read as a paint. -/
def paR4 : World → Pt × Pt × List St → List Value → Prop := fun w x us => ∃ A cap, us = [.int .i64 x.1.1, .int .i64 x.1.2, .int .i64 x.2.1.1, .int .i64 x.2.1.2, .slice A x.2.2.length cap] ∧ Sts w A x.2.2 ∧ x.2.2.length ≤ cap ∧ cap ≤ maxLen
theorem opens_st {P : Program} {t : TypeId} {f0 f1 : Field} (ht : P.underlying t = some (.struct #[f0, f1])) (hc : P.cellsOf t = 1 + 4) (o0 : f0.offset = 0) (o1 : f1.offset = 1)
    (k0 : P.cellsOf f0.type = 1) (k1 : P.cellsOf f1.type = 4) (h0 : P.underlying f0.type = some (.int .i64)) (hb : Opens P f1.type bxR) : Opens P t stR :=
  Opens.mono (opens_struct2 (c0 := 1) (c1 := 4) ht hc o0 o1 k0 k1 (opens_int h0) hb) fun w x us ⟨u0, u1, r0, r1, e⟩ => ⟨x, by
    have e0 : u0 = [.int .i64 x.1] := r0
    have e1 : u1 = [.int .i64 x.2.1, .int .i64 x.2.2.1, .int .i64 x.2.2.2.1, .int .i64 x.2.2.2.2] := r1
    subst e0 e1
    exact e⟩
theorem opens_pa {P : Program} {t : TypeId} {f0 f1 f2 : Field} (ht : P.underlying t = some (.struct #[f0, f1, f2])) (hc : P.cellsOf t = 5) (ho : (f0.offset, f1.offset, f2.offset) = (0, 2, 4))
    (hk : (P.cellsOf f0.type, P.cellsOf f1.type, P.cellsOf f2.type) = (2, 2, 1)) (h0 : Opens P f0.type ptR) (h1 : Opens P f1.type ptR) (h2 : Opens P f2.type (slR stR 5)) : Opens P t paR4 := by
  intro H enc w base spare held n cs y h
  obtain ⟨xs, m, _, _, hl, hlen, hf⟩ := DataW.trod_struct ht h
  injection ho with o0 ho
  injection ho with o1 o2
  injection hk with k0 hk
  injection hk with k1 k2
  match xs, hlen with
  | [y0, y1, y2], _ =>
    have q0 := hf 0 f0 rfl
    have q1 := hf 1 f1 rfl
    have q2 := hf 2 f2 rfl
    simp only [List.getElem?_cons_zero, List.getElem?_cons_succ] at q0 q1 q2
    rw [o0, k0] at q0
    rw [o1, k1] at q1
    rw [o2, k2] at q2
    obtain ⟨x0, r0⟩ := h0 enc w base spare held m _ _ q0
    obtain ⟨x1, r1⟩ := h1 enc w base spare held m _ _ q1
    obtain ⟨x2, A, cap, r2, s1, _, s3, s4, _⟩ := h2 enc w base spare held m _ _ q2
    rw [hc] at hl
    match cs, hl with
    | [c0, c1, c2, c3, c4], _ =>
      have e0 : [c0, c1] = [.int .i64 x0.1, .int .i64 x0.2] := r0
      have e1 : [c2, c3] = [.int .i64 x1.1, .int .i64 x1.2] := r1
      have e2 : [c4] = [.slice A x2.length cap] := r2
      injection e0 with a0 e0
      injection e0 with a1 _
      injection e1 with a2 e1
      injection e1 with a3 _
      injection e2 with a4 _
      subst a0 a1 a2 a3 a4
      exact ⟨(x0, x1, x2), A, cap, rfl, s1, s3, s4⟩
set_option maxHeartbeats 400000 in
theorem c_szStopS (A : Option Addr) (n cap : Nat) (left : Int) (w : World) (h0 : 0 ≤ left) (h1 : left ≤ 4611686018427387904) (hn : n ≤ 9223372036854775807) :
    Calls Tryz.prog 63 #[.slice A n cap, .int .i64 left] w fun e w' => e = .returned (.int .i64 (if left - n < 0 then -1 else left - n)) ∧ w = w' := by
  by_cases h : left - n < 0
  all_goals
    go_enter Tryz.func63, Tryz.ntmps63
    go_wp2
    go_ret
    exact ⟨ret_i (by simp), rfl⟩
set_option maxHeartbeats 1000000 in
theorem c_szPaint (f t : Pt) (A : Option Addr) (n cap : Nat) (w : World) (hn : n ≤ 9223372036854775807) :
    Calls Tryz.prog 26 #[paV f t A n cap, .int .i64 1048576] w fun e w' => e = .returned (.int .i64 (if (1048576 : Int) - n < 0 then -1 else 1048576 - n)) ∧ Below w.heap.size w w' := by
  have K := Lib.hid (fun W => c_szStopS A n cap 1048576 W (by omega) (by omega) hn)
  have E := Lib.hid (Below.refl w.heap.size w)
  by_cases h : (1048576 : Int) - (n : Int) < 0
  · have hv : (if (1048576 : Int) - (n : Int) < 0 then (-1 : Int) else 1048576 - n) = -1 := if_pos h
    rw [hv] at K ⊢
    clear hv
    go_enter Tryz.func26, Tryz.ntmps26
    go_wp2_with fail
    first | refine gen_calls ?_ | refine gen_code ?_ | refine gen_list ?_
    intro w0 hW
    obtain ⟨hb, hR0⟩ := new1 hW
    clear hW
    replace E := Lib.hid (Ext.trans E.out hb)
    clear hb
    have R0 := Lib.hid hR0
    have lR0 := R0.out.lt
    clear hR0
    have c0 := R0.out.cell_of (i := 0) rfl
    have c1 := R0.out.cell_of (i := 1) rfl
    have c2 := R0.out.cell_of (i := 2) rfl
    have c3 := R0.out.cell_of (i := 3) rfl
    have c4 := R0.out.cell_of (i := 4) rfl
    go_wp2_with fail
    refine (K.out _).mono ?_
    rintro e w' ⟨rfl, rfl⟩
    go_wp2
    go_ret
    exact ⟨rfl, E.out⟩
  · have hv : (if (1048576 : Int) - (n : Int) < 0 then (-1 : Int) else 1048576 - n) = 1048576 - n := if_neg h
    rw [hv] at K ⊢
    clear hv
    go_enter Tryz.func26, Tryz.ntmps26
    go_wp2_with fail
    first | refine gen_calls ?_ | refine gen_code ?_ | refine gen_list ?_
    intro w0 hW
    obtain ⟨hb, hR0⟩ := new1 hW
    clear hW
    replace E := Lib.hid (Ext.trans E.out hb)
    clear hb
    have R0 := Lib.hid hR0
    have lR0 := R0.out.lt
    clear hR0
    have c0 := R0.out.cell_of (i := 0) rfl
    have c1 := R0.out.cell_of (i := 1) rfl
    have c2 := R0.out.cell_of (i := 2) rfl
    have c3 := R0.out.cell_of (i := 3) rfl
    have c4 := R0.out.cell_of (i := 4) rfl
    go_wp2_with fail
    refine (K.out _).mono ?_
    rintro e w' ⟨rfl, rfl⟩
    go_wp2
    go_ret
    exact ⟨rfl, E.out⟩
set_option maxHeartbeats 1000000 in
theorem c_toColor (b : Bx4) (w : World) : Calls Tryz.prog 148 #[bx4V b] w fun e w' => e = .returned (bx4V b) ∧ Below w.heap.size w w' := by
  go_enter Tryz.func148, Tryz.ntmps148
  go_wp2
  exact bodyPost_ret (v := bx4V b) (by simp [results, Tryz.results148, go_sem]) rfl ⟨rfl, (by repeat (first | exact Below.refl _ _ | assumption | refine Below.drew ?_ | refine Below.alloc ?_ (by first | exact Nat.le_refl _ | omega | (simp; done) | (simp; omega)) _ | refine Below.setCell ?_ (by first | exact Nat.le_refl _ | omega | (simp; done) | (simp; omega)) _))⟩
set_option maxRecDepth 100000 in
set_option maxHeartbeats 2000000 in
theorem c_toStop (s : St) (w : World) : Calls Tryz.prog 114 #[.agg #[.int .i64 s.1, .int .i64 s.2.1, .int .i64 s.2.2.1, .int .i64 s.2.2.2.1, .int .i64 s.2.2.2.2]] w fun e w' => e = .returned (.agg #[.int .i64 s.1, .int .i64 s.2.1, .int .i64 s.2.2.1, .int .i64 s.2.2.2.1, .int .i64 s.2.2.2.2]) ∧ Below w.heap.size w w' := by
  obtain ⟨s0, s1, s2, s3, s4⟩ := s
  go_enter Tryz.func114, Tryz.ntmps114
  go_wp2_with fail
  refine (c_toColor (s1, s2, s3, s4) _).mono ?_
  rintro e w1 ⟨rfl, hx⟩
  have E1 := Lib.hid (Ext.trans ((by repeat (first | exact Below.refl _ _ | assumption | refine Below.drew ?_ | refine Below.alloc ?_ (by first | exact Nat.le_refl _ | omega | (simp; done) | (simp; omega)) _ | refine Below.setCell ?_ (by first | exact Nat.le_refl _ | omega | (simp; done) | (simp; omega)) _)) : Below w.heap.size w _) hx)
  have r3 : Row w1 (w.heap.size + 1 + 1) 168 [.int .i64 s0, .int .i64 0, .int .i64 0, .int .i64 0, .int .i64 0] := Row.ext (by
    have := Row.new ((w.alloc (Obj.cells #[Value.int .i64 s0, Value.int .i64 s1, Value.int .i64 s2, Value.int .i64 s3, Value.int .i64 s4] 172)).alloc (Obj.cells #[Value.int .i64 0, Value.int .i64 0, Value.int .i64 0, Value.int .i64 0, Value.int .i64 0] 168)) 168 [.int .i64 s0, .int .i64 0, .int .i64 0, .int .i64 0, .int .i64 0]
    simpa only [World.size_alloc] using this) hx
  have r2 : Row w1 (w.heap.size + 1) 168 [.int .i64 0, .int .i64 0, .int .i64 0, .int .i64 0, .int .i64 0] := Row.ext (by
    have := (Row.new (w.alloc (Obj.cells #[Value.int .i64 s0, Value.int .i64 s1, Value.int .i64 s2, Value.int .i64 s3, Value.int .i64 s4] 172)) 168 [.int .i64 0, .int .i64 0, .int .i64 0, .int .i64 0, .int .i64 0]).alloc (Obj.cells #[Value.int .i64 s0, Value.int .i64 0, Value.int .i64 0, Value.int .i64 0, Value.int .i64 0] 168)
    simpa only [World.size_alloc] using this) hx
  have c30 := r3.cell_of (i := 0) rfl
  have f30 := r3.frozen 0
  have c20 := r2.cell_of (i := 0) rfl
  have f20 := r2.frozen 0
  have c31 := r3.cell_of (i := 1) rfl
  have f31 := r3.frozen 1
  have c21 := r2.cell_of (i := 1) rfl
  have f21 := r2.frozen 1
  have c32 := r3.cell_of (i := 2) rfl
  have f32 := r3.frozen 2
  have c22 := r2.cell_of (i := 2) rfl
  have f22 := r2.frozen 2
  have c33 := r3.cell_of (i := 3) rfl
  have f33 := r3.frozen 3
  have c23 := r2.cell_of (i := 3) rfl
  have f23 := r2.frozen 3
  have c34 := r3.cell_of (i := 4) rfl
  have f34 := r3.frozen 4
  have c24 := r2.cell_of (i := 4) rfl
  have f24 := r2.frozen 4
  have q0 := ((((r2.far (p := ⟨w.heap.size + 1 + 1, 1, none⟩) (by show w.heap.size + 1 ≠ w.heap.size + 1 + 1; omega) (.int .i64 s1)).far (p := ⟨w.heap.size + 1 + 1, 2, none⟩) (by show w.heap.size + 1 ≠ w.heap.size + 1 + 1; omega) (.int .i64 s2)).far (p := ⟨w.heap.size + 1 + 1, 3, none⟩) (by show w.heap.size + 1 ≠ w.heap.size + 1 + 1; omega) (.int .i64 s3)).far (p := ⟨w.heap.size + 1 + 1, 4, none⟩) (by show w.heap.size + 1 ≠ w.heap.size + 1 + 1; omega) (.int .i64 s4))
  have q1 := q0.set_ 0 (.int .i64 s0)
  have q2 := q1.set_ 1 (.int .i64 s1)
  have q3 := q2.set_ 2 (.int .i64 s2)
  have q4 := q3.set_ 3 (.int .i64 s3)
  have q5 := q4.set_ 4 (.int .i64 s4)
  have g10 := q1.cell_of (i := 0) rfl
  have g11 := q1.cell_of (i := 1) rfl
  have g12 := q1.cell_of (i := 2) rfl
  have g13 := q1.cell_of (i := 3) rfl
  have g14 := q1.cell_of (i := 4) rfl
  have g20 := q2.cell_of (i := 0) rfl
  have g21 := q2.cell_of (i := 1) rfl
  have g22 := q2.cell_of (i := 2) rfl
  have g23 := q2.cell_of (i := 3) rfl
  have g24 := q2.cell_of (i := 4) rfl
  have g30 := q3.cell_of (i := 0) rfl
  have g31 := q3.cell_of (i := 1) rfl
  have g32 := q3.cell_of (i := 2) rfl
  have g33 := q3.cell_of (i := 3) rfl
  have g34 := q3.cell_of (i := 4) rfl
  have g40 := q4.cell_of (i := 0) rfl
  have g41 := q4.cell_of (i := 1) rfl
  have g42 := q4.cell_of (i := 2) rfl
  have g43 := q4.cell_of (i := 3) rfl
  have g44 := q4.cell_of (i := 4) rfl
  have g50 := q5.cell_of (i := 0) rfl
  have g51 := q5.cell_of (i := 1) rfl
  have g52 := q5.cell_of (i := 2) rfl
  have g53 := q5.cell_of (i := 3) rfl
  have g54 := q5.cell_of (i := 4) rfl
  clear hx r3 r2
  go_wp2
  exact bodyPost_ret (v := .agg #[.int .i64 s0, .int .i64 s1, .int .i64 s2, .int .i64 s3, .int .i64 s4]) (by simp [results, Tryz.results114, go_sem, g50, g51, g52, g53, g54]) rfl ⟨rfl, (((((((((E1.out.setCell (by first | (simp; done) | (simp; omega)) _).setCell (by first | (simp; done) | (simp; omega)) _).setCell (by first | (simp; done) | (simp; omega)) _).setCell (by first | (simp; done) | (simp; omega)) _).setCell (by first | (simp; done) | (simp; omega)) _).setCell (by first | (simp; done) | (simp; omega)) _).setCell (by first | (simp; done) | (simp; omega)) _).setCell (by first | (simp; done) | (simp; omega)) _).setCell (by first | (simp; done) | (simp; omega)) _)⟩
set_option maxRecDepth 100000 in
set_option maxHeartbeats 2000000 in
theorem c_toStopS (A : Option Addr) (cap : Nat) (ss : List St) (w : World) (h : Sts w A ss) (hl : ss.length ≤ 1048576) :
    Calls Tryz.prog 76 #[.slice A ss.length cap] w fun e w' => ∃ b, e = .returned (.slice (some ⟨b, 0, none⟩) ss.length ss.length) ∧ w.heap.size ≤ b ∧ Row w' b 168 (ss.flatMap stC) ∧ Below w.heap.size w w' := by
  have hmk := fun W => run_make_fill ei_st stC ss (by omega) W
  have H := Lib.hid h
  clear h
  go_enter Tryz.func76, Tryz.ntmps76
  go_wp2_with fail
  go_loopw [4] (fun i wr => ∃ k : Nat, k ≤ ss.length ∧ i = .int .i64 k ∧ Row wr w.heap.size 168 (fillC stC [.int .i64 0, .int .i64 0, .int .i64 0, .int .i64 0, .int .i64 0] ss k) ∧ Below w.heap.size w wr) (fun i _ => ss.length - (intOf i).toNat)
  case atStart => exact ⟨0, Nat.zero_le _, rfl, Row.new _ _ _, ext_alloc _ _⟩
  case round =>
    obtain ⟨k, hk, rfl, hr, hbw⟩ := hrel
    have R := Lib.hid hr
    have E := Lib.hid hbw
    clear hmk hr hbw
    by_cases hlt : k < ss.length
    · obtain ⟨b, off, hA, _hb, hc⟩ := (H.out.ext stR_stab E.out).sts (by omega)
      subst hA
      obtain ⟨x0, x1, x2, x3, x4⟩ := hc k hlt
      have Hn : Hid (setAll (fillC stC [.int .i64 0, .int .i64 0, .int .i64 0, .int .i64 0, .int .i64 0] ss k) (k * 5) (stC ss[k]) = fillC stC [.int .i64 0, .int .i64 0, .int .i64 0, .int .i64 0, .int .i64 0] ss (k + 1)) := Lib.hid (fillC_set stC_len rfl hlt)
      have z0 := fillC_get (enc := stC) (z := [.int .i64 0, .int .i64 0, .int .i64 0, .int .i64 0, .int .i64 0]) (j := 0) stC_len rfl hlt (by decide)
      have z1 := fillC_get (enc := stC) (z := [.int .i64 0, .int .i64 0, .int .i64 0, .int .i64 0, .int .i64 0]) (j := 1) stC_len rfl hlt (by decide)
      have z2 := fillC_get (enc := stC) (z := [.int .i64 0, .int .i64 0, .int .i64 0, .int .i64 0, .int .i64 0]) (j := 2) stC_len rfl hlt (by decide)
      have z3 := fillC_get (enc := stC) (z := [.int .i64 0, .int .i64 0, .int .i64 0, .int .i64 0, .int .i64 0]) (j := 3) stC_len rfl hlt (by decide)
      have z4 := fillC_get (enc := stC) (z := [.int .i64 0, .int .i64 0, .int .i64 0, .int .i64 0, .int .i64 0]) (j := 4) stC_len rfl hlt (by decide)
      generalize fillC stC [.int .i64 0, .int .i64 0, .int .i64 0, .int .i64 0, .int .i64 0] ss k = cs at *
      generalize ss[k] = s at *
      clear hc
      go_wp2_with fail
      refine (c_toStop s _).mono ?_
      rintro e w1 ⟨rfl, hb1⟩
      have R1 := Lib.hid (R.out.ext hb1)
      have E1 := Lib.hid (Ext.trans E.out hb1)
      have y0 := R1.out.cell_of (i := k * 5) z0
      have y1 := R1.out.cell_of (i := k * 5 + 1) z1
      have y2 := R1.out.cell_of (i := k * 5 + 2) z2
      have y3 := R1.out.cell_of (i := k * 5 + 3) z3
      have y4 := R1.out.cell_of (i := k * 5 + 4) z4
      have f0 := R1.out.frozen (k * 5)
      have f1 := R1.out.frozen (k * 5 + 1)
      have f2 := R1.out.frozen (k * 5 + 2)
      have f3 := R1.out.frozen (k * 5 + 3)
      have f4 := R1.out.frozen (k * 5 + 4)
      have R2 : Hid (Row (((((w1.setCell ⟨w.heap.size, k * 5, none⟩ (.int .i64 s.1)).setCell ⟨w.heap.size, k * 5 + 1, none⟩ (.int .i64 s.2.1)).setCell ⟨w.heap.size, k * 5 + 2, none⟩ (.int .i64 s.2.2.1)).setCell ⟨w.heap.size, k * 5 + 3, none⟩ (.int .i64 s.2.2.2.1)).setCell ⟨w.heap.size, k * 5 + 4, none⟩ (.int .i64 s.2.2.2.2)) w.heap.size 168 (fillC stC [.int .i64 0, .int .i64 0, .int .i64 0, .int .i64 0, .int .i64 0] ss (k + 1))) := Lib.hid (by
        rw [← Hn.out]
        exact ((((R1.out.set_ (k * 5) _).set_ (k * 5 + 1) _).set_ (k * 5 + 2) _).set_ (k * 5 + 3) _).set_ (k * 5 + 4) _)
      clear hb1 z0 z1 z2 z3 z4
      go_wp2
      go_roundw
      case rel => exact ⟨k + 1, by omega, by go_num, R2.out, ((((E1.out.setCell (Nat.le_refl _) _).setCell (Nat.le_refl _) _).setCell (Nat.le_refl _) _).setCell (Nat.le_refl _) _).setCell (Nat.le_refl _) _⟩
      case measure => simp [intOf]; omega
    · obtain rfl : k = ss.length := by omega
      have R2 : Hid (Row wr w.heap.size 168 (ss.flatMap stC)) := Lib.hid (by have := R.out; rw [fillC_all] at this; exact this)
      go_wp2
      go_ret
      exact ⟨_, rfl, Nat.le_refl _, R2.out, E.out⟩
theorem sts_row {w : World} {b : Nat} {e : TypeId} {ss : List St} (h : Row w b e (ss.flatMap stC)) : Sts w (some ⟨b, 0, none⟩) ss := Row.in_ (rest := []) (enc := stC) stC_len (by simpa using h) (fun _ _ => rfl)
set_option maxRecDepth 100000 in
set_option maxHeartbeats 2000000 in
theorem c_toPaintO (f t : Pt) (A : Option Addr) (cap : Nat) (ss : List St) (w : World) (h : Sts w A ss) (hl : ss.length ≤ 1048576) :
    Calls Tryz.prog 36 #[paV f t A ss.length cap] w fun e w' => ∃ b, e = .returned (paV f t (some ⟨b, 0, none⟩) ss.length ss.length) ∧ w.heap.size ≤ b ∧ Row w' b 168 (ss.flatMap stC) ∧ Below w.heap.size w w' := by
  have H := Lib.hid h
  have E := Lib.hid (Below.refl w.heap.size w)
  clear h
  go_enter Tryz.func36, Tryz.ntmps36
  go_wp2_with fail
  first | refine gen_calls ?_ | refine gen_code ?_ | refine gen_list ?_
  intro w0 hW
  obtain ⟨hb, hR1, hR2, hR3⟩ := new3 hW
  clear hW
  replace E := Lib.hid (Ext.trans E.out hb)
  clear hb
  have R1 := Lib.hid hR1
  have lR1 := R1.out.lt
  clear hR1
  have R2 := Lib.hid hR2
  have lR2 := R2.out.lt
  clear hR2
  have R3 := Lib.hid hR3
  have lR3 := R3.out.lt
  clear hR3
  refine (c_toPoint f w0).mono ?_
  rintro e w1 ⟨rfl, hb⟩
  have A1 := R1.out.ext hb
  have A2 := R2.out.ext hb
  have A3 := R3.out.ext hb
  have E1 := Ext.trans E.out hb
  have a0 := A1.cell_of (i := 0) rfl
  have a1 := A1.cell_of (i := 1) rfl
  have a2 := A1.cell_of (i := 2) rfl
  have a3 := A1.cell_of (i := 3) rfl
  have a4 := A1.cell_of (i := 4) rfl
  have c0 := A3.cell_of (i := 0) rfl
  have c1 := A3.cell_of (i := 1) rfl
  have f0 := A3.frozen 0
  have f1 := A3.frozen 1
  have B1 := (A1.far (p := ⟨w.heap.size + 1 + 1, 0, none⟩) (by show w.heap.size ≠ w.heap.size + 1 + 1; omega) (.int .i64 f.1)).far (p := ⟨w.heap.size + 1 + 1, 1, none⟩) (by show w.heap.size ≠ w.heap.size + 1 + 1; omega) (.int .i64 f.2)
  have B2 := (A2.far (p := ⟨w.heap.size + 1 + 1, 0, none⟩) (by show w.heap.size + 1 ≠ w.heap.size + 1 + 1; omega) (.int .i64 f.1)).far (p := ⟨w.heap.size + 1 + 1, 1, none⟩) (by show w.heap.size + 1 ≠ w.heap.size + 1 + 1; omega) (.int .i64 f.2)
  have B3 := (A3.set_ 0 (.int .i64 f.1)).set_ 1 (.int .i64 f.2)
  have EB := (E1.setCell (p := ⟨w.heap.size + 1 + 1, 0, none⟩) (by show w.heap.size ≤ w.heap.size + 1 + 1; omega) (.int .i64 f.1)).setCell (p := ⟨w.heap.size + 1 + 1, 1, none⟩) (by show w.heap.size ≤ w.heap.size + 1 + 1; omega) (.int .i64 f.2)
  have HB1 := Lib.hid B1
  have HB2 := Lib.hid B2
  have HB3 := Lib.hid B3
  have HEB := Lib.hid EB
  clear A1 A2 A3 E1 B1 B2 B3 EB hb R1 R2 R3 E
  go_wp2_with fail
  clear a0 a1 a2 a3 a4 c0 c1 f0 f1
  refine (c_toPoint t _).mono ?_
  rintro e w2 ⟨rfl, hb⟩
  have A1 := HB1.out.ext hb
  have A2 := HB2.out.ext hb
  have A3 := HB3.out.ext hb
  have E1 := Ext.trans HEB.out hb
  have a0 := A1.cell_of (i := 0) rfl
  have a1 := A1.cell_of (i := 1) rfl
  have a2 := A1.cell_of (i := 2) rfl
  have a3 := A1.cell_of (i := 3) rfl
  have a4 := A1.cell_of (i := 4) rfl
  have c0 := A3.cell_of (i := 2) rfl
  have c1 := A3.cell_of (i := 3) rfl
  have f0 := A3.frozen 2
  have f1 := A3.frozen 3
  have B2 := (A2.far (p := ⟨w.heap.size + 1 + 1, 2, none⟩) (by show w.heap.size + 1 ≠ w.heap.size + 1 + 1; omega) (.int .i64 t.1)).far (p := ⟨w.heap.size + 1 + 1, 3, none⟩) (by show w.heap.size + 1 ≠ w.heap.size + 1 + 1; omega) (.int .i64 t.2)
  have B3 := (A3.set_ 2 (.int .i64 t.1)).set_ 3 (.int .i64 t.2)
  have EB := (E1.setCell (p := ⟨w.heap.size + 1 + 1, 2, none⟩) (by show w.heap.size ≤ w.heap.size + 1 + 1; omega) (.int .i64 t.1)).setCell (p := ⟨w.heap.size + 1 + 1, 3, none⟩) (by show w.heap.size ≤ w.heap.size + 1 + 1; omega) (.int .i64 t.2)
  have KB2 := Lib.hid B2
  have KB3 := Lib.hid B3
  have KEB := Lib.hid EB
  clear A1 A2 A3 E1 B2 B3 EB hb HB1 HB2 HB3 HEB
  go_wp2_with fail
  clear a0 a1 a2 a3 a4 c0 c1 f0 f1
  refine (c_toStopS A cap ss _ (H.out.ext stR_stab KEB.out) hl).mono ?_
  rintro e w3 ⟨b, rfl, hbb, hrb, hb⟩
  have A2 := KB2.out.ext hb
  have A3 := KB3.out.ext hb
  have E1 := Ext.trans KEB.out hb
  have hlt3 := KB3.out.lt
  have hbg : w.heap.size + 1 + 1 < b := by
    have h1 := hlt3
    have h2 := hbb
    simp [World.setCell] at h1 h2
    omega
  have RB := (((((((hrb.far (p := ⟨w.heap.size + 1 + 1, 4, none⟩) (by show b ≠ w.heap.size + 1 + 1; omega) (.slice (some ⟨b, 0, none⟩) ss.length ss.length)).far (p := ⟨w.heap.size + 1, 0, none⟩) (by show b ≠ w.heap.size + 1; omega) (.int .i64 f.1)).far (p := ⟨w.heap.size + 1, 1, none⟩) (by show b ≠ w.heap.size + 1; omega) (.int .i64 f.2)).far (p := ⟨w.heap.size + 1, 2, none⟩) (by show b ≠ w.heap.size + 1; omega) (.int .i64 t.1)).far (p := ⟨w.heap.size + 1, 3, none⟩) (by show b ≠ w.heap.size + 1; omega) (.int .i64 t.2)).far (p := ⟨w.heap.size + 1, 4, none⟩) (by show b ≠ w.heap.size + 1; omega) (.slice (some ⟨b, 0, none⟩) ss.length ss.length)))
  have c34 := A3.cell_of (i := 4) rfl
  have f34 := A3.frozen 4
  have D3 := A3.set_ 4 (.slice (some ⟨b, 0, none⟩) ss.length ss.length)
  have d30 := A3.cell_of (i := 0) rfl
  have d31 := A3.cell_of (i := 1) rfl
  have d32 := A3.cell_of (i := 2) rfl
  have d33 := A3.cell_of (i := 3) rfl
  have e30 := D3.cell_of (i := 0) rfl
  have e31 := D3.cell_of (i := 1) rfl
  have e32 := D3.cell_of (i := 2) rfl
  have e33 := D3.cell_of (i := 3) rfl
  have e34 := D3.cell_of (i := 4) rfl
  have c20 := A2.cell_of (i := 0) rfl
  have c21 := A2.cell_of (i := 1) rfl
  have c22 := A2.cell_of (i := 2) rfl
  have c23 := A2.cell_of (i := 3) rfl
  have c24 := A2.cell_of (i := 4) rfl
  have f20 := A2.frozen 0
  have f21 := A2.frozen 1
  have f22 := A2.frozen 2
  have f23 := A2.frozen 3
  have f24 := A2.frozen 4
  have q0 := A2.far (p := ⟨w.heap.size + 1 + 1, 4, none⟩) (by show w.heap.size + 1 ≠ w.heap.size + 1 + 1; omega) (.slice (some ⟨b, 0, none⟩) ss.length ss.length)
  have q5 := ((((q0.set_ 0 (.int .i64 f.1)).set_ 1 (.int .i64 f.2)).set_ 2 (.int .i64 t.1)).set_ 3 (.int .i64 t.2)).set_ 4 (.slice (some ⟨b, 0, none⟩) ss.length ss.length)
  have g0 := q5.cell_of (i := 0) rfl
  have g1 := q5.cell_of (i := 1) rfl
  have g2 := q5.cell_of (i := 2) rfl
  have g3 := q5.cell_of (i := 3) rfl
  have g4 := q5.cell_of (i := 4) rfl
  have HRB := Lib.hid RB
  have HE1 := Lib.hid E1
  clear A2 A3 D3 E1 hb hrb q0 q5 RB KB2 KB3 KEB
  go_wp2
  exact bodyPost_ret (v := paV f t (some ⟨b, 0, none⟩) ss.length ss.length) (by simp [results, Tryz.results36, go_sem, g0, g1, g2, g3, g4]) rfl ⟨b, rfl, by omega, HRB.out, (((((HE1.out.setCell (by first | (simp; done) | (simp; omega)) _).setCell (by simp) _).setCell (by simp) _).setCell (by simp) _).setCell (by simp) _).setCell (by simp) _⟩
theorem c_toPaint (f t : Pt) (A : Option Addr) (cap : Nat) (ss : List St) (w : World) (h : Sts w A ss) (hl : ss.length ≤ 1048576) :
    Calls Tryz.prog 36 #[paV f t A ss.length cap] w fun e w' => ∃ b, e = .returned (paV f t (some ⟨b, 0, none⟩) ss.length ss.length) ∧ Sts w' (some ⟨b, 0, none⟩) ss ∧ Below w.heap.size w w' :=
  (c_toPaintO f t A cap ss w h hl).mono fun _ _ ⟨b, h1, _, h3, h4⟩ => ⟨b, h1, sts_row h3, h4⟩
end Go.Proofs.YtagmnbphbakikaaGreat
