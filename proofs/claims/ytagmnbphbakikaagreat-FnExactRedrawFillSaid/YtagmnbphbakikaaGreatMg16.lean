/-
  Several texts in one: Along, Paint.
-/
import Derived.Test.YtagmnbphbakikaaGreatMg2
import Derived.Test.YtagmnbphbakikaaGreatMg15
import Derived.Test.YtagmnbphbakikaaGreatMg18
namespace Go.Proofs.YtagmnbphbakikaaGreat
open Go Go.RowKit Reg
attribute [local go_sem] calmAt calmUpon
def alongN (f t p : Pt) : Int := 256 * ((p.1 - f.1) * (t.1 - f.1) + (p.2 - f.2) * (t.2 - f.2))
def alongD (f t : Pt) : Int := (t.1 - f.1) * (t.1 - f.1) + (t.2 - f.2) * (t.2 - f.2)
def alongL (f t p : Pt) : Int := if f = t then 0 else max 0 (min 256 (rndL (alongN f t p) (alongD f t)))
theorem alongL_bd (f t p : Pt) : 0 ≤ alongL f t p ∧ alongL f t p ≤ 256 := by unfold alongL; split <;> omega
theorem sq_nn (x : Int) : 0 ≤ x * x := by
  rcases Int.le_total 0 x with h | h
  · exact Int.mul_nonneg h h
  · have := Int.mul_nonneg (Int.neg_nonneg_of_nonpos h) (Int.neg_nonneg_of_nonpos h)
    rwa [Int.neg_mul_neg] at this
theorem sq_pos {x : Int} (h : x ≠ 0) : 0 < x * x := by
  rcases Int.lt_or_gt_of_ne h with h | h
  · have := Int.mul_pos (Int.neg_pos_of_neg h) (Int.neg_pos_of_neg h)
    rwa [Int.neg_mul_neg] at this
  · exact Int.mul_pos h h
theorem alongD_pos {f t : Pt} (h : f ≠ t) : 0 < alongD f t := by
  unfold alongD
  have h1 := sq_nn (t.1 - f.1)
  have h2 := sq_nn (t.2 - f.2)
  by_cases hx : t.1 - f.1 = 0
  · have hy : t.2 - f.2 ≠ 0 := fun hy => h (Prod.ext (by omega) (by omega))
    have := sq_pos hy; omega
  · have := sq_pos hx; omega
set_option maxRecDepth 100000 in
set_option maxHeartbeats 4000000 in
theorem c_AlongOf (f t p : Pt) (w : World) (hf : vpB f = true) (ht : vpB t = true) (hp : vpB p = true) :
    Calls Tryz.prog 161 #[.agg #[.int .i64 f.1, .int .i64 f.2], .agg #[.int .i64 t.1, .int .i64 t.2], .agg #[.int .i64 p.1, .int .i64 p.2]] w fun e w' => e = .returned (.int .i64 (alongL f t p)) ∧ Below w.heap.size w w' := by
  have Hf := Lib.hid hf
  have Ht := Lib.hid ht
  have Hp := Lib.hid hp
  obtain ⟨⟨f1, f2⟩, f3, f4⟩ := vpB_iff.1 hf
  obtain ⟨⟨t1, t2⟩, t3, t4⟩ := vpB_iff.1 ht
  obtain ⟨⟨p1, p2⟩, p3, p4⟩ := vpB_iff.1 hp
  obtain ⟨L, hL⟩ : ∃ L, alongL f t p = L := ⟨_, rfl⟩
  rw [hL]
  have HL := Lib.hid hL
  have Hpos := Lib.hid (@alongD_pos f t)
  have Hd : Hid (alongD f t = (t.1 - f.1) * (t.1 - f.1) + (t.2 - f.2) * (t.2 - f.2)) := Lib.hid rfl
  have Hn : Hid (alongN f t p = 256 * ((p.1 - f.1) * (t.1 - f.1) + (p.2 - f.2) * (t.2 - f.2))) := Lib.hid rfl
  clear hf ht hp hL
  have K1 := Lib.hid (fun W => by have := c_ptvalid f W; rwa [Hf.out] at this)
  have K2 := Lib.hid (fun W => by have := c_ptvalid t W; rwa [Ht.out] at this)
  have K3 := Lib.hid (fun W => by have := c_ptvalid p W; rwa [Hp.out] at this)
  obtain ⟨fx, fy⟩ := f
  obtain ⟨tx, ty⟩ := t
  obtain ⟨px, py⟩ := p
  dsimp only at f1 f2 f3 f4 t1 t2 t3 t4 p1 p2 p3 p4 Hd Hn K1 K2 K3
  have b1 := mul_bd (a := px - fx) (b := tx - fx) (A := 2000) (B := 2000) (by omega) (by omega) (by omega) (by omega)
  have b2 := mul_bd (a := py - fy) (b := ty - fy) (A := 2000) (B := 2000) (by omega) (by omega) (by omega) (by omega)
  have b3 := mul_bd (a := tx - fx) (b := tx - fx) (A := 2000) (B := 2000) (by omega) (by omega) (by omega) (by omega)
  have b4 := mul_bd (a := ty - fy) (b := ty - fy) (A := 2000) (B := 2000) (by omega) (by omega) (by omega) (by omega)
  go_enter Tryz.func161, Tryz.ntmps161
  go_wp2_with fail
  generalize hW : ((w.alloc (.cells #[.int .i64 fx, .int .i64 fy] 45)).alloc (.cells #[.int .i64 tx, .int .i64 ty] 45)).alloc (.cells #[.int .i64 px, .int .i64 py] 45) = wa
  have EA : Hid (Ext w wa) := Lib.hid (by rw [← hW]; exact (by repeat (first | exact Below.refl _ _ | assumption | refine Below.drew ?_ | refine Below.alloc ?_ (by first | exact Nat.le_refl _ | omega | (simp; done) | (simp; omega)) _ | refine Below.setCell ?_ (by first | exact Nat.le_refl _ | omega | (simp; done) | (simp; omega)) _)))
  have A1 : Hid (Row wa w.heap.size 45 [.int .i64 fx, .int .i64 fy]) := Lib.hid (by rw [← hW]; exact ((Row.new w 45 [.int .i64 fx, .int .i64 fy]).alloc _).alloc _)
  have A2 : Hid (Row wa (w.heap.size + 1) 45 [.int .i64 tx, .int .i64 ty]) := Lib.hid (by rw [← hW]; exact row_mid w _ _ 45 [.int .i64 tx, .int .i64 ty])
  have A3 : Hid (Row wa (w.heap.size + 2) 45 [.int .i64 px, .int .i64 py]) := Lib.hid (by
    rw [← hW]
    have := Row.new ((w.alloc (.cells #[.int .i64 fx, .int .i64 fy] 45)).alloc (.cells #[.int .i64 tx, .int .i64 ty] 45)) 45 [.int .i64 px, .int .i64 py]
    simpa using this)
  clear hW
  refine (K1.out wa).mono ?_; rintro e w1 ⟨rfl, hb1⟩
  have E1 := Lib.hid hb1
  have c2 := (A2.out.ext hb1).cell_of (i := 0) rfl
  have c3 := (A2.out.ext hb1).cell_of (i := 1) rfl
  clear hb1
  go_wp2_with fail
  refine (K2.out w1).mono ?_; rintro e w2 ⟨rfl, hb2⟩
  have E2 := Lib.hid (Ext.trans E1.out hb2)
  clear hb2 c2 c3
  have c4 := (A3.out.ext E2.out).cell_of (i := 0) rfl
  have c5 := (A3.out.ext E2.out).cell_of (i := 1) rfl
  go_wp2_with fail
  refine (K3.out w2).mono ?_; rintro e w3 ⟨rfl, hb3⟩
  have E3 := Lib.hid (Ext.trans E2.out hb3)
  have EF := Lib.hid (Ext.trans EA.out E3.out)
  clear hb3 c4 c5
  have c0 := (A1.out.ext E3.out).cell_of (i := 0) rfl
  have c1 := (A1.out.ext E3.out).cell_of (i := 1) rfl
  have c2 := (A2.out.ext E3.out).cell_of (i := 0) rfl
  have c3 := (A2.out.ext E3.out).cell_of (i := 1) rfl
  have c4 := (A3.out.ext E3.out).cell_of (i := 0) rfl
  have c5 := (A3.out.ext E3.out).cell_of (i := 1) rfl
  by_cases heq : ((fx, fy) : Pt) = (tx, ty)
  · have Hfin : Hid (L = 0) := Lib.hid (by rw [← HL.out]; simp [alongL, heq])
    injection heq with h1 h2
    subst h1 h2
    clear HL Hpos
    go_wp2
    go_ret
    exact ⟨ret_i Hfin.out.symm, EF.out⟩
  · have hpos := Hpos.out heq
    have HD : Hid (alongD (fx, fy) (tx, ty) ≤ 8000000) := Lib.hid (by rw [Hd.out]; omega)
    have Hfin : Hid (L = max 0 (min 256 (rndL (alongN (fx, fy) (tx, ty) (px, py)) (alongD (fx, fy) (tx, ty))))) := Lib.hid (by rw [← HL.out]; simp [alongL, heq])
    have hxy : ((fx == tx) = false ∧ (fx = tx) = False) ∨ ((fx == tx) = true ∧ (fy == ty) = false ∧ (fx = tx) = True ∧ (fy = ty) = False) := by
      by_cases h1 : fx = tx
      · right
        have h2 : fy ≠ ty := fun h2 => heq (by rw [h1, h2])
        exact ⟨by simp [h1], by simp [h2], by simp [h1], by simp [h2]⟩
      · left; exact ⟨by simp [h1], by simp [h1]⟩
    have HDp := Lib.hid hpos
    clear heq hpos HL Hpos
    have g1 : IntKind.i64.wrap (tx - fx) = tx - fx := IntWalk.i64_in _ (by omega)
    have g2 : IntKind.i64.wrap (ty - fy) = ty - fy := IntWalk.i64_in _ (by omega)
    have HG := Lib.hid (And.intro g1 g2)
    clear g1 g2
    obtain ⟨dd, hdd⟩ : ∃ dd, alongD (fx, fy) (tx, ty) = dd := ⟨_, rfl⟩
    obtain ⟨nn, hnn⟩ : ∃ nn, alongN (fx, fy) (tx, ty) (px, py) = nn := ⟨_, rfl⟩
    rw [hdd] at Hd HD HDp Hfin
    rw [hnn] at Hn Hfin
    have hnb : -2048000000 ≤ nn ∧ nn ≤ 2048000000 := by rw [Hn.out]; omega
    have N := Lib.hid (fun W => c_round nn dd W HDp.out (by have := HD.out; omega) (by omega) (by omega))
    generalize hq : rndL nn dd = q at *
    clear hdd hnn hq hnb
    have hcase : (q ≤ 0 ∧ L = 0) ∨ (0 < q ∧ q < 256 ∧ L = q) ∨ (256 ≤ q ∧ L = 256) := by have := Hfin.out; omega
    rcases hxy with ⟨e1, e2⟩ | ⟨e1, e2, e3, e4⟩
    all_goals
      have Hc := Lib.hid hcase
      clear hcase
      go_wp2_with fail
      obtain ⟨g1, g2⟩ := HG.out
      (refine wp_region_calm [0,1,2,3,4,5,6,7,8,9,10,11] [] (by kernel_rfl) (by kernel_rfl) ?_; (iterate 12 ((refine calm_yes rfl rfl (fun w' hC => (by have c0 := hC.cell c0; have c1 := hC.cell c1; have c2 := hC.cell c2; have c3 := hC.cell c3; go_simp; rfl)) (fun K hK => ?_); go_simp; refine hK _ ?_; clear hK K))); refine calm_done (fun w4 hx4 => ?_))
      clear g1 g2
      have E4 := Lib.hid (Ext.trans EF.out hx4)
      have c0 := Cls.cell hx4 c0
      have c1 := Cls.cell hx4 c1
      have c4 := Cls.cell hx4 c4
      have c5 := Cls.cell hx4 c5
      clear hx4
      go_wp2_with fail
      refine ((by have := N.out w4; rw [Hn.out, Hd.out] at this; exact this : Calls Tryz.prog 158 _ w4 _)).mono ?_
      rintro e w' ⟨rfl, rfl⟩
      rcases Hc.out with ⟨h1, h2⟩ | ⟨h1, h2, h3⟩ | ⟨h1, h2⟩
      all_goals
        subst L
        go_wp2
        go_ret
        exact ⟨ret_i (by omega), E4.out⟩
set_option maxRecDepth 100000 in
set_option maxHeartbeats 4000000 in
theorem c_along (f t : Pt) (px py : Int) (w : World) (hf : vpB f = true) (ht : vpB t = true) (hp : vpB (px, py) = true) :
    Calls Tryz.prog 146 #[.agg #[.int .i64 f.1, .int .i64 f.2], .agg #[.int .i64 t.1, .int .i64 t.2], .int .i64 px, .int .i64 py] w fun e w' => e = .returned (.int .i64 (alongL f t (px, py))) ∧ Below w.heap.size w w' := by
  obtain ⟨⟨f1, f2⟩, f3, f4⟩ := vpB_iff.1 hf
  obtain ⟨⟨t1, t2⟩, t3, t4⟩ := vpB_iff.1 ht
  obtain ⟨⟨p1, p2⟩, p3, p4⟩ := vpB_iff.1 hp
  obtain ⟨L, hL⟩ : ∃ L, alongL f t (px, py) = L := ⟨_, rfl⟩
  rw [hL]
  have HL := Lib.hid hL
  have Hpos := Lib.hid (@alongD_pos f t)
  have Hd : Hid (alongD f t = (t.1 - f.1) * (t.1 - f.1) + (t.2 - f.2) * (t.2 - f.2)) := Lib.hid rfl
  have Hn : Hid (alongN f t (px, py) = 256 * ((px - f.1) * (t.1 - f.1) + (py - f.2) * (t.2 - f.2))) := Lib.hid rfl
  clear hf ht hp hL
  obtain ⟨fx, fy⟩ := f
  obtain ⟨tx, ty⟩ := t
  dsimp only at f1 f2 f3 f4 t1 t2 t3 t4 p1 p2 p3 p4 Hd Hn
  have b1 := mul_bd (a := px - fx) (b := tx - fx) (A := 2000) (B := 2000) (by omega) (by omega) (by omega) (by omega)
  have b2 := mul_bd (a := py - fy) (b := ty - fy) (A := 2000) (B := 2000) (by omega) (by omega) (by omega) (by omega)
  have b3 := mul_bd (a := tx - fx) (b := tx - fx) (A := 2000) (B := 2000) (by omega) (by omega) (by omega) (by omega)
  have b4 := mul_bd (a := ty - fy) (b := ty - fy) (A := 2000) (B := 2000) (by omega) (by omega) (by omega) (by omega)
  by_cases heq : ((fx, fy) : Pt) = (tx, ty)
  · have Hfin : Hid (L = 0) := Lib.hid (by rw [← HL.out]; simp [alongL, heq])
    injection heq with h1 h2
    subst h1 h2
    clear HL Hpos Hd Hn b1 b2 b3 b4
    go_enter Tryz.func146, Tryz.ntmps146
    go_wp2
    go_ret
    exact ⟨ret_i Hfin.out.symm, (by repeat (first | exact Below.refl _ _ | assumption | refine Below.drew ?_ | refine Below.alloc ?_ (by first | exact Nat.le_refl _ | omega | (simp; done) | (simp; omega)) _ | refine Below.setCell ?_ (by first | exact Nat.le_refl _ | omega | (simp; done) | (simp; omega)) _))⟩
  · have hpos := Hpos.out heq
    have HD : Hid (alongD (fx, fy) (tx, ty) ≤ 8000000) := Lib.hid (by rw [Hd.out]; omega)
    have Hfin : Hid (L = max 0 (min 256 (rndL (alongN (fx, fy) (tx, ty) (px, py)) (alongD (fx, fy) (tx, ty))))) := Lib.hid (by rw [← HL.out]; simp [alongL, heq])
    have HDp := Lib.hid hpos
    clear heq hpos HL Hpos
    obtain ⟨dd, hdd⟩ : ∃ dd, alongD (fx, fy) (tx, ty) = dd := ⟨_, rfl⟩
    obtain ⟨nn, hnn⟩ : ∃ nn, alongN (fx, fy) (tx, ty) (px, py) = nn := ⟨_, rfl⟩
    rw [hdd] at Hd HD HDp Hfin
    rw [hnn] at Hn Hfin
    have hnb : -2048000000 ≤ nn ∧ nn ≤ 2048000000 := by rw [Hn.out]; omega
    have N := Lib.hid (fun W => c_nearest nn dd W HDp.out (by have := HD.out; omega) (by omega) (by omega))
    generalize hq : rndL nn dd = q at *
    clear hdd hnn hq hnb
    have hcase : (q ≤ 0 ∧ L = 0) ∨ (0 < q ∧ q < 256 ∧ L = q) ∨ (256 ≤ q ∧ L = 256) := by have := Hfin.out; omega
    have Hc := Lib.hid hcase
    have hnz : ((tx - fx) * (tx - fx) + (ty - fy) * (ty - fy) == 0) = false := by
      have h1 := HDp.out; rw [Hd.out] at h1; simp; omega
    clear hcase
    go_enter Tryz.func146, Tryz.ntmps146
    go_wp2_with fail
    refine ((by have := N.out ((w.alloc (.cells #[.int .i64 fx, .int .i64 fy] 45)).alloc (.cells #[.int .i64 tx, .int .i64 ty] 45)); rw [Hn.out, Hd.out] at this; exact this : Calls Tryz.prog 144 _ _ _)).mono ?_
    rintro e w' ⟨rfl, rfl⟩
    rcases Hc.out with ⟨h1, h2⟩ | ⟨h1, h2, h3⟩ | ⟨h1, h2⟩
    all_goals
      subst L
      go_wp2
      go_ret
      exact ⟨ret_i (by omega), (by repeat (first | exact Below.refl _ _ | assumption | refine Below.drew ?_ | refine Below.alloc ?_ (by first | exact Nat.le_refl _ | omega | (simp; done) | (simp; omega)) _ | refine Below.setCell ?_ (by first | exact Nat.le_refl _ | omega | (simp; done) | (simp; omega)) _))⟩
end Go.Proofs.YtagmnbphbakikaaGreat
namespace Go.Proofs.YtagmnbphbakikaaGreat
open Go Go.RowKit Reg
attribute [local go_sem] calmAt calmUpon
def paintL (f t : Pt) (ss : List St) (c r : Int) : Bx4 := stopL ss (alongL f t (16 * c + 8, 16 * r + 8))
def paOk (f t : Pt) (ss : List St) (c r : Int) : Bool := paB f t ss && inB c 0 11 && inB r 0 11
def paR (f t : Pt) (ss : List St) (c r : Int) : Bx4 := if paOk f t ss c r then paintL f t ss c r else (0, 0, 0, 0)
theorem pix_vp {c r : Int} (hc : inB c 0 11 = true) (hr : inB r 0 11 = true) : vpB (16 * c + 8, 16 * r + 8) = true := by
  rw [vpB_iff]; have := inB_iff.1 hc; have := inB_iff.1 hr; dsimp only; omega
set_option maxRecDepth 100000 in
set_option maxHeartbeats 4000000 in
theorem c_iPaintAt1 (f t : Pt) (A : Option Addr) (cap : Nat) (ss : List St) (c r : Int) (w : World) (h : Sts w A ss) (hcap : ss.length ≤ cap) (hv : paB f t ss = true) (hc : inB c 0 11 = true) (hr : inB r 0 11 = true) :
    Calls Tryz.prog 122 #[paV f t A ss.length cap, .int .i64 c, .int .i64 r] w fun e w' => e = .returned (bx4V (paintL f t ss c r)) ∧ Below w.heap.size w w' := by
  have H := Lib.hid h
  have Hpx := Lib.hid (pix_vp hc hr)
  obtain ⟨c0', c1'⟩ := inB_iff.1 hc
  obtain ⟨r0', r1'⟩ := inB_iff.1 hr
  obtain ⟨q1, q2, q3⟩ := paB_iff.1 hv
  have Hs := Lib.hid q1
  have Hf := Lib.hid q2
  have Ht := Lib.hid q3
  obtain ⟨M, hM⟩ : ∃ M, paintL f t ss c r = M := ⟨_, rfl⟩
  rw [hM]
  have HM : Hid (stopL ss (alongL f t (16 * c + 8, 16 * r + 8)) = M) := Lib.hid hM
  clear h hv hc hr q1 q2 q3 hM
  go_enter Tryz.func122, Tryz.ntmps122
  go_wp2_with fail
  generalize hW : (w.alloc (.cells #[.int .i64 f.1, .int .i64 f.2, .int .i64 t.1, .int .i64 t.2, .slice A ss.length cap] 48)).alloc (.cells #[.int .i64 0, .int .i64 0, .int .i64 0, .int .i64 0] 118) = wa
  have EA : Hid (Ext w wa) := Lib.hid (by rw [← hW]; exact (by repeat (first | exact Below.refl _ _ | assumption | refine Below.drew ?_ | refine Below.alloc ?_ (by first | exact Nat.le_refl _ | omega | (simp; done) | (simp; omega)) _ | refine Below.setCell ?_ (by first | exact Nat.le_refl _ | omega | (simp; done) | (simp; omega)) _)))
  have A1 : Row wa w.heap.size 48 [.int .i64 f.1, .int .i64 f.2, .int .i64 t.1, .int .i64 t.2, .slice A ss.length cap] := by rw [← hW]; exact (Row.new w 48 [.int .i64 f.1, .int .i64 f.2, .int .i64 t.1, .int .i64 t.2, .slice A ss.length cap]).alloc _
  have A2 : Hid (Row wa (w.heap.size + 1) 118 [.int .i64 0, .int .i64 0, .int .i64 0, .int .i64 0]) := Lib.hid (by
    rw [← hW]
    have := Row.new (w.alloc (.cells #[.int .i64 f.1, .int .i64 f.2, .int .i64 t.1, .int .i64 t.2, .slice A ss.length cap] 48)) 118 [.int .i64 0, .int .i64 0, .int .i64 0, .int .i64 0]
    simpa using this)
  clear hW
  have c0 := A1.cell_of (i := 0) rfl
  have c1 := A1.cell_of (i := 1) rfl
  have c2 := A1.cell_of (i := 2) rfl
  have c3 := A1.cell_of (i := 3) rfl
  have c4 := A1.cell_of (i := 4) rfl
  have f1 : IntKind.i64.wrap (16 * c) = 16 * c := IntWalk.i64_in _ (by omega)
  have f2 : IntKind.i64.wrap (16 * c + 8) = 16 * c + 8 := IntWalk.i64_in _ (by omega)
  have f3 : IntKind.i64.wrap (16 * r) = 16 * r := IntWalk.i64_in _ (by omega)
  have f4 : IntKind.i64.wrap (16 * r + 8) = 16 * r + 8 := IntWalk.i64_in _ (by omega)
  clear A1
  refine wp_region_calm [0,1,2,3,4,5,6,7,8,9,10,11,12,13,14] [15] (by kernel_rfl) (by kernel_rfl) ?_
  iterate 13 ((refine calm_yes rfl rfl (fun w' hC => (by have c0 := hC.cell c0; have c1 := hC.cell c1; have c2 := hC.cell c2; have c3 := hC.cell c3; have c4 := hC.cell c4; go_simp; rfl)) (fun K hK => ?_); go_simp; refine hK _ ?_; clear hK K))
  (apply calm_call rfl rfl rfl Tryz.func161 (by kernel_rfl) rfl (by go_simp; rfl); exact (fun w' hC => c_AlongOf f t (16 * c + 8, 16 * r + 8) w' Hf.out Ht.out Hpx.out); intro K hK; go_simp; refine hK _ ?_; clear hK K)
  (apply calm_call rfl rfl rfl Tryz.func160 (by kernel_rfl) rfl (by go_simp; rfl); exact (fun w' hC => c_istopColor A cap ss (alongL f t (16 * c + 8, 16 * r + 8)) w' (H.out.ext stR_stab (Ext.trans EA.out (Below.trans (Below.refl _ wa).drew hC))) Hs.out hcap (by have := alongL_bd f t (16 * c + 8, 16 * r + 8); omega)); intro K hK; go_simp; refine hK _ ?_; clear hK K)
  clear f1 f2 f3 f4 c0 c1 c2 c3 c4
  rw [HM.out]
  obtain ⟨m1, m2, m3, m4⟩ := M
  refine calm_nil (fun w2 hC2 => ?_)
  refine late_free (by kernel_rfl) rfl rfl (fun w3 hx3 K' hK => ?_)
  have E3 : Ext wa w3 := Ext.trans (ext_cls hC2) hx3
  have S3 := A2.out.ext E3
  have B3 := Ext.trans EA.out E3
  have e0 := S3.cell_of (i := 0) rfl
  have e1 := S3.cell_of (i := 1) rfl
  have e2 := S3.cell_of (i := 2) rfl
  have e3 := S3.cell_of (i := 3) rfl
  have z0 := S3.frozen 0
  have z1 := S3.frozen 1
  have z2 := S3.frozen 2
  have z3 := S3.frozen 3
  go_simp
  refine hK _ _ ?_
  clear hK K'
  refine late_nil (fun w4 hx4 => ?_)
  have S4 := (((((S3.set_ 0 (.int .i64 m1)).set_ 1 (.int .i64 m2)).set_ 2 (.int .i64 m3)).set_ 3 (.int .i64 m4))).ext hx4
  have B4 : Ext w w4 := Ext.trans ((((B3.setCell (by simp) _).setCell (by simp) _).setCell (by simp) _).setCell (by simp) _) hx4
  have g0 := S4.cell_of (i := 0) rfl
  have g1 := S4.cell_of (i := 1) rfl
  have g2 := S4.cell_of (i := 2) rfl
  have g3 := S4.cell_of (i := 3) rfl
  clear e0 e1 e2 e3 z0 z1 z2 z3 S3 E3 hx3 hx4 hC2
  go_wp2_with fail
  exact bodyPost_ret (v := bx4V (m1, m2, m3, m4)) (by simp [results, Tryz.results122, go_sem, g0, g1, g2, g3]) rfl ⟨rfl, B4⟩
set_option maxRecDepth 100000 in
set_option maxHeartbeats 4000000 in
theorem c_sPaintAt1 (f t : Pt) (A : Option Addr) (cap : Nat) (ss : List St) (c r : Int) (w : World) (h : Sts w A ss) (hcap : ss.length ≤ cap) (hv : paB f t ss = true) (hc : inB c 0 11 = true) (hr : inB r 0 11 = true) :
    Calls Tryz.prog 107 #[paV f t A ss.length cap, .int .i64 c, .int .i64 r] w fun e w' => e = .returned (bx4V (paintL f t ss c r)) ∧ Below w.heap.size w w' := by
  have H := Lib.hid h
  have Hpx := Lib.hid (pix_vp hc hr)
  obtain ⟨c0', c1'⟩ := inB_iff.1 hc
  obtain ⟨r0', r1'⟩ := inB_iff.1 hr
  obtain ⟨q1, q2, q3⟩ := paB_iff.1 hv
  have Hs := Lib.hid q1
  have Hf := Lib.hid q2
  have Ht := Lib.hid q3
  obtain ⟨M, hM⟩ : ∃ M, paintL f t ss c r = M := ⟨_, rfl⟩
  rw [hM]
  have HM : Hid (stopL ss (alongL f t (16 * c + 8, 16 * r + 8)) = M) := Lib.hid hM
  clear h hv hc hr q1 q2 q3 hM
  go_enter Tryz.func107, Tryz.ntmps107
  go_wp2_with fail
  generalize hW : (w.alloc (.cells #[.int .i64 f.1, .int .i64 f.2, .int .i64 t.1, .int .i64 t.2, .slice A ss.length cap] 48)).alloc (.cells #[.int .i64 0, .int .i64 0, .int .i64 0, .int .i64 0] 118) = wa
  have EA : Hid (Ext w wa) := Lib.hid (by rw [← hW]; exact (by repeat (first | exact Below.refl _ _ | assumption | refine Below.drew ?_ | refine Below.alloc ?_ (by first | exact Nat.le_refl _ | omega | (simp; done) | (simp; omega)) _ | refine Below.setCell ?_ (by first | exact Nat.le_refl _ | omega | (simp; done) | (simp; omega)) _)))
  have A1 : Row wa w.heap.size 48 [.int .i64 f.1, .int .i64 f.2, .int .i64 t.1, .int .i64 t.2, .slice A ss.length cap] := by rw [← hW]; exact (Row.new w 48 [.int .i64 f.1, .int .i64 f.2, .int .i64 t.1, .int .i64 t.2, .slice A ss.length cap]).alloc _
  have A2 : Hid (Row wa (w.heap.size + 1) 118 [.int .i64 0, .int .i64 0, .int .i64 0, .int .i64 0]) := Lib.hid (by
    rw [← hW]
    have := Row.new (w.alloc (.cells #[.int .i64 f.1, .int .i64 f.2, .int .i64 t.1, .int .i64 t.2, .slice A ss.length cap] 48)) 118 [.int .i64 0, .int .i64 0, .int .i64 0, .int .i64 0]
    simpa using this)
  clear hW
  have c0 := A1.cell_of (i := 0) rfl
  have c1 := A1.cell_of (i := 1) rfl
  have c2 := A1.cell_of (i := 2) rfl
  have c3 := A1.cell_of (i := 3) rfl
  have c4 := A1.cell_of (i := 4) rfl
  have f1 : IntKind.i64.wrap (16 * c) = 16 * c := IntWalk.i64_in _ (by omega)
  have f2 : IntKind.i64.wrap (16 * c + 8) = 16 * c + 8 := IntWalk.i64_in _ (by omega)
  have f3 : IntKind.i64.wrap (16 * r) = 16 * r := IntWalk.i64_in _ (by omega)
  have f4 : IntKind.i64.wrap (16 * r + 8) = 16 * r + 8 := IntWalk.i64_in _ (by omega)
  clear A1
  refine wp_region_calm [0,1,2,3,4,5,6,7,8,9,10,11,12,13] [14] (by kernel_rfl) (by kernel_rfl) ?_
  iterate 12 ((refine calm_yes rfl rfl (fun w' hC => (by have c0 := hC.cell c0; have c1 := hC.cell c1; have c2 := hC.cell c2; have c3 := hC.cell c3; have c4 := hC.cell c4; go_simp; rfl)) (fun K hK => ?_); go_simp; refine hK _ ?_; clear hK K))
  (apply calm_call rfl rfl rfl Tryz.func146 (by kernel_rfl) rfl (by go_simp; rfl); exact (fun w' hC => c_along f t (16 * c + 8) (16 * r + 8) w' Hf.out Ht.out Hpx.out); intro K hK; go_simp; refine hK _ ?_; clear hK K)
  (apply calm_call rfl rfl rfl Tryz.func145 (by kernel_rfl) rfl (by go_simp; rfl); exact (fun w' hC => c_sstopColor A cap ss (alongL f t (16 * c + 8, 16 * r + 8)) w' (H.out.ext stR_stab (Ext.trans EA.out (Below.trans (Below.refl _ wa).drew hC))) Hs.out hcap (by have := alongL_bd f t (16 * c + 8, 16 * r + 8); omega)); intro K hK; go_simp; refine hK _ ?_; clear hK K)
  clear f1 f2 f3 f4 c0 c1 c2 c3 c4
  rw [HM.out]
  obtain ⟨m1, m2, m3, m4⟩ := M
  refine calm_nil (fun w2 hC2 => ?_)
  refine late_free (by kernel_rfl) rfl rfl (fun w3 hx3 K' hK => ?_)
  have E3 : Ext wa w3 := Ext.trans (ext_cls hC2) hx3
  have S3 := A2.out.ext E3
  have B3 := Ext.trans EA.out E3
  have e0 := S3.cell_of (i := 0) rfl
  have e1 := S3.cell_of (i := 1) rfl
  have e2 := S3.cell_of (i := 2) rfl
  have e3 := S3.cell_of (i := 3) rfl
  have z0 := S3.frozen 0
  have z1 := S3.frozen 1
  have z2 := S3.frozen 2
  have z3 := S3.frozen 3
  go_simp
  refine hK _ _ ?_
  clear hK K'
  refine late_nil (fun w4 hx4 => ?_)
  have S4 := (((((S3.set_ 0 (.int .i64 m1)).set_ 1 (.int .i64 m2)).set_ 2 (.int .i64 m3)).set_ 3 (.int .i64 m4))).ext hx4
  have B4 : Ext w w4 := Ext.trans ((((B3.setCell (by simp) _).setCell (by simp) _).setCell (by simp) _).setCell (by simp) _) hx4
  have g0 := S4.cell_of (i := 0) rfl
  have g1 := S4.cell_of (i := 1) rfl
  have g2 := S4.cell_of (i := 2) rfl
  have g3 := S4.cell_of (i := 3) rfl
  clear e0 e1 e2 e3 z0 z1 z2 z3 S3 E3 hx3 hx4 hC2
  go_wp2_with fail
  exact bodyPost_ret (v := bx4V (m1, m2, m3, m4)) (by simp [results, Tryz.results107, go_sem, g0, g1, g2, g3]) rfl ⟨rfl, B4⟩
end Go.Proofs.YtagmnbphbakikaaGreat
