/-
  Several texts in one: StepW, WindS, Edges, WindI.
-/
import Derived.Test.YtagmnbphbakikaaGreatMg8
import Derived.Test.YtagmnbphbakikaaGreatMg2
namespace Go.Proofs.YtagmnbphbakikaaGreat
open Go Go.RowKit Reg
attribute [local go_sem] calmAt calmUpon
abbrev ptV (p : Pt) : Value := .agg #[.int .i64 p.1, .int .i64 p.2]
abbrev edV (e : Ed) : Value := .agg #[.int .i64 e.1.1, .int .i64 e.1.2, .int .i64 e.2.1, .int .i64 e.2.2]
def stepS (y : Int) (a b : Pt) : Int := if a.2 ≤ y ∧ y < b.2 then 1 else if b.2 ≤ y ∧ y < a.2 then -1 else 0
def overL (a b : Pt) (x y : Int) : Int := (b.1 - a.1) * (y - a.2) - (x - a.1) * (b.2 - a.2)
def leftB (a b : Pt) (x y : Int) : Bool := decide ((if b.2 - a.2 < 0 then - overL a b x y else overL a b x y) ≤ 0)
theorem side_over (a b : Pt) (x y : Int) : sideL a b x y = - overL a b x y := by
  unfold sideL overL; rw [Int.mul_comm (b.1 - a.1)]; omega
theorem side_back (a b : Pt) (x y : Int) : sideL b a x y = overL a b x y := by
  unfold sideL overL
  obtain ⟨u, hu⟩ : ∃ u, u = x - a.1 := ⟨_, rfl⟩
  obtain ⟨v, hv⟩ : ∃ v, v = y - a.2 := ⟨_, rfl⟩
  obtain ⟨p, hp⟩ : ∃ p, p = b.1 - a.1 := ⟨_, rfl⟩
  obtain ⟨q, hq⟩ : ∃ q, q = b.2 - a.2 := ⟨_, rfl⟩
  rw [show x - b.1 = u - p by omega, show a.2 - b.2 = -q by omega, show y - b.2 = v - q by omega, show a.1 - b.1 = -p by omega, ← hu, ← hv, ← hp, ← hq]
  rw [Int.mul_neg, Int.mul_neg, Int.sub_mul, Int.sub_mul, Int.mul_comm p v, Int.mul_comm p q]; omega
theorem stepL_impl (x y : Int) (a b : Pt) : stepL x y a b = if stepS y a b ≠ 0 ∧ leftB a b x y = true then stepS y a b else 0 := by
  unfold stepL stepS leftB
  rw [side_over, side_back]
  by_cases h1 : a.2 ≤ y ∧ y < b.2
  · have hd : ¬ b.2 - a.2 < 0 := by omega
    have h2 : ¬ (b.2 ≤ y ∧ y < a.2) := by omega
    by_cases h3 : overL a b x y ≤ 0
    · rw [if_pos ⟨h1.1, h1.2, by omega⟩]; simp [h1, hd, h3]
    · rw [if_neg (by omega), if_neg (by omega)]; simp [h1, hd, h3]
  · by_cases h2 : b.2 ≤ y ∧ y < a.2
    · have hd : b.2 - a.2 < 0 := by omega
      by_cases h3 : 0 ≤ overL a b x y
      · rw [if_neg (by omega), if_pos ⟨h2.1, h2.2, h3⟩]; simp [h1, h2, hd] <;> omega
      · rw [if_neg (by omega), if_neg (by omega)]; simp [h1, h2, hd]; omega
    · rw [if_neg (by omega), if_neg (by omega)]; simp [h1, h2]
def Crd2 (p : Pt) : Prop := (-2000 ≤ p.1 ∧ p.1 ≤ 2000) ∧ (-2000 ≤ p.2 ∧ p.2 ≤ 2000)
theorem crd2_of {r : Rg} (h : psB r = true) {p : Pt} (hp : p ∈ r) : Crd2 p := by have := vp_of h hp; unfold Crd2; omega
set_option maxHeartbeats 2000000 in
theorem c_step (e : Ed) (y : Int) (w : World) : Calls Tryz.prog 185 #[edV e, .int .i64 y] w fun r w' => r = .returned (.int .i64 (stepS y e.1 e.2)) ∧ Below w.heap.size w w' := by
  obtain ⟨⟨ax, ay⟩, bx, bz⟩ := e
  obtain ⟨S, hS⟩ : ∃ S, stepS y (ax, ay) (bx, bz) = S := ⟨_, rfl⟩
  rw [hS]
  have HS : Hid ((if ay ≤ y ∧ y < bz then (1 : Int) else if bz ≤ y ∧ y < ay then -1 else 0) = S) := Lib.hid hS
  clear hS
  have hcase : (ay ≤ y ∧ y < bz) ∨ (ay ≤ y ∧ ¬ y < bz ∧ (bz ≤ y ∧ ¬ y < ay)) ∨ (¬ ay ≤ y ∧ (bz ≤ y ∧ y < ay)) ∨ (¬ ay ≤ y ∧ ¬ bz ≤ y) := by omega
  rcases hcase with ⟨h1, h2⟩ | ⟨h1, h2, h3, h4⟩ | ⟨h1, h2, h3⟩ | ⟨h1, h2⟩
  all_goals
    go_enter Tryz.func185, Tryz.ntmps185
    go_wp2
    go_ret
    exact ⟨ret_i (by have := HS.out; omega), (by repeat (first | exact Below.refl _ _ | assumption | refine Below.drew ?_ | refine Below.alloc ?_ (by first | exact Nat.le_refl _ | omega | (simp; done) | (simp; omega)) _ | refine Below.setCell ?_ (by first | exact Nat.le_refl _ | omega | (simp; done) | (simp; omega)) _))⟩
set_option maxHeartbeats 2000000 in
theorem c_left (e : Ed) (x y : Int) (w : World) (h1 : Crd2 e.1) (h2 : Crd2 e.2) (hx : -2000 ≤ x ∧ x ≤ 2000) (hy : -2000 ≤ y ∧ y ≤ 2000) :
    Calls Tryz.prog 186 #[edV e, .int .i64 x, .int .i64 y] w fun r w' => r = .returned (.bool (leftB e.1 e.2 x y)) ∧ Below w.heap.size w w' := by
  obtain ⟨⟨ax, ay⟩, bx, bz⟩ := e
  unfold Crd2 at h1 h2
  dsimp only at h1 h2
  obtain ⟨⟨a1, a2⟩, a3, a4⟩ := h1
  obtain ⟨⟨b1, b2⟩, b3, b4⟩ := h2
  obtain ⟨x1, x2⟩ := hx
  obtain ⟨y1, y2⟩ := hy
  have p1 := mul_bd (a := bx - ax) (b := y - ay) (A := 4000) (B := 4000) (by omega) (by omega) (by omega) (by omega)
  have p2 := mul_bd (a := x - ax) (b := bz - ay) (A := 4000) (B := 4000) (by omega) (by omega) (by omega) (by omega)
  by_cases hd : bz - ay < 0
  all_goals
    go_enter Tryz.func186, Tryz.ntmps186
    go_wp2
    go_ret
    exact ⟨ret_bb (by unfold leftB overL; dsimp only; rw [decide_eq_decide]; first | (rw [if_pos (by omega)]; omega) | (rw [if_neg (by omega)])), (by repeat (first | exact Below.refl _ _ | assumption | refine Below.drew ?_ | refine Below.alloc ?_ (by first | exact Nat.le_refl _ | omega | (simp; done) | (simp; omega)) _ | refine Below.setCell ?_ (by first | exact Nat.le_refl _ | omega | (simp; done) | (simp; omega)) _))⟩
def sgL (n : Int) : Int := if 0 < n then 1 else if n < 0 then -1 else 0
set_option maxHeartbeats 2000000 in
theorem c_sideOf (a b : Pt) (x y : Int) (w : World) (h1 : Crd2 a) (h2 : Crd2 b) (hx : -2000 ≤ x ∧ x ≤ 2000) (hy : -2000 ≤ y ∧ y ≤ 2000) :
    Calls Tryz.prog 189 #[ptV a, ptV b, .int .i64 x, .int .i64 y] w fun r w' => r = .returned (.int .i64 (sgL (sideL a b x y))) ∧ Below w.heap.size w w' := by
  obtain ⟨ax, ay⟩ := a
  obtain ⟨bx, bz⟩ := b
  unfold Crd2 at h1 h2
  dsimp only at h1 h2
  obtain ⟨⟨a1, a2⟩, a3, a4⟩ := h1
  obtain ⟨⟨b1, b2⟩, b3, b4⟩ := h2
  obtain ⟨x1, x2⟩ := hx
  obtain ⟨y1, y2⟩ := hy
  have p1 := mul_bd (a := x - ax) (b := bz - ay) (A := 4000) (B := 4000) (by omega) (by omega) (by omega) (by omega)
  have p2 := mul_bd (a := y - ay) (b := bx - ax) (A := 4000) (B := 4000) (by omega) (by omega) (by omega) (by omega)
  obtain ⟨S, hS⟩ : ∃ S, sgL (sideL (ax, ay) (bx, bz) x y) = S := ⟨_, rfl⟩
  rw [hS]
  have HS : Hid (sgL ((x - ax) * (bz - ay) - (y - ay) * (bx - ax)) = S) := Lib.hid hS
  clear hS
  have hcase : ((0 < (x - ax) * (bz - ay) - (y - ay) * (bx - ax) ∧ (y - ay) * (bx - ax) < (x - ax) * (bz - ay)) ∧ (¬ (x - ax) * (bz - ay) - (y - ay) * (bx - ax) < 0 ∧ ¬ (x - ax) * (bz - ay) < (y - ay) * (bx - ax))) ∨ ((¬ 0 < (x - ax) * (bz - ay) - (y - ay) * (bx - ax) ∧ ¬ (y - ay) * (bx - ax) < (x - ax) * (bz - ay)) ∧ ((x - ax) * (bz - ay) - (y - ay) * (bx - ax) < 0 ∧ (x - ax) * (bz - ay) < (y - ay) * (bx - ax))) ∨ ((¬ 0 < (x - ax) * (bz - ay) - (y - ay) * (bx - ax) ∧ ¬ (y - ay) * (bx - ax) < (x - ax) * (bz - ay)) ∧ (¬ (x - ax) * (bz - ay) - (y - ay) * (bx - ax) < 0 ∧ ¬ (x - ax) * (bz - ay) < (y - ay) * (bx - ax))) := by omega
  have K1 := Lib.hid (fun W => c_toInt true W)
  have K0 := Lib.hid (fun W => c_toInt false W)
  rcases hcase with ⟨⟨h1, h1'⟩, h2, h2'⟩ | ⟨⟨h1, h1'⟩, h2, h2'⟩ | ⟨⟨h1, h1'⟩, h2, h2'⟩
  · have Hf : Hid (S = 1) := Lib.hid (by rw [← HS.out]; unfold sgL; rw [if_pos h1])
    have g1 : decide (0 < (x - ax) * (bz - ay) - (y - ay) * (bx - ax)) = true := by simp; omega
    have g2 : decide ((y - ay) * (bx - ax) < (x - ax) * (bz - ay)) = true := by simp; omega
    have g3 : decide ((x - ax) * (bz - ay) - (y - ay) * (bx - ax) < 0) = false := by simp; omega
    have g4 : decide ((x - ax) * (bz - ay) < (y - ay) * (bx - ax)) = false := by simp; omega
    clear h1 h1' h2 h2'
    go_enter Tryz.func189, Tryz.ntmps189
    go_wp2_with fail
    refine (K1.out _).mono ?_
    rintro e w' ⟨rfl, rfl⟩
    go_wp2_with fail
    refine (K0.out _).mono ?_
    rintro e w' ⟨rfl, rfl⟩
    go_wp2
    go_ret
    exact ⟨ret_i (by rw [Hf.out]), (by repeat (first | exact Below.refl _ _ | assumption | refine Below.drew ?_ | refine Below.alloc ?_ (by first | exact Nat.le_refl _ | omega | (simp; done) | (simp; omega)) _ | refine Below.setCell ?_ (by first | exact Nat.le_refl _ | omega | (simp; done) | (simp; omega)) _))⟩
  · have Hf : Hid (S = -1) := Lib.hid (by rw [← HS.out]; unfold sgL; rw [if_neg h1, if_pos h2])
    have g1 : decide (0 < (x - ax) * (bz - ay) - (y - ay) * (bx - ax)) = false := by simp; omega
    have g2 : decide ((y - ay) * (bx - ax) < (x - ax) * (bz - ay)) = false := by simp; omega
    have g3 : decide ((x - ax) * (bz - ay) - (y - ay) * (bx - ax) < 0) = true := by simp; omega
    have g4 : decide ((x - ax) * (bz - ay) < (y - ay) * (bx - ax)) = true := by simp; omega
    clear h1 h1' h2 h2'
    go_enter Tryz.func189, Tryz.ntmps189
    go_wp2_with fail
    refine (K0.out _).mono ?_
    rintro e w' ⟨rfl, rfl⟩
    go_wp2_with fail
    refine (K1.out _).mono ?_
    rintro e w' ⟨rfl, rfl⟩
    go_wp2
    go_ret
    exact ⟨ret_i (by rw [Hf.out]), (by repeat (first | exact Below.refl _ _ | assumption | refine Below.drew ?_ | refine Below.alloc ?_ (by first | exact Nat.le_refl _ | omega | (simp; done) | (simp; omega)) _ | refine Below.setCell ?_ (by first | exact Nat.le_refl _ | omega | (simp; done) | (simp; omega)) _))⟩
  · have Hf : Hid (S = 0) := Lib.hid (by rw [← HS.out]; unfold sgL; rw [if_neg h1, if_neg h2])
    have g1 : decide (0 < (x - ax) * (bz - ay) - (y - ay) * (bx - ax)) = false := by simp; omega
    have g2 : decide ((y - ay) * (bx - ax) < (x - ax) * (bz - ay)) = false := by simp; omega
    have g3 : decide ((x - ax) * (bz - ay) - (y - ay) * (bx - ax) < 0) = false := by simp; omega
    have g4 : decide ((x - ax) * (bz - ay) < (y - ay) * (bx - ax)) = false := by simp; omega
    clear h1 h1' h2 h2'
    go_enter Tryz.func189, Tryz.ntmps189
    go_wp2_with fail
    refine (K0.out _).mono ?_
    rintro e w' ⟨rfl, rfl⟩
    go_wp2_with fail
    refine (K0.out _).mono ?_
    rintro e w' ⟨rfl, rfl⟩
    go_wp2
    go_ret
    exact ⟨ret_i (by rw [Hf.out]), (by repeat (first | exact Below.refl _ _ | assumption | refine Below.drew ?_ | refine Below.alloc ?_ (by first | exact Nat.le_refl _ | omega | (simp; done) | (simp; omega)) _ | refine Below.setCell ?_ (by first | exact Nat.le_refl _ | omega | (simp; done) | (simp; omega)) _))⟩
theorem sgL_nn (n : Int) : 0 ≤ sgL n ↔ 0 ≤ n := by unfold sgL; split <;> (try split) <;> omega
set_option maxHeartbeats 4000000 in
theorem c_stepOf (a b : Pt) (x y : Int) (w : World) (h1 : Crd2 a) (h2 : Crd2 b) (hx : -2000 ≤ x ∧ x ≤ 2000) (hy : -2000 ≤ y ∧ y ≤ 2000) :
    Calls Tryz.prog 174 #[ptV a, ptV b, .int .i64 x, .int .i64 y] w fun r w' => r = .returned (.int .i64 (stepL x y a b)) ∧ Below w.heap.size w w' := by
  have K := Lib.hid (fun W => c_sideOf a b x y W h1 h2 hx hy)
  have K' := Lib.hid (fun W => c_sideOf b a x y W h2 h1 hx hy)
  clear h1 h2 hx hy
  obtain ⟨S, hS⟩ : ∃ S, stepL x y a b = S := ⟨_, rfl⟩
  rw [hS]
  have hn := sgL_nn (sideL a b x y)
  have hn' := sgL_nn (sideL b a x y)
  obtain ⟨ax, ay⟩ := a
  obtain ⟨bx, bz⟩ := b
  have HS : Hid ((if ay ≤ y ∧ y < bz ∧ 0 ≤ sideL (ax, ay) (bx, bz) x y then (1 : Int) else if bz ≤ y ∧ y < ay ∧ 0 ≤ sideL (bx, bz) (ax, ay) x y then -1 else 0) = S) := Lib.hid hS
  clear hS
  generalize sideL (ax, ay) (bx, bz) x y = s at *
  generalize sideL (bx, bz) (ax, ay) x y = t at *
  generalize sgL s = s1 at *
  generalize sgL t = t1 at *
  have Hn := Lib.hid hn
  have Hn' := Lib.hid hn'
  have hcase : (ay ≤ y ∧ y < bz ∧ 0 ≤ s1) ∨ (ay ≤ y ∧ y < bz ∧ ¬ 0 ≤ s1 ∧ ¬ bz ≤ y) ∨ (ay ≤ y ∧ ¬ y < bz ∧ bz ≤ y ∧ ¬ y < ay) ∨ (¬ ay ≤ y ∧ bz ≤ y ∧ y < ay ∧ 0 ≤ t1) ∨ (¬ ay ≤ y ∧ bz ≤ y ∧ y < ay ∧ ¬ 0 ≤ t1) ∨ (¬ ay ≤ y ∧ ¬ bz ≤ y) := by omega
  clear hn hn'
  rcases hcase with ⟨h1, h2, h3⟩ | ⟨h1, h2, h3, h4⟩ | ⟨h1, h2, h3, h4⟩ | ⟨h1, h2, h3, h4⟩ | ⟨h1, h2, h3, h4⟩ | ⟨h1, h2⟩
  · have E := Lib.hid (Below.refl w.heap.size w)
    have Hf : Hid (S = 1) := Lib.hid (by have := HS.out; have := Hn.out; omega)
    go_enter Tryz.func174, Tryz.ntmps174
    go_wp2_with fail
    first | refine gen_calls ?_ | refine gen_code ?_ | refine gen_list ?_
    intro w1 hW
    obtain ⟨hb, hA, hB⟩ := new2 hW
    clear hW
    replace E := Lib.hid (Ext.trans E.out hb)
    clear hb
    have A := Lib.hid hA
    have lA := A.out.lt
    clear hA
    have B := Lib.hid hB
    have lB := B.out.lt
    clear hB
    have a0 := A.out.cell_of (i := 0) rfl
    have a1 := A.out.cell_of (i := 1) rfl
    have b0 := B.out.cell_of (i := 0) rfl
    have b1 := B.out.cell_of (i := 1) rfl
    go_wp2_with fail
    clear a0 a1 b0 b1
    refine (K.out _).mono ?_
    rintro e w2 ⟨rfl, hb⟩
    replace E := Lib.hid (Ext.trans E.out hb)
    replace A := Lib.hid (A.out.ext hb)
    have lA := A.out.lt
    replace B := Lib.hid (B.out.ext hb)
    have lB := B.out.lt
    clear hb
    have a0 := A.out.cell_of (i := 0) rfl
    have a1 := A.out.cell_of (i := 1) rfl
    have b0 := B.out.cell_of (i := 0) rfl
    have b1 := B.out.cell_of (i := 1) rfl
    go_wp2
    go_ret
    exact ⟨ret_i (by rw [Hf.out]), E.out⟩
  · have E := Lib.hid (Below.refl w.heap.size w)
    have Hf : Hid (S = 0) := Lib.hid (by have := HS.out; have := Hn.out; omega)
    go_enter Tryz.func174, Tryz.ntmps174
    go_wp2_with fail
    first | refine gen_calls ?_ | refine gen_code ?_ | refine gen_list ?_
    intro w1 hW
    obtain ⟨hb, hA, hB⟩ := new2 hW
    clear hW
    replace E := Lib.hid (Ext.trans E.out hb)
    clear hb
    have A := Lib.hid hA
    have lA := A.out.lt
    clear hA
    have B := Lib.hid hB
    have lB := B.out.lt
    clear hB
    have a0 := A.out.cell_of (i := 0) rfl
    have a1 := A.out.cell_of (i := 1) rfl
    have b0 := B.out.cell_of (i := 0) rfl
    have b1 := B.out.cell_of (i := 1) rfl
    go_wp2_with fail
    clear a0 a1 b0 b1
    refine (K.out _).mono ?_
    rintro e w2 ⟨rfl, hb⟩
    replace E := Lib.hid (Ext.trans E.out hb)
    replace A := Lib.hid (A.out.ext hb)
    have lA := A.out.lt
    replace B := Lib.hid (B.out.ext hb)
    have lB := B.out.lt
    clear hb
    have a0 := A.out.cell_of (i := 0) rfl
    have a1 := A.out.cell_of (i := 1) rfl
    have b0 := B.out.cell_of (i := 0) rfl
    have b1 := B.out.cell_of (i := 1) rfl
    go_wp2
    go_ret
    exact ⟨ret_i (by rw [Hf.out]), E.out⟩
  · have Hf : Hid (S = 0) := Lib.hid (by have := HS.out; omega)
    go_enter Tryz.func174, Tryz.ntmps174
    go_wp2
    go_ret
    exact ⟨ret_i (by rw [Hf.out]), (by repeat (first | exact Below.refl _ _ | assumption | refine Below.drew ?_ | refine Below.alloc ?_ (by first | exact Nat.le_refl _ | omega | (simp; done) | (simp; omega)) _ | refine Below.setCell ?_ (by first | exact Nat.le_refl _ | omega | (simp; done) | (simp; omega)) _))⟩
  · have E := Lib.hid (Below.refl w.heap.size w)
    have Hf : Hid (S = -1) := Lib.hid (by have := HS.out; have := Hn'.out; omega)
    go_enter Tryz.func174, Tryz.ntmps174
    go_wp2_with fail
    first | refine gen_calls ?_ | refine gen_code ?_ | refine gen_list ?_
    intro w1 hW
    obtain ⟨hb, hA, hB⟩ := new2 hW
    clear hW
    replace E := Lib.hid (Ext.trans E.out hb)
    clear hb
    have A := Lib.hid hA
    have lA := A.out.lt
    clear hA
    have B := Lib.hid hB
    have lB := B.out.lt
    clear hB
    have a0 := A.out.cell_of (i := 0) rfl
    have a1 := A.out.cell_of (i := 1) rfl
    have b0 := B.out.cell_of (i := 0) rfl
    have b1 := B.out.cell_of (i := 1) rfl
    go_wp2_with fail
    clear a0 a1 b0 b1
    refine (K'.out _).mono ?_
    rintro e w2 ⟨rfl, hb⟩
    replace E := Lib.hid (Ext.trans E.out hb)
    replace A := Lib.hid (A.out.ext hb)
    have lA := A.out.lt
    replace B := Lib.hid (B.out.ext hb)
    have lB := B.out.lt
    clear hb
    have a0 := A.out.cell_of (i := 0) rfl
    have a1 := A.out.cell_of (i := 1) rfl
    have b0 := B.out.cell_of (i := 0) rfl
    have b1 := B.out.cell_of (i := 1) rfl
    go_wp2
    go_ret
    exact ⟨ret_i (by rw [Hf.out]), E.out⟩
  · have E := Lib.hid (Below.refl w.heap.size w)
    have Hf : Hid (S = 0) := Lib.hid (by have := HS.out; have := Hn'.out; omega)
    go_enter Tryz.func174, Tryz.ntmps174
    go_wp2_with fail
    first | refine gen_calls ?_ | refine gen_code ?_ | refine gen_list ?_
    intro w1 hW
    obtain ⟨hb, hA, hB⟩ := new2 hW
    clear hW
    replace E := Lib.hid (Ext.trans E.out hb)
    clear hb
    have A := Lib.hid hA
    have lA := A.out.lt
    clear hA
    have B := Lib.hid hB
    have lB := B.out.lt
    clear hB
    have a0 := A.out.cell_of (i := 0) rfl
    have a1 := A.out.cell_of (i := 1) rfl
    have b0 := B.out.cell_of (i := 0) rfl
    have b1 := B.out.cell_of (i := 1) rfl
    go_wp2_with fail
    clear a0 a1 b0 b1
    refine (K'.out _).mono ?_
    rintro e w2 ⟨rfl, hb⟩
    replace E := Lib.hid (Ext.trans E.out hb)
    replace A := Lib.hid (A.out.ext hb)
    have lA := A.out.lt
    replace B := Lib.hid (B.out.ext hb)
    have lB := B.out.lt
    clear hb
    have a0 := A.out.cell_of (i := 0) rfl
    have a1 := A.out.cell_of (i := 1) rfl
    have b0 := B.out.cell_of (i := 0) rfl
    have b1 := B.out.cell_of (i := 1) rfl
    go_wp2
    go_ret
    exact ⟨ret_i (by rw [Hf.out]), E.out⟩
  · have Hf : Hid (S = 0) := Lib.hid (by have := HS.out; omega)
    go_enter Tryz.func174, Tryz.ntmps174
    go_wp2
    go_ret
    exact ⟨ret_i (by rw [Hf.out]), (by repeat (first | exact Below.refl _ _ | assumption | refine Below.drew ?_ | refine Below.alloc ?_ (by first | exact Nat.le_refl _ | omega | (simp; done) | (simp; omega)) _ | refine Below.setCell ?_ (by first | exact Nat.le_refl _ | omega | (simp; done) | (simp; omega)) _))⟩
end Go.Proofs.YtagmnbphbakikaaGreat
namespace Go.Proofs.YtagmnbphbakikaaGreat
open Go Go.RowKit Reg
attribute [local go_sem] calmAt calmUpon
/-- A sum over the first edges of a polygon. -/
def sumEk (f : Pt → Pt → Int) (r : Rg) (k : Nat) : Int := sumI (((edgesL r).take k).map fun e => f e.1 e.2)
theorem sumEk_succ (f : Pt → Pt → Int) {r : Rg} {k m : Nat} (h : k < r.length) (hm : m = (k + 1) % r.length) (hml : m < r.length) : sumEk f r (k + 1) = sumEk f r k + f r[k] r[m] := by
  subst hm
  unfold sumEk
  rw [List.take_succ_eq_append_getElem (by rw [edgesL_len]; exact h), edgesL_get h, List.map_append, sumI_append]; simp [sumI]
theorem sumEk_all (f : Pt → Pt → Int) {r : Rg} {k : Nat} (h : k = r.length) : sumEk f r k = sumE f r := by
  unfold sumEk sumE; rw [List.take_of_length_le (by rw [edgesL_len]; omega)]
theorem sumEk_bd {f : Pt → Pt → Int} {r : Rg} {B : Int} (hf : ∀ a ∈ r, ∀ b ∈ r, -B ≤ f a b ∧ f a b ≤ B) (hB : 0 ≤ B) {k : Nat} (hk : k ≤ 40) : -(40 * B) ≤ sumEk f r k ∧ sumEk f r k ≤ 40 * B := by
  have := sumI_bd (l := ((edgesL r).take k).map fun e => f e.1 e.2) (B := B) (by
    intro v hv
    obtain ⟨⟨a, b⟩, he, rfl⟩ := List.mem_map.1 hv
    have he := List.mem_of_mem_take he
    have h1 := (List.of_mem_zip he).1
    have h2 := (List.of_mem_zip he).2
    refine hf a h1 b ?_
    rcases List.mem_append.1 h2 with h2 | h2
    · exact List.mem_of_mem_tail h2
    · exact List.mem_of_mem_take h2)
  rw [List.length_map] at this
  have h1 : ((edgesL r).take k).length ≤ 40 := by rw [List.length_take]; omega
  have h2 : ((((edgesL r).take k).length : Nat) : Int) * B ≤ (40 : Int) * B := Int.mul_le_mul_of_nonneg_right (by omega) hB
  unfold sumEk; omega
theorem sumS_take (f : Pt → Pt → Int) {rs : List Rg} {k : Nat} (h : k < rs.length) : sumS f (rs.take (k + 1)) = sumS f (rs.take k) + sumE f rs[k] := by
  rw [List.take_succ_eq_append_getElem h, sumS_snoc]
theorem sumS_bd {f : Pt → Pt → Int} {rs : List Rg} {B : Int} (h : ∀ r ∈ rs, -B ≤ sumE f r ∧ sumE f r ≤ B) (hB : 0 ≤ B) {k : Nat} (hk : k ≤ 8) : -(8 * B) ≤ sumS f (rs.take k) ∧ sumS f (rs.take k) ≤ 8 * B := by
  have := sumI_bd (l := (rs.take k).map (sumE f)) (B := B) (by
    intro v hv
    obtain ⟨r, hr, rfl⟩ := List.mem_map.1 hv
    exact h r (List.mem_of_mem_take hr))
  rw [List.length_map] at this
  have h1 : (rs.take k).length ≤ 8 := by rw [List.length_take]; omega
  have h2 : (((rs.take k).length : Nat) : Int) * B ≤ (8 : Int) * B := Int.mul_le_mul_of_nonneg_right (by omega) hB
  unfold sumS; omega
theorem sumE_bd40 {f : Pt → Pt → Int} {r : Rg} {B : Int} (hf : ∀ a ∈ r, ∀ b ∈ r, -B ≤ f a b ∧ f a b ≤ B) (hB : 0 ≤ B) (hr : psB r = true) : -(40 * B) ≤ sumE f r ∧ sumE f r ≤ 40 * B := by
  have := sumEk_bd hf hB (k := r.length) (psB_len hr)
  rwa [sumEk_all f rfl] at this
set_option maxRecDepth 100000 in
set_option maxHeartbeats 4000000 in
theorem c_swinding (A : Option Addr) (cap : Nat) (rs : List Rg) (x y : Int) (w : World) (h : Rgs w A rs) (hv : rgsB rs = true) (hx : -2000 ≤ x ∧ x ≤ 2000) (hy : -2000 ≤ y ∧ y ≤ 2000) :
    Calls Tryz.prog 143 #[.slice A rs.length cap, .int .i64 x, .int .i64 y] w fun e w' => e = .returned (.int .i64 (windL rs x y)) ∧ Below w.heap.size w w' := by
  have hr := rgsB_iff.1 hv
  have hrl : rs.length ≤ 8 := hr.2.1
  have Hr := Lib.hid hr.1
  have H := Lib.hid h
  obtain ⟨S, hS⟩ : ∃ S, windL rs x y = S := ⟨_, rfl⟩
  rw [hS]
  have HS : Hid (sumS (stepL x y) rs = S) := Lib.hid hS
  have Hx := Lib.hid (And.intro hx hy)
  clear h hv hr hS hx hy
  go_enter Tryz.func143, Tryz.ntmps143
  go_wp2_with fail
  go_loopw [7, 8] (fun n i wr => ∃ (k : Nat), k ≤ rs.length ∧ i = .int .i64 k ∧ n = .int .i64 (sumS (stepL x y) (rs.take k)) ∧ Ext w wr) (fun _ i _ => rs.length - (intOf i).toNat)
  case atStart => exact ⟨0, Nat.zero_le _, rfl, rfl, Below.refl _ _⟩
  case round =>
    obtain ⟨k, hk, rfl, rfl, hbw⟩ := hrel
    have E := Lib.hid hbw
    clear hbw
    have hbd := sumS_bd (f := stepL x y) (rs := rs) (B := 40) (fun r hr => by have := sumE_bd40 (f := stepL x y) (B := 1) (fun a _ b _ => stepL_bd x y a b) (by omega) (Hr.out r hr).2; omega) (by omega) (k := k) (by omega)
    by_cases hlt : k < rs.length
    · obtain ⟨b, off, hA, _, hc⟩ := H.out.rgs (by omega)
      subst hA
      obtain ⟨A', cap', cr, hp, hle, hmx⟩ := hc k hlt
      have hps := (Hr.out _ (List.getElem_mem hlt)).2
      have Hs := Lib.hid (sumS_take (stepL x y) hlt)
      have Hp := Lib.hid hp
      have Cr := Lib.hid cr
      have h40 := psB_len hps
      clear hc hp cr
      generalize rs[k] = r at *
      have Hps := Lib.hid hps
      clear hps
      generalize sumS (stepL x y) (rs.take k) = n at *
      obtain ⟨wo, hwo⟩ : ∃ wo : World, wo = wr := ⟨_, rfl⟩
      subst hwo
      go_wp2_with fail
      go_loopw [7, 9] (fun n' i wr => ∃ (j : Nat), j ≤ r.length ∧ i = .int .i64 j ∧ n' = .int .i64 (n + sumEk (stepL x y) r j) ∧ Ext w wr) (fun _ i _ => r.length - (intOf i).toNat)
      case atStart => exact ⟨0, Nat.zero_le _, rfl, by simp [sumEk, sumI], E.out⟩
      case round =>
        obtain ⟨j, hj, rfl, rfl, hbw⟩ := hrel
        clear E
        have E := Lib.hid hbw
        clear hbw
        have hbj := sumEk_bd (f := stepL x y) (r := r) (B := 1) (fun a _ b _ => stepL_bd x y a b) (by omega) (k := j) (by omega)
        have cr := Cls.cell E.out Cr.out
        by_cases hjl : j < r.length
        · obtain ⟨m, hm⟩ : ∃ m, m = (j + 1) % r.length := ⟨_, rfl⟩
          have hml : m < r.length := by rw [hm]; exact Nat.mod_lt _ (by omega)
          obtain ⟨b1, off1, hA, _, hc⟩ := (Hp.out.ext ptR_stab E.out).pts (by omega)
          subst hA
          obtain ⟨cx, cy⟩ := hc j hjl
          obtain ⟨dx, dy⟩ := hc m hml
          have Hst := Lib.hid (sumEk_succ (stepL x y) hjl hm hml)
          have hne : ¬ r = [] := by intro hh; subst hh; simp at hjl
          have g1 : IntKind.i64.wrap ((j : Int) + 1) = (j : Int) + 1 := IntWalk.i64_in _ (by omega)
          have g2 : Int.tmod ((j : Int) + 1) (r.length : Int) = (m : Int) := by rw [hm]; exact tmod_nat1 j r.length 1
          have q1 := crd2_of Hps.out (List.getElem_mem hjl)
          have q2 := crd2_of Hps.out (List.getElem_mem hml)
          have K := Lib.hid (fun W => c_stepOf r[j] r[m] x y W q1 q2 Hx.out.1 Hx.out.2)
          have hsb := stepL_bd x y r[j] r[m]
          have G := Lib.hid (And.intro g1 g2)
          obtain ⟨u1, u2⟩ : (0 : Int) ≤ (m : Int) ∧ (m : Int) < (r.length : Int) := by omega
          clear hc g1 g2 hm q1 q2
          generalize r[j] = p at *
          generalize r[m] = q at *
          generalize stepL x y p q = s at *
          generalize sumEk (stepL x y) r j = t at *
          have g3 : IntKind.i64.wrap (n + t + s) = n + t + s := IntWalk.i64_in _ (by omega)
          have G3 := Lib.hid g3
          clear g3
          have v1 : (k : Int) < (rs.length : Int) := by omega
          have v2 : (j : Int) < (r.length : Int) := by omega
          go_wp2_with fail
          obtain ⟨g1, g2⟩ := G.out
          have g3 := G3.out
          refine wp_region_calm [0,1,2,3,4,5,6,7,8,9,10,11,12,13,14,15,16,17,18,19,20,21,22,23,24,25,26] [] (by kernel_rfl) (by kernel_rfl) ?_
          (refine calm_yes rfl rfl (fun w' hC => (by have cr := hC.cell cr; have cx := hC.cell cx; have cy := hC.cell cy; have dx := hC.cell dx; have dy := hC.cell dy; go_simp; rfl)) (fun K hK => ?_); go_simp; refine hK _ ?_; clear hK K)
          (refine calm_yes rfl rfl (fun w' hC => (by have cr := hC.cell cr; have cx := hC.cell cx; have cy := hC.cell cy; have dx := hC.cell dx; have dy := hC.cell dy; go_simp; rfl)) (fun K hK => ?_); go_simp; refine hK _ ?_; clear hK K)
          (refine calm_yes rfl rfl (fun w' hC => (by have cr := hC.cell cr; have cx := hC.cell cx; have cy := hC.cell cy; have dx := hC.cell dx; have dy := hC.cell dy; go_simp; rfl)) (fun K hK => ?_); go_simp; refine hK _ ?_; clear hK K)
          (refine calm_yes rfl rfl (fun w' hC => (by have cr := hC.cell cr; have cx := hC.cell cx; have cy := hC.cell cy; have dx := hC.cell dx; have dy := hC.cell dy; go_simp; rfl)) (fun K hK => ?_); go_simp; refine hK _ ?_; clear hK K)
          (refine calm_yes rfl rfl (fun w' hC => (by have cr := hC.cell cr; have cx := hC.cell cx; have cy := hC.cell cy; have dx := hC.cell dx; have dy := hC.cell dy; go_simp; rfl)) (fun K hK => ?_); go_simp; refine hK _ ?_; clear hK K)
          (refine calm_yes rfl rfl (fun w' hC => (by have cr := hC.cell cr; have cx := hC.cell cx; have cy := hC.cell cy; have dx := hC.cell dx; have dy := hC.cell dy; go_simp; rfl)) (fun K hK => ?_); go_simp; refine hK _ ?_; clear hK K)
          (refine calm_yes rfl rfl (fun w' hC => (by have cr := hC.cell cr; have cx := hC.cell cx; have cy := hC.cell cy; have dx := hC.cell dx; have dy := hC.cell dy; go_simp; rfl)) (fun K hK => ?_); go_simp; refine hK _ ?_; clear hK K)
          (refine calm_yes rfl rfl (fun w' hC => (by have cr := hC.cell cr; have cx := hC.cell cx; have cy := hC.cell cy; have dx := hC.cell dx; have dy := hC.cell dy; go_simp; rfl)) (fun K hK => ?_); go_simp; refine hK _ ?_; clear hK K)
          (refine calm_yes rfl rfl (fun w' hC => (by have cr := hC.cell cr; have cx := hC.cell cx; have cy := hC.cell cy; have dx := hC.cell dx; have dy := hC.cell dy; go_simp; rfl)) (fun K hK => ?_); go_simp; refine hK _ ?_; clear hK K)
          (refine calm_yes rfl rfl (fun w' hC => (by have cr := hC.cell cr; have cx := hC.cell cx; have cy := hC.cell cy; have dx := hC.cell dx; have dy := hC.cell dy; go_simp; rfl)) (fun K hK => ?_); go_simp; refine hK _ ?_; clear hK K)
          (refine calm_yes rfl rfl (fun w' hC => (by have cr := hC.cell cr; have cx := hC.cell cx; have cy := hC.cell cy; have dx := hC.cell dx; have dy := hC.cell dy; go_simp; rfl)) (fun K hK => ?_); go_simp; refine hK _ ?_; clear hK K)
          (refine calm_yes rfl rfl (fun w' hC => (by have cr := hC.cell cr; have cx := hC.cell cx; have cy := hC.cell cy; have dx := hC.cell dx; have dy := hC.cell dy; go_simp; rfl)) (fun K hK => ?_); go_simp; refine hK _ ?_; clear hK K)
          (refine calm_yes rfl rfl (fun w' hC => (by have cr := hC.cell cr; have cx := hC.cell cx; have cy := hC.cell cy; have dx := hC.cell dx; have dy := hC.cell dy; go_simp; rfl)) (fun K hK => ?_); go_simp; refine hK _ ?_; clear hK K)
          (refine calm_yes rfl rfl (fun w' hC => (by have cr := hC.cell cr; have cx := hC.cell cx; have cy := hC.cell cy; have dx := hC.cell dx; have dy := hC.cell dy; go_simp; rfl)) (fun K hK => ?_); go_simp; refine hK _ ?_; clear hK K)
          (refine calm_yes rfl rfl (fun w' hC => (by have cr := hC.cell cr; have cx := hC.cell cx; have cy := hC.cell cy; have dx := hC.cell dx; have dy := hC.cell dy; go_simp; rfl)) (fun K hK => ?_); go_simp; refine hK _ ?_; clear hK K)
          (refine calm_yes rfl rfl (fun w' hC => (by have cr := hC.cell cr; have cx := hC.cell cx; have cy := hC.cell cy; have dx := hC.cell dx; have dy := hC.cell dy; go_simp; rfl)) (fun K hK => ?_); go_simp; refine hK _ ?_; clear hK K)
          (refine calm_yes rfl rfl (fun w' hC => (by have cr := hC.cell cr; have cx := hC.cell cx; have cy := hC.cell cy; have dx := hC.cell dx; have dy := hC.cell dy; go_simp; rfl)) (fun K hK => ?_); go_simp; refine hK _ ?_; clear hK K)
          (refine calm_yes rfl rfl (fun w' hC => (by have cr := hC.cell cr; have cx := hC.cell cx; have cy := hC.cell cy; have dx := hC.cell dx; have dy := hC.cell dy; go_simp; rfl)) (fun K hK => ?_); go_simp; refine hK _ ?_; clear hK K)
          (refine calm_yes rfl rfl (fun w' hC => (by have cr := hC.cell cr; have cx := hC.cell cx; have cy := hC.cell cy; have dx := hC.cell dx; have dy := hC.cell dy; go_simp; rfl)) (fun K hK => ?_); go_simp; refine hK _ ?_; clear hK K)
          (refine calm_yes rfl rfl (fun w' hC => (by have cr := hC.cell cr; have cx := hC.cell cx; have cy := hC.cell cy; have dx := hC.cell dx; have dy := hC.cell dy; go_simp; rfl)) (fun K hK => ?_); go_simp; refine hK _ ?_; clear hK K)
          (refine calm_yes rfl rfl (fun w' hC => (by have cr := hC.cell cr; have cx := hC.cell cx; have cy := hC.cell cy; have dx := hC.cell dx; have dy := hC.cell dy; go_simp; rfl)) (fun K hK => ?_); go_simp; refine hK _ ?_; clear hK K)
          (refine calm_yes rfl rfl (fun w' hC => (by have cr := hC.cell cr; have cx := hC.cell cx; have cy := hC.cell cy; have dx := hC.cell dx; have dy := hC.cell dy; go_simp; rfl)) (fun K hK => ?_); go_simp; refine hK _ ?_; clear hK K)
          (refine calm_yes rfl rfl (fun w' hC => (by have cr := hC.cell cr; have cx := hC.cell cx; have cy := hC.cell cy; have dx := hC.cell dx; have dy := hC.cell dy; go_simp; rfl)) (fun K hK => ?_); go_simp; refine hK _ ?_; clear hK K)
          (refine calm_yes rfl rfl (fun w' hC => (by have cr := hC.cell cr; have cx := hC.cell cx; have cy := hC.cell cy; have dx := hC.cell dx; have dy := hC.cell dy; go_simp; rfl)) (fun K hK => ?_); go_simp; refine hK _ ?_; clear hK K)
          (apply calm_call rfl rfl rfl Tryz.func174 (by kernel_rfl) rfl (by go_simp; rfl); exact (fun w' hC => K.out w'); intro K hK; go_simp; refine hK _ ?_; clear hK K)
          (refine calm_yes rfl rfl (fun w' hC => (by have cr := hC.cell cr; have cx := hC.cell cx; have cy := hC.cell cy; have dx := hC.cell dx; have dy := hC.cell dy; go_simp; rfl)) (fun K hK => ?_); go_simp; refine hK _ ?_; clear hK K)
          (refine calm_yes rfl rfl (fun w' hC => (by have cr := hC.cell cr; have cx := hC.cell cx; have cy := hC.cell cy; have dx := hC.cell dx; have dy := hC.cell dy; go_simp; rfl)) (fun K hK => ?_); go_simp; refine hK _ ?_; clear hK K)
          refine calm_done (fun w2 hb => ?_)
          clear cr cx cy dx dy
          replace E := Lib.hid (Ext.trans E.out hb)
          clear hb
          clear g1 g2 g3
          go_wp2
          go_roundw
          case rel => exact ⟨j + 1, by omega, by go_num, by rw [Hst.out]; congr 1; omega, E.out⟩
          case measure => simp [intOf]; omega
        · have hj' : j = r.length := by omega
          have Hf := Lib.hid (sumEk_all (stepL x y) hj')
          clear hj'
          go_wp2
          go_roundw
          case rel => exact ⟨k + 1, by omega, by go_num, by rw [Hs.out, Hf.out], E.out⟩
          case measure => simp [intOf]; omega
    · have hk' : k = rs.length := by omega
      have Hf : Hid (sumS (stepL x y) (rs.take k) = S) := Lib.hid (by rw [hk', List.take_length]; exact HS.out)
      clear hk'
      go_wp2
      go_ret
      exact ⟨ret_i (by rw [Hf.out]), E.out⟩
end Go.Proofs.YtagmnbphbakikaaGreat
namespace Go.Proofs.YtagmnbphbakikaaGreat
open Go Go.RowKit Reg
attribute [local go_sem] calmAt calmUpon
def edC (e : Ed) : List Value := [.int .i64 e.1.1, .int .i64 e.1.2, .int .i64 e.2.1, .int .i64 e.2.2]
def edR : World → Ed → List Value → Prop := fun _ e us => us = edC e
theorem edR_stab : Stab edR := fun _ _ _ _ h _ => h
theorem edC_len (e : Ed) : (edC e).length = 4 := rfl
abbrev Eds (w : World) (A : Option Addr) (es : List Ed) : Prop := In edR 4 w A es
theorem In.eds {w : World} {A : Option Addr} {es : List Ed} (h : Eds w A es) (hn : 0 < es.length) : ∃ b off, A = some ⟨b, off, none⟩ ∧ b < w.heap.size ∧
    ∀ (k : Nat) (h : k < es.length), w.cell? ⟨b, off + k * 4, none⟩ = some (.int .i64 es[k].1.1) ∧ w.cell? ⟨b, off + k * 4 + 1, none⟩ = some (.int .i64 es[k].1.2) ∧ w.cell? ⟨b, off + k * 4 + 2, none⟩ = some (.int .i64 es[k].2.1) ∧ w.cell? ⟨b, off + k * 4 + 3, none⟩ = some (.int .i64 es[k].2.2) := by
  have hlt := h.lt (by omega) hn
  obtain ⟨b, off, hA, hc⟩ := h hn
  refine ⟨b, off, hA, hlt b off hA, fun k hk => ?_⟩
  obtain ⟨us, h1, _, h3⟩ := hc k hk
  have h1' : us = edC es[k] := h1
  subst h1'
  exact ⟨h3 0 _ rfl, h3 1 _ rfl, h3 2 _ rfl, h3 3 _ rfl⟩
theorem edgesS_len (rs : List Rg) : (edgesS rs).length = corners rs := by
  unfold edgesS corners
  rw [List.length_flatMap]
  congr 1
  apply List.map_congr_left
  intro r _
  exact edgesL_len r
theorem edgesS_snoc (rs : List Rg) (r : Rg) : edgesS (rs ++ [r]) = edgesS rs ++ edgesL r := by simp [edgesS]
theorem edges_pts {r : Rg} (h : psB r = true) {e : Ed} (he : e ∈ edgesL r) : Crd2 e.1 ∧ Crd2 e.2 := by
  obtain ⟨a, b⟩ := e
  have h1 := (List.of_mem_zip he).1
  have h2 := (List.of_mem_zip he).2
  refine ⟨crd2_of h h1, crd2_of h ?_⟩
  rcases List.mem_append.1 h2 with h2 | h2
  · exact List.mem_of_mem_tail h2
  · exact List.mem_of_mem_take h2
theorem edgesS_pts {rs : List Rg} (h : rgsB rs = true) {e : Ed} (he : e ∈ edgesS rs) : Crd2 e.1 ∧ Crd2 e.2 := by
  unfold edgesS at he
  obtain ⟨r, hr, he⟩ := List.mem_flatMap.1 he
  exact edges_pts ((rgsB_iff.1 h).1 r hr).2 he
theorem sumS_edges (f : Pt → Pt → Int) (rs : List Rg) : sumS f rs = sumI ((edgesS rs).map fun e => f e.1 e.2) := by
  unfold sumS edgesS
  induction rs with
  | nil => rfl
  | cons r rs ih => rw [List.map_cons, sumI_cons, List.flatMap_cons, List.map_append, sumI_append, ih]; rfl
theorem ei_ed : EI Tryz.prog 209 212 (.agg #[.int .i64 0, .int .i64 0, .int .i64 0, .int .i64 0]) [.int .i64 0, .int .i64 0, .int .i64 0, .int .i64 0] 32 := ei_mk Tryz.underlying209 (by kernel_rfl) rfl (by decide) (by decide)
set_option maxRecDepth 100000 in
set_option maxHeartbeats 4000000 in
theorem c_edges (A : Option Addr) (cap : Nat) (rs : List Rg) (w : World) (h : Rgs w A rs) (hl : rs.length ≤ 1000) (hc : corners rs ≤ 1000000) :
    Calls Tryz.prog 184 #[.slice A rs.length cap] w fun e w' => ∃ A' cap', e = .returned (.slice A' (edgesS rs).length cap') ∧ Eds w' A' (edgesS rs) ∧ Below w.heap.size w w' := by
  have H := Lib.hid h
  have Hc := Lib.hid hc
  clear h hc
  go_enter Tryz.func184, Tryz.ntmps184
  go_wp2_with fail
  go_loopw [3, 10] (fun v i wr => ∃ (k : Nat) (A' : Option Addr) (cap' : Nat) (es : List Ed), k ≤ rs.length ∧ i = .int .i64 k ∧ v = .slice A' es.length cap' ∧ es = edgesS (rs.take k) ∧ Has wr w.heap.size 212 4 v es.length (es.flatMap edC) ∧ Below w.heap.size w wr) (fun _ i _ => rs.length - (intOf i).toNat)
  case atStart => exact ⟨0, none, 0, [], Nat.zero_le _, rfl, rfl, rfl, own_nil _ _ _ _, Below.refl _ _⟩
  case round =>
    obtain ⟨k, A1, cap1, es, hk, rfl, rfl, hes, how, hbw⟩ := hrel
    have Hes := Lib.hid hes
    have O := Lib.hid how
    have E := Lib.hid hbw
    clear hes how hbw
    by_cases hlt : k < rs.length
    · obtain ⟨b, off, hA, _, hc⟩ := H.out.rgs (by omega)
      subst hA
      obtain ⟨A', cap', cr, hp, hle, hmx⟩ := hc k hlt
      have Hn : Hid (es ++ edgesL rs[k] = edgesS (rs.take (k + 1))) := Lib.hid (by rw [Hes.out, List.take_succ_eq_append_getElem hlt, edgesS_snoc])
      have hlen : es.length + rs[k].length ≤ 1000000 := by
        have h1 := Hc.out
        have h2 : corners (rs.take (k + 1)) ≤ corners rs := by
          conv => rhs; rw [← List.take_append_drop (k + 1) rs]
          rw [corners_append]; omega
        rw [← edgesS_len, ← Hn.out, List.length_append, edgesL_len] at h2; omega
      have Hp := Lib.hid hp
      have Cr := Lib.hid (Cls.cell E.out cr)
      clear hc hp cr
      generalize rs[k] = r at *
      have hel := edgesL_len r
      have Hel := Lib.hid hel
      clear hel
      have cCr := Cr.out
      go_wp2_with fail
      clear cCr
      clear Cr
      obtain ⟨wo, hwo⟩ : ∃ wo : World, wo = wr := ⟨_, rfl⟩
      subst hwo
      go_loopw [3, 16] (fun v i wr => ∃ (j : Nat) (A' : Option Addr) (cap' : Nat) (fs : List Ed), j ≤ r.length ∧ i = .int .i64 j ∧ v = .slice A' fs.length cap' ∧ fs = es ++ (edgesL r).take j ∧ Has wr w.heap.size 212 4 v fs.length (fs.flatMap edC) ∧ Below w.heap.size w wr) (fun _ i _ => r.length - (intOf i).toNat)
      case atStart => exact ⟨0, A1, cap1, es, Nat.zero_le _, rfl, rfl, by simp, O.out, E.out⟩
      case round =>
        obtain ⟨j, A2, cap2, fs, hj, rfl, rfl, hfs, how, hbw⟩ := hrel
        have Hfs := Lib.hid hfs
        have hfl : fs.length = es.length + j := by rw [hfs, List.length_append, List.length_take, Hel.out]; omega
        have hfl' : fs.length ≤ es.length + j := by omega
        clear hfs hfl O E
        have O := Lib.hid how
        have E := Lib.hid hbw
        have hzz : w.heap.size ≤ wr.heap.size := hbw.size
        clear how hbw
        by_cases hjl : j < r.length
        · obtain ⟨m, hm⟩ : ∃ m, m = (j + 1) % r.length := ⟨_, rfl⟩
          have hml : m < r.length := by rw [hm]; exact Nat.mod_lt _ (by omega)
          obtain ⟨b1, off1, hA, _, hc⟩ := (Hp.out.ext ptR_stab E.out).pts (by omega)
          subst hA
          obtain ⟨cx, cy⟩ := hc j hjl
          obtain ⟨dx, dy⟩ := hc m hml
          have Hst : Hid (fs ++ [(r[j], r[m])] = es ++ (edgesL r).take (j + 1)) := Lib.hid (by
            have h1 := edgesL_get hjl
            rw [Hfs.out, List.append_assoc, List.take_succ_eq_append_getElem (by rw [edgesL_len]; exact hjl), h1]
            simp only [hm])
          have hne : ¬ r = [] := by intro hh; subst hh; simp at hjl
          have g1 : IntKind.i64.wrap ((j : Int) + 1) = (j : Int) + 1 := IntWalk.i64_in _ (by omega)
          have g2 : Int.tmod ((j : Int) + 1) (r.length : Int) = (m : Int) := by rw [hm]; exact tmod_nat1 j r.length 1
          have G := Lib.hid (And.intro g1 g2)
          obtain ⟨u1, u2⟩ : (0 : Int) ≤ (m : Int) ∧ (m : Int) < (r.length : Int) := by omega
          clear hc g1 g2 hm
          generalize r[j] = p at *
          generalize r[m] = q at *
          have Cx := Lib.hid cx
          have Cy := Lib.hid cy
          have Dx := Lib.hid dx
          have Dy := Lib.hid dy
          go_wp2_with fail
          first | refine gen_calls ?_ | refine gen_code ?_ | refine gen_list ?_
          intro w2 hW
          obtain ⟨hb, hP⟩ := new1 hW
          clear hW
          replace E := Lib.hid (Ext.trans E.out hb)
          replace O := Lib.hid (own_ext O.out hb)
          replace Cx := Lib.hid (Cls.cell hb Cx.out)
          replace Cy := Lib.hid (Cls.cell hb Cy.out)
          replace Dx := Lib.hid (Cls.cell hb Dx.out)
          replace Dy := Lib.hid (Cls.cell hb Dy.out)
          clear hb
          have P := Lib.hid hP
          have lP := P.out.lt
          clear hP
          have cCx := Cx.out
          have cCy := Cy.out
          have cDx := Dx.out
          have cDy := Dy.out
          clear cx cy dx dy
          clear cCx cCy cDx cDy
          have cCx := Cx.out
          have cCy := Cy.out
          have cDx := Dx.out
          have cDy := Dy.out
          have p0 := P.out.cell_of (i := 0) rfl
          have p1 := P.out.cell_of (i := 1) rfl
          obtain ⟨g1, g2⟩ := G.out
          have hzz : w.heap.size ≤ w2.heap.size := E.out.size
          refine wp_region_calm [0,1,2,3,4,5,6,7,8,9,10] [11,12,13] (by kernel_rfl) (by kernel_rfl) ?_
          (refine calm_yes rfl rfl (fun w' hC => (by have cCx := hC.cell cCx; have cCy := hC.cell cCy; have cDx := hC.cell cDx; have cDy := hC.cell cDy; have p0 := hC.cell p0; have p1 := hC.cell p1; go_simp; rfl)) (fun K hK => ?_); go_simp; refine hK _ ?_; clear hK K)
          (refine calm_yes rfl rfl (fun w' hC => (by have cCx := hC.cell cCx; have cCy := hC.cell cCy; have cDx := hC.cell cDx; have cDy := hC.cell cDy; have p0 := hC.cell p0; have p1 := hC.cell p1; go_simp; rfl)) (fun K hK => ?_); go_simp; refine hK _ ?_; clear hK K)
          (refine calm_yes rfl rfl (fun w' hC => (by have cCx := hC.cell cCx; have cCy := hC.cell cCy; have cDx := hC.cell cDx; have cDy := hC.cell cDy; have p0 := hC.cell p0; have p1 := hC.cell p1; go_simp; rfl)) (fun K hK => ?_); go_simp; refine hK _ ?_; clear hK K)
          (refine calm_yes rfl rfl (fun w' hC => (by have cCx := hC.cell cCx; have cCy := hC.cell cCy; have cDx := hC.cell cDx; have cDy := hC.cell cDy; have p0 := hC.cell p0; have p1 := hC.cell p1; go_simp; rfl)) (fun K hK => ?_); go_simp; refine hK _ ?_; clear hK K)
          (refine calm_yes rfl rfl (fun w' hC => (by have cCx := hC.cell cCx; have cCy := hC.cell cCy; have cDx := hC.cell cDx; have cDy := hC.cell cDy; have p0 := hC.cell p0; have p1 := hC.cell p1; go_simp; rfl)) (fun K hK => ?_); go_simp; refine hK _ ?_; clear hK K)
          (refine calm_yes rfl rfl (fun w' hC => (by have cCx := hC.cell cCx; have cCy := hC.cell cCy; have cDx := hC.cell cDx; have cDy := hC.cell cDy; have p0 := hC.cell p0; have p1 := hC.cell p1; go_simp; rfl)) (fun K hK => ?_); go_simp; refine hK _ ?_; clear hK K)
          (refine calm_yes rfl rfl (fun w' hC => (by have cCx := hC.cell cCx; have cCy := hC.cell cCy; have cDx := hC.cell cDx; have cDy := hC.cell cDy; have p0 := hC.cell p0; have p1 := hC.cell p1; go_simp; rfl)) (fun K hK => ?_); go_simp; refine hK _ ?_; clear hK K)
          (refine calm_yes rfl rfl (fun w' hC => (by have cCx := hC.cell cCx; have cCy := hC.cell cCy; have cDx := hC.cell cDx; have cDy := hC.cell cDy; have p0 := hC.cell p0; have p1 := hC.cell p1; go_simp; rfl)) (fun K hK => ?_); go_simp; refine hK _ ?_; clear hK K)
          (refine calm_yes rfl rfl (fun w' hC => (by have cCx := hC.cell cCx; have cCy := hC.cell cCy; have cDx := hC.cell cDx; have cDy := hC.cell cDy; have p0 := hC.cell p0; have p1 := hC.cell p1; go_simp; rfl)) (fun K hK => ?_); go_simp; refine hK _ ?_; clear hK K)
          (refine calm_yes rfl rfl (fun w' hC => (by have cCx := hC.cell cCx; have cCy := hC.cell cCy; have cDx := hC.cell cDx; have cDy := hC.cell cDy; have p0 := hC.cell p0; have p1 := hC.cell p1; go_simp; rfl)) (fun K hK => ?_); go_simp; refine hK _ ?_; clear hK K)
          (refine calm_yes rfl rfl (fun w' hC => (by have cCx := hC.cell cCx; have cCy := hC.cell cCy; have cDx := hC.cell cDx; have cDy := hC.cell cDy; have p0 := hC.cell p0; have p1 := hC.cell p1; go_simp; rfl)) (fun K hK => ?_); go_simp; refine hK _ ?_; clear hK K)
          refine calm_nil (fun wa hCa => ?_)
          refine late_keep rfl rfl hCa (fun wb hxb hCb K hK => ?_)
          go_simp
          refine hK _ _ (Below.alloc hCb hCb.size _) (fun _ => ?_)
          clear hK K
          refine late_free (by kernel_rfl) rfl rfl (fun wd hxd K hK => ?_)
          have Eb := Ext.trans (ext_cls hCa) hxb
          have Ed := Ext.trans (Ext.trans Eb (ext_alloc _ _)) hxd
          have hsz : w.heap.size ≤ wd.heap.size := by have h1 := Ed.size; omega
          refine wp_app (base := w.heap.size) ei_ed (.tmp 21) (.tmp 32) rfl rfl (own_ext O.out Ed) rfl ((src_new wb _ [_, _, _, _] (m := 1) rfl (by intro u hu; simp only [List.mem_cons, List.not_mem_nil, or_false] at hu; rcases hu with rfl | rfl | rfl | rfl <;> rfl)).ext hxd) (by omega) hsz ?_
          intro ve we hown hg hat
          refine hK _ _ ?_
          clear hK K
          refine late_free (by kernel_rfl) rfl rfl (fun wf13 hx13 K hK => ?_)
          go_simp
          refine hK _ _ ?_
          clear hK K
          refine late_nil (fun w3 hxz => ?_)
          have EN := Ext.trans hx13 hxz
          obtain ⟨A3, cap3, hve⟩ := own_form hown
          clear cCx cCy cDx cDy p0 p1
          replace E := Lib.hid (Ext.trans (Below.grown (Ext.trans E.out Ed) hg (by have := hsz; omega) (fun k hk => by have := (O.out.lt k hk).1; omega)) EN)
          replace P := Lib.hid (((P.out.ext Ed).grownNe (own_ext O.out Ed) (by decide) hg).ext EN)
          have lP := P.out.lt
          have heq : fs ++ [(p, q)] = (fs ++ [(p, q)]) := rfl
          replace O : Hid (Has w3 w.heap.size 212 4 (.slice A3 ((fs ++ [(p, q)])).length cap3) ((fs ++ [(p, q)])).length (((fs ++ [(p, q)])).flatMap edC)) := Lib.hid (by
            have q := own_ext hown EN
            rw [hve] at q
            rw [← heq, List.flatMap_append, List.length_append]
            exact q)
          have hvf : ve = .slice A3 ((fs ++ [(p, q)])).length cap3 := by rw [hve, ← heq, List.length_append]; rfl
          clear hve
          clear hown hg hat heq EN Ed Eb hsz hCa hCb hxb hxd hxz hx13
          subst hvf
          have p0 := P.out.cell_of (i := 0) rfl
          have p1 := P.out.cell_of (i := 1) rfl
          clear g1 g2
          go_wp2
          go_roundw
          case rel => exact ⟨j + 1, A3, cap3, _, by omega, by go_num, rfl, Hst.out, O.out, E.out⟩
          case measure => simp [intOf]; omega
        · have hj' : j = r.length := by omega
          have Hf : Hid (fs = edgesS (rs.take (k + 1))) := Lib.hid (by rw [← Hn.out, Hfs.out, hj', List.take_of_length_le (by rw [edgesL_len]; exact Nat.le_refl _)])
          clear hj'
          go_wp2
          go_roundw
          case rel => exact ⟨k + 1, A2, cap2, fs, by omega, by go_num, rfl, Hf.out, O.out, E.out⟩
          case measure => simp [intOf]; omega
    · have hk' : k = rs.length := by omega
      have Hf : Hid (es = edgesS rs) := Lib.hid (by rw [Hes.out, hk', List.take_length])
      clear hk'
      go_wp2
      go_ret
      exact ⟨A1, cap1, ret_sl (by rw [Hf.out]), by rw [← Hf.out]; exact own_in edC_len (by decide) O.out (fun _ => rfl), E.out⟩
end Go.Proofs.YtagmnbphbakikaaGreat
namespace Go.Proofs.YtagmnbphbakikaaGreat
open Go Go.RowKit Reg
attribute [local go_sem] calmAt calmUpon
def sumK (f : Pt → Pt → Int) (es : List Ed) (k : Nat) : Int := sumI ((es.take k).map fun e => f e.1 e.2)
theorem sumK_zero (f : Pt → Pt → Int) (es : List Ed) : sumK f es 0 = 0 := rfl
theorem sumK_succ (f : Pt → Pt → Int) {es : List Ed} {k : Nat} (h : k < es.length) : sumK f es (k + 1) = sumK f es k + f es[k].1 es[k].2 := by
  unfold sumK; rw [List.take_succ_eq_append_getElem h, List.map_append, sumI_append]; simp [sumI]
theorem sumK_all (f : Pt → Pt → Int) {es : List Ed} {k : Nat} (h : k = es.length) : sumK f es k = sumI (es.map fun e => f e.1 e.2) := by unfold sumK; rw [h, List.take_length]
theorem sumK_bd {f : Pt → Pt → Int} {es : List Ed} {B : Int} (h : ∀ e ∈ es, -B ≤ f e.1 e.2 ∧ f e.1 e.2 ≤ B) (hB : 0 ≤ B) {k N : Nat} (hk : k ≤ N) : -(N * B) ≤ sumK f es k ∧ sumK f es k ≤ N * B := by
  have := sumI_bd (l := (es.take k).map fun e => f e.1 e.2) (B := B) (by
    intro v hv
    obtain ⟨e, he, rfl⟩ := List.mem_map.1 hv
    exact h e (List.mem_of_mem_take he))
  rw [List.length_map] at this
  have h1 : (es.take k).length ≤ N := by rw [List.length_take]; omega
  have h2 : (((es.take k).length : Nat) : Int) * B ≤ (N : Int) * B := Int.mul_le_mul_of_nonneg_right (by omega) hB
  unfold sumK; omega
set_option maxRecDepth 100000 in
set_option maxHeartbeats 4000000 in
theorem c_iwinding (A : Option Addr) (cap : Nat) (rs : List Rg) (x y : Int) (w : World) (h : Rgs w A rs) (hv : rgsB rs = true) (hx : -2000 ≤ x ∧ x ≤ 2000) (hy : -2000 ≤ y ∧ y ≤ 2000) :
    Calls Tryz.prog 163 #[.slice A rs.length cap, .int .i64 x, .int .i64 y] w fun e w' => e = .returned (.int .i64 (windL rs x y)) ∧ Below w.heap.size w w' := by
  have hr := rgsB_iff.1 hv
  have hpt : ∀ e ∈ edgesS rs, Crd2 e.1 ∧ Crd2 e.2 := fun e he => edgesS_pts hv he
  have hel : (edgesS rs).length ≤ 200 := by rw [edgesS_len]; exact hr.2.2
  have Hw : Hid (windL rs x y = sumI ((edgesS rs).map fun e => stepL x y e.1 e.2)) := Lib.hid (sumS_edges _ _)
  have K := Lib.hid (c_edges A cap rs w h (by omega) (by omega))
  obtain ⟨S, hS⟩ : ∃ S, windL rs x y = S := ⟨_, rfl⟩
  rw [hS]
  rw [hS] at Hw
  clear h hv hr hS
  generalize edgesS rs = es at *
  have Hpt := Lib.hid hpt
  clear hpt
  go_enter Tryz.func163, Tryz.ntmps163
  go_wp2_with fail
  refine K.out.mono ?_
  rintro e w1 ⟨A1, cap1, rfl, hes, hb⟩
  have E := Lib.hid hb
  have P := Lib.hid hes
  clear hes hb K
  go_wp2_with fail
  go_loopw [7, 14] (fun n i wr => ∃ (k : Nat), k ≤ es.length ∧ i = .int .i64 k ∧ n = .int .i64 (sumK (stepL x y) es k) ∧ Ext w1 wr) (fun _ i _ => es.length - (intOf i).toNat)
  case atStart => exact ⟨0, Nat.zero_le _, rfl, rfl, Below.refl _ _⟩
  case round =>
    obtain ⟨k, hk, rfl, rfl, hbw⟩ := hrel
    have X := Lib.hid hbw
    clear hbw
    have hbd := sumK_bd (f := stepL x y) (es := es) (B := 1) (fun e _ => stepL_bd x y e.1 e.2) (by omega) (k := k) (N := 200) (by omega)
    by_cases hlt : k < es.length
    · obtain ⟨b, off, hA, _, hc⟩ := (P.out.ext edR_stab X.out).eds (by omega)
      subst hA
      obtain ⟨c0, c1, c2, c3⟩ := hc k hlt
      have Hs := Lib.hid (sumK_succ (stepL x y) hlt)
      obtain ⟨q1, q2⟩ := Hpt.out es[k] (List.getElem_mem hlt)
      clear hc
      generalize es[k] = e at *
      have Hi := Lib.hid (stepL_impl x y e.1 e.2)
      have K1 := Lib.hid (fun W => c_step e y W)
      have K2 := Lib.hid (fun W => c_left e x y W q1 q2 hx hy)
      have hsb : -1 ≤ stepS y e.1 e.2 ∧ stepS y e.1 e.2 ≤ 1 := by unfold stepS; split <;> (try split) <;> omega
      clear q1 q2
      obtain ⟨d, hd⟩ : ∃ d, leftB e.1 e.2 x y = d := ⟨_, rfl⟩
      rw [hd] at Hi K2
      generalize stepS y e.1 e.2 = s at *
      generalize sumK (stepL x y) es k = n at *
      clear hd
      go_wp2_with fail
      first | refine gen_calls ?_ | refine gen_code ?_ | refine gen_list ?_
      intro w2 hW
      obtain ⟨hb, hR⟩ := new1 hW
      clear hW
      replace X := Lib.hid (Ext.trans X.out hb)
      clear hb
      have R := Lib.hid hR
      have lR := R.out.lt
      clear hR
      clear c0 c1 c2 c3
      have r0 := R.out.cell_of (i := 0) rfl
      have r1 := R.out.cell_of (i := 1) rfl
      have r2 := R.out.cell_of (i := 2) rfl
      have r3 := R.out.cell_of (i := 3) rfl
      go_wp2_with fail
      clear r0 r1 r2 r3
      refine (K1.out _).mono ?_
      rintro e w3 ⟨rfl, hb⟩
      replace X := Lib.hid (Ext.trans X.out hb)
      replace R := Lib.hid (R.out.ext hb)
      have lR := R.out.lt
      clear hb
      have r0 := R.out.cell_of (i := 0) rfl
      have r1 := R.out.cell_of (i := 1) rfl
      have r2 := R.out.cell_of (i := 2) rfl
      have r3 := R.out.cell_of (i := 3) rfl
      by_cases hs : s = 0
      · have hb0 : (s != 0) = false := by simp [hs]
        have Hf : Hid (stepL x y e.1 e.2 = 0) := Lib.hid (by rw [Hi.out]; simp [hs])
        clear hs
        go_wp2
        go_roundw
        case rel => exact ⟨k + 1, by omega, by go_num, by rw [Hs.out, Hf.out]; simp, X.out⟩
        case measure => simp [intOf]; omega
      · have hb0 : (s != 0) = true := by simp [hs]
        have Hf : Hid (stepL x y e.1 e.2 = if d = true then s else 0) := Lib.hid (by rw [Hi.out]; simp [hs])
        clear hs
        go_wp2_with fail
        clear r0 r1 r2 r3
        refine (K2.out _).mono ?_
        rintro e w4 ⟨rfl, hb⟩
        replace X := Lib.hid (Ext.trans X.out hb)
        replace R := Lib.hid (R.out.ext hb)
        have lR := R.out.lt
        clear hb
        have r0 := R.out.cell_of (i := 0) rfl
        have r1 := R.out.cell_of (i := 1) rfl
        have r2 := R.out.cell_of (i := 2) rfl
        have r3 := R.out.cell_of (i := 3) rfl
        cases d
        · have Hf2 : Hid (stepL x y e.1 e.2 = 0) := Lib.hid (by rw [Hf.out]; rfl)
          go_wp2
          go_roundw
          case rel => exact ⟨k + 1, by omega, by go_num, by rw [Hs.out, Hf2.out]; simp, X.out⟩
          case measure => simp [intOf]; omega
        · have Hf2 : Hid (stepL x y e.1 e.2 = s) := Lib.hid (by rw [Hf.out]; rfl)
          go_wp2
          go_roundw
          case rel => exact ⟨k + 1, by omega, by go_num, by rw [Hs.out, Hf2.out], X.out⟩
          case measure => simp [intOf]; omega
    · have hk' : k = es.length := by omega
      have Hf : Hid (sumK (stepL x y) es k = S) := Lib.hid (by rw [Hw.out, sumK_all _ hk'])
      clear hk'
      go_wp2
      go_ret
      exact ⟨ret_i (by rw [Hf.out]), Ext.trans E.out X.out⟩
end Go.Proofs.YtagmnbphbakikaaGreat
