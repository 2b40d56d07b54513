/-
  What an edge adds to a winding: the walks.
-/
import Derived.Test.YteknlifgejpjfaaRings
import Derived.Test.YteknlifgejpjfaaNum
namespace Go.Proofs.Yteknlifgejpjfaa
open Go Go.RowKit Reg
attribute [local go_sem] calmAt calmUpon
abbrev ptV (p : Pt) : Value := .agg #[.int .i64 p.1, .int .i64 p.2]
abbrev edV (e : Ed) : Value := .agg #[.int .i64 e.1.1, .int .i64 e.1.2, .int .i64 e.2.1, .int .i64 e.2.2]
def stepS (y : Int) (a b : Pt) : Int := if a.2 ≤ y ∧ y < b.2 then 1 else if b.2 ≤ y ∧ y < a.2 then -1 else 0
def overL (a b : Pt) (x y : Int) : Int := (b.1 - a.1) * (y - a.2) - (x - a.1) * (b.2 - a.2)
def leftB (a b : Pt) (x y : Int) : Bool := decide ((if b.2 - a.2 < 0 then - overL a b x y else overL a b x y) ≤ 0)
theorem side_over (a b : Pt) (x y : Int) : sideL a b x y = - overL a b x y := by
  unfold sideL overL; rw [Int.mul_comm (b.1 - a.1)]; omega
theorem side_back (a b : Pt) (x y : Int) : sideL b a x y = overL a b x y := by
  unfold sideL overL
  obtain ⟨u, hu⟩ : ∃ u, u = x - a.1 := ⟨_, rfl⟩
  obtain ⟨v, hv⟩ : ∃ v, v = y - a.2 := ⟨_, rfl⟩
  obtain ⟨p, hp⟩ : ∃ p, p = b.1 - a.1 := ⟨_, rfl⟩
  obtain ⟨q, hq⟩ : ∃ q, q = b.2 - a.2 := ⟨_, rfl⟩
  rw [show x - b.1 = u - p by omega, show a.2 - b.2 = -q by omega, show y - b.2 = v - q by omega, show a.1 - b.1 = -p by omega, ← hu, ← hv, ← hp, ← hq]
  rw [Int.mul_neg, Int.mul_neg, Int.sub_mul, Int.sub_mul, Int.mul_comm p v, Int.mul_comm p q]; omega
theorem stepL_impl (x y : Int) (a b : Pt) : stepL x y a b = if stepS y a b ≠ 0 ∧ leftB a b x y = true then stepS y a b else 0 := by
  unfold stepL stepS leftB
  rw [side_over, side_back]
  by_cases h1 : a.2 ≤ y ∧ y < b.2
  · have hd : ¬ b.2 - a.2 < 0 := by omega
    have h2 : ¬ (b.2 ≤ y ∧ y < a.2) := by omega
    by_cases h3 : overL a b x y ≤ 0
    · rw [if_pos ⟨h1.1, h1.2, by omega⟩]; simp [h1, hd, h3]
    · rw [if_neg (by omega), if_neg (by omega)]; simp [h1, hd, h3]
  · by_cases h2 : b.2 ≤ y ∧ y < a.2
    · have hd : b.2 - a.2 < 0 := by omega
      by_cases h3 : 0 ≤ overL a b x y
      · rw [if_neg (by omega), if_pos ⟨h2.1, h2.2, h3⟩]; simp [h1, h2, hd] <;> omega
      · rw [if_neg (by omega), if_neg (by omega)]; simp [h1, h2, hd]; omega
    · rw [if_neg (by omega), if_neg (by omega)]; simp [h1, h2]
def Crd2 (p : Pt) : Prop := (-2000 ≤ p.1 ∧ p.1 ≤ 2000) ∧ (-2000 ≤ p.2 ∧ p.2 ≤ 2000)
theorem crd2_of {r : Rg} (h : psB r = true) {p : Pt} (hp : p ∈ r) : Crd2 p := by have := vp_of h hp; unfold Crd2; omega
set_option maxHeartbeats 2000000 in
theorem c_step (e : Ed) (y : Int) (w : World) : Calls Try.prog 44 #[edV e, .int .i64 y] w fun r w' => r = .returned (.int .i64 (stepS y e.1 e.2)) ∧ Below w.heap.size w w' := by
  obtain ⟨⟨ax, ay⟩, bx, bz⟩ := e
  obtain ⟨S, hS⟩ : ∃ S, stepS y (ax, ay) (bx, bz) = S := ⟨_, rfl⟩
  rw [hS]
  have HS : Hid ((if ay ≤ y ∧ y < bz then (1 : Int) else if bz ≤ y ∧ y < ay then -1 else 0) = S) := Lib.hid hS
  clear hS
  have hcase : (ay ≤ y ∧ y < bz) ∨ (ay ≤ y ∧ ¬ y < bz ∧ (bz ≤ y ∧ ¬ y < ay)) ∨ (¬ ay ≤ y ∧ (bz ≤ y ∧ y < ay)) ∨ (¬ ay ≤ y ∧ ¬ bz ≤ y) := by omega
  rcases hcase with ⟨h1, h2⟩ | ⟨h1, h2, h3, h4⟩ | ⟨h1, h2, h3⟩ | ⟨h1, h2⟩
  all_goals
    go_enter Try.func44, Try.ntmps44
    go_wp2
    go_ret
    exact ⟨ret_i (by have := HS.out; omega), (by repeat (first | exact Below.refl _ _ | assumption | refine Below.drew ?_ | refine Below.alloc ?_ (by first | exact Nat.le_refl _ | omega | (simp; done) | (simp; omega)) _ | refine Below.setCell ?_ (by first | exact Nat.le_refl _ | omega | (simp; done) | (simp; omega)) _))⟩
set_option maxHeartbeats 2000000 in
theorem c_left (e : Ed) (x y : Int) (w : World) (h1 : Crd2 e.1) (h2 : Crd2 e.2) (hx : -2000 ≤ x ∧ x ≤ 2000) (hy : -2000 ≤ y ∧ y ≤ 2000) :
    Calls Try.prog 45 #[edV e, .int .i64 x, .int .i64 y] w fun r w' => r = .returned (.bool (leftB e.1 e.2 x y)) ∧ Below w.heap.size w w' := by
  obtain ⟨⟨ax, ay⟩, bx, bz⟩ := e
  unfold Crd2 at h1 h2
  dsimp only at h1 h2
  obtain ⟨⟨a1, a2⟩, a3, a4⟩ := h1
  obtain ⟨⟨b1, b2⟩, b3, b4⟩ := h2
  obtain ⟨x1, x2⟩ := hx
  obtain ⟨y1, y2⟩ := hy
  have p1 := mul_bd (a := bx - ax) (b := y - ay) (A := 4000) (B := 4000) (by omega) (by omega) (by omega) (by omega)
  have p2 := mul_bd (a := x - ax) (b := bz - ay) (A := 4000) (B := 4000) (by omega) (by omega) (by omega) (by omega)
  by_cases hd : bz - ay < 0
  all_goals
    go_enter Try.func45, Try.ntmps45
    go_wp2
    go_ret
    exact ⟨ret_bb (by unfold leftB overL; dsimp only; rw [decide_eq_decide]; first | (rw [if_pos (by omega)]; omega) | (rw [if_neg (by omega)])), (by repeat (first | exact Below.refl _ _ | assumption | refine Below.drew ?_ | refine Below.alloc ?_ (by first | exact Nat.le_refl _ | omega | (simp; done) | (simp; omega)) _ | refine Below.setCell ?_ (by first | exact Nat.le_refl _ | omega | (simp; done) | (simp; omega)) _))⟩
def sgL (n : Int) : Int := if 0 < n then 1 else if n < 0 then -1 else 0
set_option maxHeartbeats 2000000 in
theorem c_sideOf (a b : Pt) (x y : Int) (w : World) (h1 : Crd2 a) (h2 : Crd2 b) (hx : -2000 ≤ x ∧ x ≤ 2000) (hy : -2000 ≤ y ∧ y ≤ 2000) :
    Calls Try.prog 63 #[ptV a, ptV b, .int .i64 x, .int .i64 y] w fun r w' => r = .returned (.int .i64 (sgL (sideL a b x y))) ∧ Below w.heap.size w w' := by
  obtain ⟨ax, ay⟩ := a
  obtain ⟨bx, bz⟩ := b
  unfold Crd2 at h1 h2
  dsimp only at h1 h2
  obtain ⟨⟨a1, a2⟩, a3, a4⟩ := h1
  obtain ⟨⟨b1, b2⟩, b3, b4⟩ := h2
  obtain ⟨x1, x2⟩ := hx
  obtain ⟨y1, y2⟩ := hy
  have p1 := mul_bd (a := x - ax) (b := bz - ay) (A := 4000) (B := 4000) (by omega) (by omega) (by omega) (by omega)
  have p2 := mul_bd (a := y - ay) (b := bx - ax) (A := 4000) (B := 4000) (by omega) (by omega) (by omega) (by omega)
  obtain ⟨S, hS⟩ : ∃ S, sgL (sideL (ax, ay) (bx, bz) x y) = S := ⟨_, rfl⟩
  rw [hS]
  have HS : Hid (sgL ((x - ax) * (bz - ay) - (y - ay) * (bx - ax)) = S) := Lib.hid hS
  clear hS
  have hcase : ((0 < (x - ax) * (bz - ay) - (y - ay) * (bx - ax) ∧ (y - ay) * (bx - ax) < (x - ax) * (bz - ay)) ∧ (¬ (x - ax) * (bz - ay) - (y - ay) * (bx - ax) < 0 ∧ ¬ (x - ax) * (bz - ay) < (y - ay) * (bx - ax))) ∨ ((¬ 0 < (x - ax) * (bz - ay) - (y - ay) * (bx - ax) ∧ ¬ (y - ay) * (bx - ax) < (x - ax) * (bz - ay)) ∧ ((x - ax) * (bz - ay) - (y - ay) * (bx - ax) < 0 ∧ (x - ax) * (bz - ay) < (y - ay) * (bx - ax))) ∨ ((¬ 0 < (x - ax) * (bz - ay) - (y - ay) * (bx - ax) ∧ ¬ (y - ay) * (bx - ax) < (x - ax) * (bz - ay)) ∧ (¬ (x - ax) * (bz - ay) - (y - ay) * (bx - ax) < 0 ∧ ¬ (x - ax) * (bz - ay) < (y - ay) * (bx - ax))) := by omega
  have K1 := Lib.hid (fun W => c_toInt true W)
  have K0 := Lib.hid (fun W => c_toInt false W)
  rcases hcase with ⟨⟨h1, h1'⟩, h2, h2'⟩ | ⟨⟨h1, h1'⟩, h2, h2'⟩ | ⟨⟨h1, h1'⟩, h2, h2'⟩
  · have Hf : Hid (S = 1) := Lib.hid (by rw [← HS.out]; unfold sgL; rw [if_pos h1])
    have g1 : decide (0 < (x - ax) * (bz - ay) - (y - ay) * (bx - ax)) = true := by simp; omega
    have g2 : decide ((y - ay) * (bx - ax) < (x - ax) * (bz - ay)) = true := by simp; omega
    have g3 : decide ((x - ax) * (bz - ay) - (y - ay) * (bx - ax) < 0) = false := by simp; omega
    have g4 : decide ((x - ax) * (bz - ay) < (y - ay) * (bx - ax)) = false := by simp; omega
    clear h1 h1' h2 h2'
    go_enter Try.func63, Try.ntmps63
    go_wp2_with fail
    refine (K1.out _).mono ?_
    rintro e w' ⟨rfl, rfl⟩
    go_wp2_with fail
    refine (K0.out _).mono ?_
    rintro e w' ⟨rfl, rfl⟩
    go_wp2
    go_ret
    exact ⟨ret_i (by rw [Hf.out]), (by repeat (first | exact Below.refl _ _ | assumption | refine Below.drew ?_ | refine Below.alloc ?_ (by first | exact Nat.le_refl _ | omega | (simp; done) | (simp; omega)) _ | refine Below.setCell ?_ (by first | exact Nat.le_refl _ | omega | (simp; done) | (simp; omega)) _))⟩
  · have Hf : Hid (S = -1) := Lib.hid (by rw [← HS.out]; unfold sgL; rw [if_neg h1, if_pos h2])
    have g1 : decide (0 < (x - ax) * (bz - ay) - (y - ay) * (bx - ax)) = false := by simp; omega
    have g2 : decide ((y - ay) * (bx - ax) < (x - ax) * (bz - ay)) = false := by simp; omega
    have g3 : decide ((x - ax) * (bz - ay) - (y - ay) * (bx - ax) < 0) = true := by simp; omega
    have g4 : decide ((x - ax) * (bz - ay) < (y - ay) * (bx - ax)) = true := by simp; omega
    clear h1 h1' h2 h2'
    go_enter Try.func63, Try.ntmps63
    go_wp2_with fail
    refine (K0.out _).mono ?_
    rintro e w' ⟨rfl, rfl⟩
    go_wp2_with fail
    refine (K1.out _).mono ?_
    rintro e w' ⟨rfl, rfl⟩
    go_wp2
    go_ret
    exact ⟨ret_i (by rw [Hf.out]), (by repeat (first | exact Below.refl _ _ | assumption | refine Below.drew ?_ | refine Below.alloc ?_ (by first | exact Nat.le_refl _ | omega | (simp; done) | (simp; omega)) _ | refine Below.setCell ?_ (by first | exact Nat.le_refl _ | omega | (simp; done) | (simp; omega)) _))⟩
  · have Hf : Hid (S = 0) := Lib.hid (by rw [← HS.out]; unfold sgL; rw [if_neg h1, if_neg h2])
    have g1 : decide (0 < (x - ax) * (bz - ay) - (y - ay) * (bx - ax)) = false := by simp; omega
    have g2 : decide ((y - ay) * (bx - ax) < (x - ax) * (bz - ay)) = false := by simp; omega
    have g3 : decide ((x - ax) * (bz - ay) - (y - ay) * (bx - ax) < 0) = false := by simp; omega
    have g4 : decide ((x - ax) * (bz - ay) < (y - ay) * (bx - ax)) = false := by simp; omega
    clear h1 h1' h2 h2'
    go_enter Try.func63, Try.ntmps63
    go_wp2_with fail
    refine (K0.out _).mono ?_
    rintro e w' ⟨rfl, rfl⟩
    go_wp2_with fail
    refine (K0.out _).mono ?_
    rintro e w' ⟨rfl, rfl⟩
    go_wp2
    go_ret
    exact ⟨ret_i (by rw [Hf.out]), (by repeat (first | exact Below.refl _ _ | assumption | refine Below.drew ?_ | refine Below.alloc ?_ (by first | exact Nat.le_refl _ | omega | (simp; done) | (simp; omega)) _ | refine Below.setCell ?_ (by first | exact Nat.le_refl _ | omega | (simp; done) | (simp; omega)) _))⟩
theorem sgL_nn (n : Int) : 0 ≤ sgL n ↔ 0 ≤ n := by unfold sgL; split <;> (try split) <;> omega
set_option maxHeartbeats 4000000 in
theorem c_stepOf (a b : Pt) (x y : Int) (w : World) (h1 : Crd2 a) (h2 : Crd2 b) (hx : -2000 ≤ x ∧ x ≤ 2000) (hy : -2000 ≤ y ∧ y ≤ 2000) :
    Calls Try.prog 55 #[ptV a, ptV b, .int .i64 x, .int .i64 y] w fun r w' => r = .returned (.int .i64 (stepL x y a b)) ∧ Below w.heap.size w w' := by
  have K := Lib.hid (fun W => c_sideOf a b x y W h1 h2 hx hy)
  have K' := Lib.hid (fun W => c_sideOf b a x y W h2 h1 hx hy)
  clear h1 h2 hx hy
  obtain ⟨S, hS⟩ : ∃ S, stepL x y a b = S := ⟨_, rfl⟩
  rw [hS]
  have hn := sgL_nn (sideL a b x y)
  have hn' := sgL_nn (sideL b a x y)
  obtain ⟨ax, ay⟩ := a
  obtain ⟨bx, bz⟩ := b
  have HS : Hid ((if ay ≤ y ∧ y < bz ∧ 0 ≤ sideL (ax, ay) (bx, bz) x y then (1 : Int) else if bz ≤ y ∧ y < ay ∧ 0 ≤ sideL (bx, bz) (ax, ay) x y then -1 else 0) = S) := Lib.hid hS
  clear hS
  generalize sideL (ax, ay) (bx, bz) x y = s at *
  generalize sideL (bx, bz) (ax, ay) x y = t at *
  generalize sgL s = s1 at *
  generalize sgL t = t1 at *
  have Hn := Lib.hid hn
  have Hn' := Lib.hid hn'
  have hcase : (ay ≤ y ∧ y < bz ∧ 0 ≤ s1) ∨ (ay ≤ y ∧ y < bz ∧ ¬ 0 ≤ s1 ∧ ¬ bz ≤ y) ∨ (ay ≤ y ∧ ¬ y < bz ∧ bz ≤ y ∧ ¬ y < ay) ∨ (¬ ay ≤ y ∧ bz ≤ y ∧ y < ay ∧ 0 ≤ t1) ∨ (¬ ay ≤ y ∧ bz ≤ y ∧ y < ay ∧ ¬ 0 ≤ t1) ∨ (¬ ay ≤ y ∧ ¬ bz ≤ y) := by omega
  clear hn hn'
  rcases hcase with ⟨h1, h2, h3⟩ | ⟨h1, h2, h3, h4⟩ | ⟨h1, h2, h3, h4⟩ | ⟨h1, h2, h3, h4⟩ | ⟨h1, h2, h3, h4⟩ | ⟨h1, h2⟩
  · have E := Lib.hid (Below.refl w.heap.size w)
    have Hf : Hid (S = 1) := Lib.hid (by have := HS.out; have := Hn.out; omega)
    go_enter Try.func55, Try.ntmps55
    go_wp2_with fail
    first | refine gen_calls ?_ | refine gen_code ?_ | refine gen_list ?_
    intro w1 hW
    obtain ⟨hb, hA, hB⟩ := new2 hW
    clear hW
    replace E := Lib.hid (Ext.trans E.out hb)
    clear hb
    have A := Lib.hid hA
    have lA := A.out.lt
    clear hA
    have B := Lib.hid hB
    have lB := B.out.lt
    clear hB
    have a0 := A.out.cell_of (i := 0) rfl
    have a1 := A.out.cell_of (i := 1) rfl
    have b0 := B.out.cell_of (i := 0) rfl
    have b1 := B.out.cell_of (i := 1) rfl
    go_wp2_with fail
    clear a0 a1 b0 b1
    refine (K.out _).mono ?_
    rintro e w2 ⟨rfl, hb⟩
    replace E := Lib.hid (Ext.trans E.out hb)
    replace A := Lib.hid (A.out.ext hb)
    have lA := A.out.lt
    replace B := Lib.hid (B.out.ext hb)
    have lB := B.out.lt
    clear hb
    have a0 := A.out.cell_of (i := 0) rfl
    have a1 := A.out.cell_of (i := 1) rfl
    have b0 := B.out.cell_of (i := 0) rfl
    have b1 := B.out.cell_of (i := 1) rfl
    go_wp2
    go_ret
    exact ⟨ret_i (by rw [Hf.out]), E.out⟩
  · have E := Lib.hid (Below.refl w.heap.size w)
    have Hf : Hid (S = 0) := Lib.hid (by have := HS.out; have := Hn.out; omega)
    go_enter Try.func55, Try.ntmps55
    go_wp2_with fail
    first | refine gen_calls ?_ | refine gen_code ?_ | refine gen_list ?_
    intro w1 hW
    obtain ⟨hb, hA, hB⟩ := new2 hW
    clear hW
    replace E := Lib.hid (Ext.trans E.out hb)
    clear hb
    have A := Lib.hid hA
    have lA := A.out.lt
    clear hA
    have B := Lib.hid hB
    have lB := B.out.lt
    clear hB
    have a0 := A.out.cell_of (i := 0) rfl
    have a1 := A.out.cell_of (i := 1) rfl
    have b0 := B.out.cell_of (i := 0) rfl
    have b1 := B.out.cell_of (i := 1) rfl
    go_wp2_with fail
    clear a0 a1 b0 b1
    refine (K.out _).mono ?_
    rintro e w2 ⟨rfl, hb⟩
    replace E := Lib.hid (Ext.trans E.out hb)
    replace A := Lib.hid (A.out.ext hb)
    have lA := A.out.lt
    replace B := Lib.hid (B.out.ext hb)
    have lB := B.out.lt
    clear hb
    have a0 := A.out.cell_of (i := 0) rfl
    have a1 := A.out.cell_of (i := 1) rfl
    have b0 := B.out.cell_of (i := 0) rfl
    have b1 := B.out.cell_of (i := 1) rfl
    go_wp2
    go_ret
    exact ⟨ret_i (by rw [Hf.out]), E.out⟩
  · have Hf : Hid (S = 0) := Lib.hid (by have := HS.out; omega)
    go_enter Try.func55, Try.ntmps55
    go_wp2
    go_ret
    exact ⟨ret_i (by rw [Hf.out]), (by repeat (first | exact Below.refl _ _ | assumption | refine Below.drew ?_ | refine Below.alloc ?_ (by first | exact Nat.le_refl _ | omega | (simp; done) | (simp; omega)) _ | refine Below.setCell ?_ (by first | exact Nat.le_refl _ | omega | (simp; done) | (simp; omega)) _))⟩
  · have E := Lib.hid (Below.refl w.heap.size w)
    have Hf : Hid (S = -1) := Lib.hid (by have := HS.out; have := Hn'.out; omega)
    go_enter Try.func55, Try.ntmps55
    go_wp2_with fail
    first | refine gen_calls ?_ | refine gen_code ?_ | refine gen_list ?_
    intro w1 hW
    obtain ⟨hb, hA, hB⟩ := new2 hW
    clear hW
    replace E := Lib.hid (Ext.trans E.out hb)
    clear hb
    have A := Lib.hid hA
    have lA := A.out.lt
    clear hA
    have B := Lib.hid hB
    have lB := B.out.lt
    clear hB
    have a0 := A.out.cell_of (i := 0) rfl
    have a1 := A.out.cell_of (i := 1) rfl
    have b0 := B.out.cell_of (i := 0) rfl
    have b1 := B.out.cell_of (i := 1) rfl
    go_wp2_with fail
    clear a0 a1 b0 b1
    refine (K'.out _).mono ?_
    rintro e w2 ⟨rfl, hb⟩
    replace E := Lib.hid (Ext.trans E.out hb)
    replace A := Lib.hid (A.out.ext hb)
    have lA := A.out.lt
    replace B := Lib.hid (B.out.ext hb)
    have lB := B.out.lt
    clear hb
    have a0 := A.out.cell_of (i := 0) rfl
    have a1 := A.out.cell_of (i := 1) rfl
    have b0 := B.out.cell_of (i := 0) rfl
    have b1 := B.out.cell_of (i := 1) rfl
    go_wp2
    go_ret
    exact ⟨ret_i (by rw [Hf.out]), E.out⟩
  · have E := Lib.hid (Below.refl w.heap.size w)
    have Hf : Hid (S = 0) := Lib.hid (by have := HS.out; have := Hn'.out; omega)
    go_enter Try.func55, Try.ntmps55
    go_wp2_with fail
    first | refine gen_calls ?_ | refine gen_code ?_ | refine gen_list ?_
    intro w1 hW
    obtain ⟨hb, hA, hB⟩ := new2 hW
    clear hW
    replace E := Lib.hid (Ext.trans E.out hb)
    clear hb
    have A := Lib.hid hA
    have lA := A.out.lt
    clear hA
    have B := Lib.hid hB
    have lB := B.out.lt
    clear hB
    have a0 := A.out.cell_of (i := 0) rfl
    have a1 := A.out.cell_of (i := 1) rfl
    have b0 := B.out.cell_of (i := 0) rfl
    have b1 := B.out.cell_of (i := 1) rfl
    go_wp2_with fail
    clear a0 a1 b0 b1
    refine (K'.out _).mono ?_
    rintro e w2 ⟨rfl, hb⟩
    replace E := Lib.hid (Ext.trans E.out hb)
    replace A := Lib.hid (A.out.ext hb)
    have lA := A.out.lt
    replace B := Lib.hid (B.out.ext hb)
    have lB := B.out.lt
    clear hb
    have a0 := A.out.cell_of (i := 0) rfl
    have a1 := A.out.cell_of (i := 1) rfl
    have b0 := B.out.cell_of (i := 0) rfl
    have b1 := B.out.cell_of (i := 1) rfl
    go_wp2
    go_ret
    exact ⟨ret_i (by rw [Hf.out]), E.out⟩
  · have Hf : Hid (S = 0) := Lib.hid (by have := HS.out; omega)
    go_enter Try.func55, Try.ntmps55
    go_wp2
    go_ret
    exact ⟨ret_i (by rw [Hf.out]), (by repeat (first | exact Below.refl _ _ | assumption | refine Below.drew ?_ | refine Below.alloc ?_ (by first | exact Nat.le_refl _ | omega | (simp; done) | (simp; omega)) _ | refine Below.setCell ?_ (by first | exact Nat.le_refl _ | omega | (simp; done) | (simp; omega)) _))⟩
end Go.Proofs.Yteknlifgejpjfaa
