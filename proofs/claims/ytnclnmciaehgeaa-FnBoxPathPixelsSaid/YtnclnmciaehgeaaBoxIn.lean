/-
  What boxes have, and the polygon of a box's path.
-/
import Derived.Test.YtnclnmciaehgeaaRhR
import Derived.Test.YtnclnmciaehgeaaBox
import Derived.Test.YtnclnmciaehgeaaInside
import Derived.Test.YtnclnmciaehgeaaGenR
namespace Go.Proofs.Ytnclnmciaehgeaa
open Go Go.RowKit Reg
attribute [local go_sem] calmAt calmUpon
def absA (n : Int) : Int := if n < 0 then -n else n
def hasB (b : Bx) (x y : Int) : Bool := vbxB b && inB x b.1 (b.2.2.1 - 1) && inB y b.2.1 (b.2.2.2 - 1)
theorem box_ok {b : Bx} (h : boxOk b = true) : (-1000 ≤ b.1 ∧ b.1 < b.2.2.1 ∧ b.2.2.1 ≤ 1000) ∧ (-1000 ≤ b.2.1 ∧ b.2.1 < b.2.2.2 ∧ b.2.2.2 ≤ 1000) := by
  unfold boxOk vbxB at h
  simp only [Bool.and_eq_true, decide_eq_true_eq] at h
  omega
theorem box_ps {b : Bx} (h : boxOk b = true) : psB (boxPts b) = true := by
  have hb := box_ok h
  simp only [psB, boxPts, List.all_cons, List.all_nil, Bool.and_true, Bool.and_eq_true, vpB_iff, List.length_cons, List.length_nil]
  refine ⟨⟨?_, ?_, ?_, ?_⟩, by simp⟩ <;> omega
theorem box_wind {b : Bx} (h : boxOk b = true) {x y : Int} (hx : -1000 ≤ x ∧ x ≤ 1000) (hy : -1000 ≤ y ∧ y ≤ 1000) : insA [boxPts b] 0 x y = hasB b x y := by
  have hb := box_ok h
  have hg : rgsB [boxPts b] = true := rgsB4 (box_ps h)
  have hv : vbxB b = true := by unfold boxOk at h; simp only [Bool.and_eq_true] at h; exact h.1
  obtain ⟨l, t, r, bt⟩ := b
  dsimp only at hb
  have s1 : stepL x y (l, t) (r, t) = 0 := by
    unfold stepL
    rw [if_neg (by dsimp only; omega), if_neg (by dsimp only; omega)]
  have s3 : stepL x y (r, bt) (l, bt) = 0 := by
    unfold stepL
    rw [if_neg (by dsimp only; omega), if_neg (by dsimp only; omega)]
  have pr : ∀ k : Int, 0 ≤ (x - k) * (bt - t) ↔ k ≤ x := by
    intro k
    constructor
    · intro h0
      by_cases hk : k ≤ x
      · exact hk
      · have := Int.mul_neg_of_neg_of_pos (show x - k < 0 by omega) (show 0 < bt - t by omega)
        omega
    · intro hk
      exact Int.mul_nonneg (by omega) (by omega)
  have d2 : sideL (r, t) (r, bt) x y = (x - r) * (bt - t) := by unfold sideL; dsimp only; rw [Int.sub_self, Int.mul_zero]; omega
  have d4 : sideL (l, t) (l, bt) x y = (x - l) * (bt - t) := by unfold sideL; dsimp only; rw [Int.sub_self, Int.mul_zero]; omega
  have s2 : stepL x y (r, t) (r, bt) = if t ≤ y ∧ y < bt ∧ r ≤ x then 1 else 0 := by
    unfold stepL
    simp only [d2, pr r]
    split
    · rfl
    · rw [if_neg (by omega)]
  have s4 : stepL x y (l, bt) (l, t) = if t ≤ y ∧ y < bt ∧ l ≤ x then -1 else 0 := by
    unfold stepL
    rw [if_neg (by dsimp only; omega)]
    simp only [d4, pr l]
  have hw : windL [boxPts (l, t, r, bt)] x y = (if t ≤ y ∧ y < bt ∧ r ≤ x then 1 else 0) + (if t ≤ y ∧ y < bt ∧ l ≤ x then -1 else 0) := by
    show (stepL x y (l, t) (r, t) + (stepL x y (r, t) (r, bt) + (stepL x y (r, bt) (l, bt) + (stepL x y (l, bt) (l, t) + 0)))) + 0 = _
    rw [s1, s2, s3, s4]
    omega
  unfold insA hasB
  rw [hg, hv, hw, inB_iff.2 hx, inB_iff.2 hy]
  unfold insideL
  rw [if_neg (by decide)]
  rw [Bool.eq_iff_iff]
  simp only [Bool.and_eq_true, inB_iff]
  by_cases c1 : t ≤ y ∧ y < bt ∧ r ≤ x
  · rw [if_pos c1, if_pos (by omega)]
    simp; omega
  · rw [if_neg c1]
    by_cases c2 : t ≤ y ∧ y < bt ∧ l ≤ x
    · rw [if_pos c2]
      simp; omega
    · rw [if_neg c2]
      simp; omega
theorem box_area {b : Bx} (h : boxOk b = true) : areaR [boxPts b] = 2 * (b.2.2.1 - b.1) * (b.2.2.2 - b.2.1) := by
  have hg : rgsB [boxPts b] = true := rgsB4 (box_ps h)
  unfold areaR
  rw [if_pos hg]
  obtain ⟨l, t, r, bt⟩ := b
  show (areaE (l, t) (r, t) + (areaE (r, t) (r, bt) + (areaE (r, bt) (l, bt) + (areaE (l, bt) (l, t) + 0)))) + 0 = _
  simp only [areaE, Int.mul_sub, Int.sub_mul, Int.mul_assoc]
  have e1 := Int.mul_comm l t
  have e2 := Int.mul_comm r t
  have e3 := Int.mul_comm l bt
  have e4 := Int.mul_comm r bt
  omega
set_option maxHeartbeats 1000000 in
theorem c_absolute (n : Int) (w : World) (h : -1000000 ≤ n ∧ n ≤ 1000000) : Calls Try.prog 50 #[.int .i64 n] w fun e w' => e = .returned (.int .i64 (absA n)) ∧ w = w' := by
  obtain ⟨h1, h2⟩ := h
  by_cases hn : n < 0
  all_goals
    go_enter Try.func50, Try.ntmps50
    go_wp2
    go_ret
    exact ⟨ret_i (by unfold absA; split <;> omega), rfl⟩
set_option maxRecDepth 100000 in
set_option maxHeartbeats 1000000 in
theorem c_BoxHas (l t r b x y : Int) (w : World) (h1 : -100000 ≤ r ∧ r ≤ 100000) (h2 : -100000 ≤ b ∧ b ≤ 100000) : Calls Try.prog 51 #[bxV (l, t, r, b), .int .i64 x, .int .i64 y] w fun e w' => e = .returned (.bool (hasB (l, t, r, b) x y)) ∧ Below w.heap.size w w' := by
  obtain ⟨a1, a2⟩ := h1
  obtain ⟨a3, a4⟩ := h2
  obtain ⟨S, hS⟩ : ∃ S, hasB (l, t, r, b) x y = S := ⟨_, rfl⟩
  rw [hS]
  obtain ⟨d1, hd1⟩ : ∃ d, vbxB (l, t, r, b) = d := ⟨_, rfl⟩
  obtain ⟨d2, hd2⟩ : ∃ d, inB x l (r - 1) = d := ⟨_, rfl⟩
  obtain ⟨d3, hd3⟩ : ∃ d, inB y t (b - 1) = d := ⟨_, rfl⟩
  have HS : Hid ((d1 && d2 && d3) = S) := Lib.hid (by rw [← hS]; unfold hasB; dsimp only; rw [hd1, hd2, hd3])
  have H1 := Lib.hid hd1
  have H2 := Lib.hid hd2
  have H3 := Lib.hid hd3
  have E := Lib.hid (Below.refl w.heap.size w)
  clear hS hd1 hd2 hd3
  go_enter Try.func51, Try.ntmps51
  go_wp2_with fail
  first | refine gen_calls ?_ | refine gen_code ?_ | refine gen_list ?_
  intro w0 hW
  obtain ⟨hb, hR0⟩ := new1 hW
  clear hW
  replace E := Lib.hid (Ext.trans E.out hb)
  clear hb
  have R0 := Lib.hid hR0
  have lR0 := R0.out.lt
  clear hR0
  have c0 := R0.out.cell_of (i := 0) rfl
  have c1 := R0.out.cell_of (i := 1) rfl
  have c2 := R0.out.cell_of (i := 2) rfl
  have c3 := R0.out.cell_of (i := 3) rfl
  go_wp2_with fail
  clear c0 c1 c2 c3
  refine (c_boxvalid l t r b _).mono ?_
  rw [H1.out]
  rintro e w1 ⟨rfl, hb⟩
  replace E := Lib.hid (Ext.trans E.out hb)
  replace R0 := Lib.hid (R0.out.ext hb)
  have lR0 := R0.out.lt
  clear hb
  have c0 := R0.out.cell_of (i := 0) rfl
  have c1 := R0.out.cell_of (i := 1) rfl
  have c2 := R0.out.cell_of (i := 2) rfl
  have c3 := R0.out.cell_of (i := 3) rfl
  cases d1
  · have Hf : Hid (S = false) := Lib.hid (by rw [← HS.out]; rfl)
    go_wp2
    go_ret
    exact ⟨by rw [Hf.out]; rfl, E.out⟩
  · go_wp2_with fail
    refine (c_in x l (r - 1) _).mono ?_
    rw [H2.out]
    rintro e w' ⟨rfl, rfl⟩
    cases d2
    · have Hf : Hid (S = false) := Lib.hid (by rw [← HS.out]; rfl)
      go_wp2
      go_ret
      exact ⟨by rw [Hf.out]; rfl, E.out⟩
    · go_wp2_with fail
      refine (c_in y t (b - 1) _).mono ?_
      rw [H3.out]
      rintro e w' ⟨rfl, rfl⟩
      have Hf : Hid (S = d3) := Lib.hid (by rw [← HS.out]; rfl)
      go_wp2
      go_ret
      exact ⟨by rw [Hf.out]; rfl, E.out⟩
set_option maxRecDepth 100000 in
set_option maxHeartbeats 1000000 in
theorem c_DrawBoxPath (A : Option Addr) (cap : Nat) (bs : List Int) (w : World) (h : In byteR 1 w A bs) (hc : bs.length ≤ cap) (hl : cap ≤ 9223372036854775807) :
    Calls Try.prog 47 #[.slice A bs.length cap] w fun e w' => ∃ b : Bx4, e = .returned (bx4V b) ∧ BxP b ∧ Below w.heap.size w w' := by
  have H := Lib.hid h
  clear h
  go_enter Try.func47, Try.ntmps47
  go_wp2_with fail
  have E0 := Lib.hid (ext_alloc w (.cells #[.int .i64 0, .int .i64 0, .int .i64 0, .int .i64 0] 55))
  have R0 := Lib.hid (Row.new w 55 [.int .i64 0, .int .i64 0, .int .i64 0, .int .i64 0])
  have hz0 : (w.alloc (.cells #[.int .i64 0, .int .i64 0, .int .i64 0, .int .i64 0] 55)).heap.size = w.heap.size + 1 := by simp
  generalize w.alloc (.cells #[.int .i64 0, .int .i64 0, .int .i64 0, .int .i64 0] 55) = wa at *
  refine (c_newReader A cap bs wa (H.out.ext (fun _ _ _ _ h _ => h) E0.out) hc hl).mono ?_
  rintro e w1 ⟨g, rfl, hg0, hr1, hb1⟩
  have D1 := Lib.hid hr1
  have B1 := Lib.hid (Ext.trans E0.out hb1)
  have R1 := Lib.hid (R0.out.ext hb1)
  have hgr : w.heap.size ≠ g := by omega
  clear hr1 hb1
  go_wp2_with fail
  refine (c_anyBox g 0 w1 D1.out (by omega)).mono ?_
  rintro e w2 ⟨b, rfl, hp, hr2, hg2⟩
  have B2 := Lib.hid (below_grown B1.out hg2 (by omega) B1.out.size)
  have R2 := Lib.hid (R1.out.keptR hg2 hgr)
  have c0 := R2.out.cell_of (i := 0) rfl
  have c1 := R2.out.cell_of (i := 1) rfl
  have c2 := R2.out.cell_of (i := 2) rfl
  have c3 := R2.out.cell_of (i := 3) rfl
  have y0 := R2.out.frozen 0
  have y1 := R2.out.frozen 1
  have y2 := R2.out.frozen 2
  have y3 := R2.out.frozen 3
  have q3 := (((R2.out.set_ 0 (.int .i64 b.1)).set_ 1 (.int .i64 b.2.1)).set_ 2 (.int .i64 b.2.2.1)).set_ 3 (.int .i64 b.2.2.2)
  have e0 := q3.cell_of (i := 0) rfl
  have e1 := q3.cell_of (i := 1) rfl
  have e2 := q3.cell_of (i := 2) rfl
  have e3 := q3.cell_of (i := 3) rfl
  clear hr2 hg2
  go_wp2
  exact bodyPost_ret (v := bx4V b) (by simp [results, Try.results47, go_sem, e0, e1, e2, e3]) rfl ⟨b, rfl, hp, (((B2.out.setCell (by simp) _).setCell (by simp) _).setCell (by simp) _).setCell (by simp) _⟩
end Go.Proofs.Ytnclnmciaehgeaa
