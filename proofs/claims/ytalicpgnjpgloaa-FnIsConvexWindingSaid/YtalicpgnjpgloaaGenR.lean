/-
  Data drawn: boxes, and polygons that may be convex.
-/
import Derived.Test.YtalicpgnjpgloaaGen
import Derived.Test.YtalicpgnjpgloaaBounds
import Derived.Test.YtalicpgnjpgloaaStep
namespace Go.Proofs.Ytalicpgnjpgloaa
open Go Go.RowKit Reg
attribute [local go_sem] calmAt calmUpon
theorem Rdr.far4 {w : World} {g N b : Nat} (h : Rdr w g N) (hp : g < b) (u0 u1 u2 u3 : Value) :
    Rdr ((((w.setCell ⟨b, 0, none⟩ u0).setCell ⟨b, 1, none⟩ u1).setCell ⟨b, 2, none⟩ u2).setCell ⟨b, 3, none⟩ u3) g N :=
  (((h.far (p := ⟨b, 0, none⟩) hp u0).far (p := ⟨b, 1, none⟩) hp u1).far (p := ⟨b, 2, none⟩) hp u2).far (p := ⟨b, 3, none⟩) hp u3
theorem grown_far4 {a w : World} {g b : Nat} (h : a.grownBy w (some g)) (hp : a.heap.size ≤ b) (u0 u1 u2 u3 : Value) :
    a.grownBy ((((w.setCell ⟨b, 0, none⟩ u0).setCell ⟨b, 1, none⟩ u1).setCell ⟨b, 2, none⟩ u2).setCell ⟨b, 3, none⟩ u3) (some g) :=
  grown_far (grown_far (grown_far (grown_far h (p := ⟨b, 0, none⟩) hp u0) (p := ⟨b, 1, none⟩) hp u1) (p := ⟨b, 2, none⟩) hp u2) (p := ⟨b, 3, none⟩) hp u3
/-- Not far. -/
def NearB (n : Int) : Prop := -1100 ≤ n ∧ n ≤ 1100
def BxP (b : Bx4) : Prop := (NearB b.1 ∧ NearB b.2.1) ∧ (NearB b.2.2.1 ∧ NearB b.2.2.2)
def DrewBx (w w' : World) (e : Ending) (g N : Nat) : Prop := ∃ b : Bx4, e = .returned (bx4V b) ∧ BxP b ∧ Rdr w' g N ∧ w.grownBy w' (some g)
set_option maxRecDepth 100000 in
set_option maxHeartbeats 4000000 in
theorem c_anyBox (g N : Nat) (w : World) (h : Rdr w g N) (hN : N + 10 ≤ 1000000) :
    Calls Try.prog 20 #[.pointer (some ⟨g, 0, none⟩)] w fun e w' => DrewBx w w' e g (N + 10) := by
  have hlt := h.lt
  have D := Lib.hid h
  have G : Hid (w.grownBy w (some g)) := Lib.hid (only_refl _ _)
  clear h
  go_enter Try.func20, Try.ntmps20
  go_wp2_with fail
  first | refine gen_calls ?_ | refine gen_code ?_ | refine gen_list ?_
  intro w1 hW
  obtain ⟨hb, hZ⟩ := new1 hW
  clear hW
  replace D := Lib.hid (D.out.ext hb)
  replace G := Lib.hid (grown_trans G.out (grown_ext hb))
  clear hb
  have Z := Lib.hid hZ
  have lZ := Z.out.lt
  clear hZ
  go_wp2_with fail
  refine (c_somePointS g N _ D.out (by omega)).mono ?_
  rintro e w2 ⟨p, rfl, hp, hr, hg⟩
  replace G := Lib.hid (grown_trans G.out hg)
  replace Z := Lib.hid (Z.out.keptR hg (by omega))
  have lZ := Z.out.lt
  replace D := Lib.hid hr
  clear hr hg
  go_wp2_with fail
  refine (c_somePointS g _ _ D.out (by omega)).mono ?_
  rintro e w3 ⟨q, rfl, hq, hr, hg⟩
  replace G := Lib.hid (grown_trans G.out hg)
  replace Z := Lib.hid (Z.out.keptR hg (by omega))
  have lZ := Z.out.lt
  replace D := Lib.hid hr
  clear hr hg
  go_wp2_with fail
  first | refine gen_calls ?_ | refine gen_code ?_ | refine gen_list ?_
  intro w4 hW
  obtain ⟨hb, hL⟩ := new1 hW
  clear hW
  replace D := Lib.hid (D.out.ext hb)
  replace G := Lib.hid (grown_trans G.out (grown_ext hb))
  replace Z := Lib.hid (Z.out.ext hb)
  have lZ := Z.out.lt
  clear hb
  have L := Lib.hid hL
  have lL := L.out.lt
  clear hL
  have S : Hid (Pts w4 (some ⟨w3.heap.size, 0, none⟩) [p, q]) := Lib.hid (Row.in_ (rest := []) (enc := ptC) ptC_len (by simpa [ptC] using L.out) (fun _ _ => rfl))
  obtain ⟨⟨l, t, r, bt⟩, hb0⟩ : ∃ b, boxOfL [p, q] = b := ⟨_, rfl⟩
  have hnear : ((-16 ≤ l ∧ l ≤ 207) ∧ (-16 ≤ t ∧ t ≤ 207)) ∧ ((-16 ≤ r ∧ r ≤ 207) ∧ (-16 ≤ bt ∧ bt ≤ 207)) := by
    unfold SomeP at hp hq
    have : (l, t, r, bt) = boxOfL [p, q] := hb0.symm
    simp [boxOfL, bxAdd, bxPt] at this
    omega
  obtain ⟨⟨n1, n2⟩, n3, n4⟩ := hnear
  have HB := Lib.hid hb0
  clear hb0
  go_wp2_with fail
  refine (c_bounds _ 2 [p, q] _ S.out (by simp) (by simp)).mono ?_
  rw [HB.out]
  rintro e w5 ⟨rfl, hb⟩
  replace D := Lib.hid (D.out.ext hb)
  replace G := Lib.hid (grown_trans G.out (grown_ext hb))
  replace Z := Lib.hid (Z.out.ext hb)
  have lZ := Z.out.lt
  clear hb
  go_wp2_with fail
  first | refine gen_calls ?_ | refine gen_code ?_ | refine gen_list ?_
  intro w6 hW
  obtain ⟨hb, hX⟩ := new1 hW
  clear hW
  replace D := Lib.hid (D.out.ext hb)
  replace G := Lib.hid (grown_trans G.out (grown_ext hb))
  replace Z := Lib.hid (Z.out.ext hb)
  have lZ := Z.out.lt
  clear hb
  have X := Lib.hid hX
  have lX := X.out.lt
  clear hX
  go_wp2_with fail
  refine (c_pick g _ 16 _ D.out (by omega)).mono ?_
  rintro e w7 ⟨v, rfl, _, hr, hg⟩
  replace G := Lib.hid (grown_trans G.out hg)
  replace Z := Lib.hid (Z.out.keptR hg (by omega))
  have lZ := Z.out.lt
  replace X := Lib.hid (X.out.keptR hg (by omega))
  have lX := X.out.lt
  replace D := Lib.hid hr
  clear hr hg
  by_cases hv0 : v = 0
  · have hb0 : (v == 0) = true := by simp [hv0]
    clear hv0
    have c0 := X.out.cell_of (i := 0) rfl
    have zc0 := X.out.frozen 0
    have c1 := X.out.cell_of (i := 1) rfl
    have zc1 := X.out.frozen 1
    have c2 := X.out.cell_of (i := 2) rfl
    have zc2 := X.out.frozen 2
    have c3 := X.out.cell_of (i := 3) rfl
    have zc3 := X.out.frozen 3
    have z0 := Z.out.cell_of (i := 0) rfl
    have zz0 := Z.out.frozen 0
    have z1 := Z.out.cell_of (i := 1) rfl
    have zz1 := Z.out.frozen 1
    have z2 := Z.out.cell_of (i := 2) rfl
    have zz2 := Z.out.frozen 2
    have z3 := Z.out.cell_of (i := 3) rfl
    have zz3 := Z.out.frozen 3
    go_wp2_with fail
    exact bodyPost_ret (v := bx4V (l, t, l, bt)) (by simp [results, Try.results20, go_sem, z0, z1, z2, z3]) rfl ⟨(l, t, l, bt), rfl, by unfold BxP NearB; dsimp only; omega, ((D.out.far (p := ⟨w5.heap.size, 2, none⟩) (by simp; omega) _).mono (by omega)).far4 (by omega) _ _ _ _, grown_far4 (grown_far G.out (p := ⟨w5.heap.size, 2, none⟩) (by simp; omega) _) (by omega) _ _ _ _⟩
  have hb0 : (v == 0) = false := by simp [hv0]
  by_cases hv1 : v = 1
  · have hb1 : (v == 1) = true := by simp [hv1]
    clear hv1 hv0
    have c0 := X.out.cell_of (i := 0) rfl
    have zc0 := X.out.frozen 0
    have c1 := X.out.cell_of (i := 1) rfl
    have zc1 := X.out.frozen 1
    have c2 := X.out.cell_of (i := 2) rfl
    have zc2 := X.out.frozen 2
    have c3 := X.out.cell_of (i := 3) rfl
    have zc3 := X.out.frozen 3
    have z0 := Z.out.cell_of (i := 0) rfl
    have zz0 := Z.out.frozen 0
    have z1 := Z.out.cell_of (i := 1) rfl
    have zz1 := Z.out.frozen 1
    have z2 := Z.out.cell_of (i := 2) rfl
    have zz2 := Z.out.frozen 2
    have z3 := Z.out.cell_of (i := 3) rfl
    have zz3 := Z.out.frozen 3
    go_wp2_with fail
    exact bodyPost_ret (v := bx4V (l, t, r, t - 1)) (by simp [results, Try.results20, go_sem, z0, z1, z2, z3]) rfl ⟨(l, t, r, t - 1), rfl, by unfold BxP NearB; dsimp only; omega, ((D.out.far (p := ⟨w5.heap.size, 3, none⟩) (by simp; omega) _).mono (by omega)).far4 (by omega) _ _ _ _, grown_far4 (grown_far G.out (p := ⟨w5.heap.size, 3, none⟩) (by simp; omega) _) (by omega) _ _ _ _⟩
  have hb1 : (v == 1) = false := by simp [hv1]
  by_cases hv2 : v = 2
  · have hb2 : (v == 2) = true := by simp [hv2]
    clear hv2 hv1 hv0
    go_wp2_with fail
    first | refine gen_calls ?_ | refine gen_code ?_ | refine gen_list ?_
    intro w8 hW
    obtain ⟨hb, hY⟩ := new1 hW
    clear hW
    replace D := Lib.hid (D.out.ext hb)
    replace G := Lib.hid (grown_trans G.out (grown_ext hb))
    replace Z := Lib.hid (Z.out.ext hb)
    have lZ := Z.out.lt
    replace X := Lib.hid (X.out.ext hb)
    have lX := X.out.lt
    clear hb
    have Y := Lib.hid hY
    have lY := Y.out.lt
    clear hY
    have hI := Lib.hid (Row.in_ (rest := []) (enc := intC) (xs := [1000, 1001]) (sz := 1) (R := intR) (fun _ => rfl) (by simpa [intC] using Y.out) (fun _ _ => rfl))
    go_wp2_with fail
    refine (c_one g _ _ 2 [1000, 1001] _ D.out (by omega) hI.out (by simp) (by simp) (fun b off hA => by cases hA; omega)).mono ?_
    rintro e w9 ⟨q, rfl, hq', hr, hg⟩
    have hq' : 1000 ≤ q ∧ q ≤ 1001 := by simp at hq'; omega
    replace G := Lib.hid (grown_trans G.out hg)
    replace Z := Lib.hid (Z.out.keptR hg (by omega))
    have lZ := Z.out.lt
    replace X := Lib.hid (X.out.keptR hg (by omega))
    have lX := X.out.lt
    replace D := Lib.hid hr
    clear hr hg
    have c0 := X.out.cell_of (i := 0) rfl
    have zc0 := X.out.frozen 0
    have c1 := X.out.cell_of (i := 1) rfl
    have zc1 := X.out.frozen 1
    have c2 := X.out.cell_of (i := 2) rfl
    have zc2 := X.out.frozen 2
    have c3 := X.out.cell_of (i := 3) rfl
    have zc3 := X.out.frozen 3
    have z0 := Z.out.cell_of (i := 0) rfl
    have zz0 := Z.out.frozen 0
    have z1 := Z.out.cell_of (i := 1) rfl
    have zz1 := Z.out.frozen 1
    have z2 := Z.out.cell_of (i := 2) rfl
    have zz2 := Z.out.frozen 2
    have z3 := Z.out.cell_of (i := 3) rfl
    have zz3 := Z.out.frozen 3
    go_wp2_with fail
    exact bodyPost_ret (v := bx4V (l, t, q, bt)) (by simp [results, Try.results20, go_sem, z0, z1, z2, z3]) rfl ⟨(l, t, q, bt), rfl, by unfold BxP NearB; dsimp only; omega, ((D.out.far (p := ⟨w5.heap.size, 2, none⟩) (by simp; omega) _).mono (by omega)).far4 (by omega) _ _ _ _, grown_far4 (grown_far G.out (p := ⟨w5.heap.size, 2, none⟩) (by simp; omega) _) (by omega) _ _ _ _⟩
  have hb2 : (v == 2) = false := by simp [hv2]
  clear hv2 hv1 hv0
  have c0 := X.out.cell_of (i := 0) rfl
  have zc0 := X.out.frozen 0
  have c1 := X.out.cell_of (i := 1) rfl
  have zc1 := X.out.frozen 1
  have c2 := X.out.cell_of (i := 2) rfl
  have zc2 := X.out.frozen 2
  have c3 := X.out.cell_of (i := 3) rfl
  have zc3 := X.out.frozen 3
  have z0 := Z.out.cell_of (i := 0) rfl
  have zz0 := Z.out.frozen 0
  have z1 := Z.out.cell_of (i := 1) rfl
  have zz1 := Z.out.frozen 1
  have z2 := Z.out.cell_of (i := 2) rfl
  have zz2 := Z.out.frozen 2
  have z3 := Z.out.cell_of (i := 3) rfl
  have zz3 := Z.out.frozen 3
  go_wp2_with fail
  exact bodyPost_ret (v := bx4V (l, t, r, bt)) (by simp [results, Try.results20, go_sem, z0, z1, z2, z3]) rfl ⟨(l, t, r, bt), rfl, by unfold BxP NearB; dsimp only; omega, (D.out.mono (by omega)).far4 (by omega) _ _ _ _, grown_far4 G.out (by omega) _ _ _ _⟩
end Go.Proofs.Ytalicpgnjpgloaa
