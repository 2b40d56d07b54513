/-
  Several texts in one: FillB, FillB2.
-/
import Derived.Test.YtagmnbphbakikaaGreatMg11
import Derived.Test.YtagmnbphbakikaaGreatMg8
import Derived.Test.YtagmnbphbakikaaGreatConcat
import Derived.Test.YtagmnbphbakikaaGreatPixBox
import Derived.Test.YtagmnbphbakikaaGreatBoxOf
import Derived.Test.YtagmnbphbakikaaGreatBounds
namespace Go.Proofs.YtagmnbphbakikaaGreat
open Go Go.RowKit Reg
attribute [local go_sem] calmAt calmUpon
theorem bxAdd_vp {b : Bx4} {p : Pt} (hb : vbxB b = true) (hp : vpB p = true) : vbxB (bxAdd b p) = true := by
  unfold vbxB at *
  rw [vpB_iff] at hp
  simp only [decide_eq_true_eq] at *
  dsimp only [bxAdd]
  omega
theorem foldl_vp : ∀ (ps : List Pt) (b : Bx4), vbxB b = true → (∀ p ∈ ps, vpB p = true) → vbxB (ps.foldl bxAdd b) = true
  | [], _, h, _ => h
  | p :: ps, b, h, hp => foldl_vp ps (bxAdd b p) (bxAdd_vp h (hp p (by simp))) (fun q hq => hp q (by simp [hq]))
theorem boxOfL_vp {ps : List Pt} (h0 : 0 < ps.length) (h : ∀ p ∈ ps, vpB p = true) : vbxB (boxOfL ps) = true := by
  match ps, h0 with
  | p :: ps, _ =>
    have hp := h p (by simp)
    refine foldl_vp (p :: ps) (bxPt p) ?_ h
    rw [vpB_iff] at hp
    unfold vbxB
    simp only [decide_eq_true_eq]
    dsimp only [bxPt]
    omega
/-- The pixels that a fill touches. -/
def fbL (x : FlD) : Bx4 := if (ringsL x.1).flatten.length = 0 then (0, 0, 0, 0) else pixB (boxOfL (ringsL x.1).flatten)
def fbR (x : FlD) : Bx4 := if flB x then fbL x else (0, 0, 0, 0)
set_option maxRecDepth 100000 in
set_option maxHeartbeats 4000000 in
theorem c_iFillBox1 (A1 : Option Addr) (c1 : Nat) (x : FlD) (A2 : Option Addr) (c2 : Nat) (w : World) (hv : VbK w A1 x.1) (hp : pathOk x.1 = true) :
    Calls Tryz.prog 81 #[flV A1 x.1.length c1 x.2.1 x.2.2.1 x.2.2.2.1 A2 x.2.2.2.2.length c2] w fun e w' => e = .returned (bx4V (fbL x)) ∧ Below w.heap.size w w' := by
  obtain ⟨vs, q, f, t, ss⟩ := x
  obtain ⟨fx, fy⟩ := f
  obtain ⟨tx, ty⟩ := t
  dsimp only at hv hp
  obtain ⟨S, hS⟩ : ∃ S, ringsL vs = S := ⟨_, rfl⟩
  have HR : Hid (fbL (vs, q, (fx, fy), (tx, ty), ss) = if S.flatten.length = 0 then (0, 0, 0, 0) else pixB (boxOfL S.flatten)) := Lib.hid (by unfold fbL; dsimp only; rw [hS])
  obtain ⟨ok1, ok2, ok3⟩ := ringsL_ok hp
  rw [hS] at ok1 ok2 ok3
  have Hvp : Hid (∀ p ∈ S.flatten, vpB p = true) := Lib.hid (fun p hp => by
    obtain ⟨r, hr, hpr⟩ := List.mem_flatten.1 hp
    exact (ok1 r hr).1 p hpr)
  obtain ⟨M, hM⟩ : ∃ M, fbL (vs, q, (fx, fy), (tx, ty), ss) = M := ⟨_, rfl⟩
  rw [hM] at HR ⊢
  have HS := Lib.hid hS
  have H1 := Lib.hid hp
  have H := Lib.hid hv
  have E := Lib.hid (Below.refl w.heap.size w)
  have hfl : S.flatten.length ≤ 240 := by rw [flatten_len]; exact ok2
  clear hS hp hv ok1 hM
  go_enter Tryz.func81, Tryz.ntmps81
  go_wp2_with fail
  first | refine gen_calls ?_ | refine gen_code ?_ | refine gen_list ?_
  intro w0 hW
  obtain ⟨hb, hR1, hR2⟩ := new2 hW
  clear hW
  replace E := Lib.hid (Ext.trans E.out hb)
  replace H := Lib.hid (H.out.ext verbK_stab hb)
  clear hb
  have R1 := Lib.hid hR1
  have lR1 := R1.out.lt
  clear hR1
  have R2 := Lib.hid hR2
  have lR2 := R2.out.lt
  clear hR2
  have k0 := R1.out.cell_of (i := 0) rfl
  have k1 := R1.out.cell_of (i := 1) rfl
  have k2 := R1.out.cell_of (i := 2) rfl
  have k3 := R1.out.cell_of (i := 3) rfl
  have k4 := R1.out.cell_of (i := 4) rfl
  have k5 := R1.out.cell_of (i := 5) rfl
  have k6 := R1.out.cell_of (i := 6) rfl
  go_wp2_with fail
  clear k0 k1 k2 k3 k4 k5 k6
  refine (c_irings A1 c1 vs _ H.out H1.out).mono ?_
  rw [HS.out]
  rintro e w1 ⟨A3, cap3, ss3, rfl, ho3, hb⟩
  replace E := Lib.hid (Ext.trans E.out hb)
  replace H := Lib.hid (H.out.ext verbK_stab hb)
  replace R1 := Lib.hid (R1.out.ext hb)
  have lR1 := R1.out.lt
  replace R2 := Lib.hid (R2.out.ext hb)
  have lR2 := R2.out.lt
  clear hb
  have Q := Lib.hid (ho3.in_)
  have k0 := R1.out.cell_of (i := 0) rfl
  have k1 := R1.out.cell_of (i := 1) rfl
  have k2 := R1.out.cell_of (i := 2) rfl
  have k3 := R1.out.cell_of (i := 3) rfl
  have k4 := R1.out.cell_of (i := 4) rfl
  have k5 := R1.out.cell_of (i := 5) rfl
  have k6 := R1.out.cell_of (i := 6) rfl
  clear ho3
  go_wp2_with fail
  clear k0 k1 k2 k3 k4 k5 k6
  refine (c_Concat A3 cap3 S _ Q.out (by omega) (by omega)).mono ?_
  rintro e w2 ⟨A4, cap4, rfl, ho4, hb⟩
  replace E := Lib.hid (Ext.trans E.out hb)
  replace H := Lib.hid (H.out.ext verbK_stab hb)
  replace R1 := Lib.hid (R1.out.ext hb)
  have lR1 := R1.out.lt
  replace R2 := Lib.hid (R2.out.ext hb)
  have lR2 := R2.out.lt
  replace Q := Lib.hid (Q.out.ext rgR_stab hb)
  clear hb
  have P := Lib.hid ((own_in (enc := ptC) (R := ptR) ptC_len (by decide) ho4 (fun _ => rfl)))
  have k0 := R1.out.cell_of (i := 0) rfl
  have k1 := R1.out.cell_of (i := 1) rfl
  have k2 := R1.out.cell_of (i := 2) rfl
  have k3 := R1.out.cell_of (i := 3) rfl
  have k4 := R1.out.cell_of (i := 4) rfl
  have k5 := R1.out.cell_of (i := 5) rfl
  have k6 := R1.out.cell_of (i := 6) rfl
  clear ho4
  generalize S.flatten = F at *
  by_cases hn : F.length = 0
  · have hb0 : (((F.length : Nat) : Int) == 0) = true := by simp; exact List.eq_nil_of_length_eq_zero hn
    have Hf : Hid (M = (0, 0, 0, 0)) := Lib.hid (by rw [HR.out, if_pos hn])
    clear hn
    clear k0 k1 k2 k3 k4 k5 k6
    have m0 := R2.out.cell_of (i := 0) rfl
    have zm0 := R2.out.frozen 0
    have m1 := R2.out.cell_of (i := 1) rfl
    have zm1 := R2.out.frozen 1
    have m2 := R2.out.cell_of (i := 2) rfl
    have zm2 := R2.out.frozen 2
    have m3 := R2.out.cell_of (i := 3) rfl
    have zm3 := R2.out.frozen 3
    go_wp2
    clear m0 zm0 m1 zm1 m2 zm2 m3 zm3
    refine gen_post (fun W hW => ?_)
    have D : Row W (w.heap.size + 1) 122 [.int .i64 0, .int .i64 0, .int .i64 0, .int .i64 0] := by
      rw [hW]; exact (((R2.out.set_ 0 _).set_ 1 _).set_ 2 _).set_ 3 _
    have E9 := below_set E.out (w' := W) (g := w.heap.size + 1) (by rw [hW]; exact sets4 w2 _ 0 _ _ _ _) (by omega) E.out.size
    have y0 := D.cell_of (i := 0) rfl
    have y1 := D.cell_of (i := 1) rfl
    have y2 := D.cell_of (i := 2) rfl
    have y3 := D.cell_of (i := 3) rfl
    exact bodyPost_ret (v := bx4V (0, 0, 0, 0)) (by simp [results, Tryz.results81, go_sem, y0, y1, y2, y3]) rfl ⟨by rw [Hf.out], E9⟩
  · have hb0 : (((F.length : Nat) : Int) == 0) = false := by simp; intro hh; subst hh; simp at hn
    have Hf : Hid (M = pixB (boxOfL F)) := Lib.hid (by rw [HR.out, if_neg hn])
    have hv2 := boxOfL_vp (show 0 < F.length by omega) Hvp.out
    go_wp2_with fail
    clear k0 k1 k2 k3 k4 k5 k6
    refine (c_boxOf A4 cap4 F _ P.out (by omega) (by omega)).mono ?_
    rintro e w3 ⟨rfl, hb⟩
    replace E := Lib.hid (Ext.trans E.out hb)
    replace H := Lib.hid (H.out.ext verbK_stab hb)
    replace R1 := Lib.hid (R1.out.ext hb)
    have lR1 := R1.out.lt
    replace R2 := Lib.hid (R2.out.ext hb)
    have lR2 := R2.out.lt
    replace Q := Lib.hid (Q.out.ext rgR_stab hb)
    replace P := Lib.hid (P.out.ext ptR_stab hb)
    clear hb
    have k0 := R1.out.cell_of (i := 0) rfl
    have k1 := R1.out.cell_of (i := 1) rfl
    have k2 := R1.out.cell_of (i := 2) rfl
    have k3 := R1.out.cell_of (i := 3) rfl
    have k4 := R1.out.cell_of (i := 4) rfl
    have k5 := R1.out.cell_of (i := 5) rfl
    have k6 := R1.out.cell_of (i := 6) rfl
    obtain ⟨⟨l, t, r, b⟩, hbx⟩ : ∃ b, boxOfL F = b := ⟨_, rfl⟩
    rw [hbx] at hv2 Hf ⊢
    clear hbx hn
    go_wp2_with fail
    clear k0 k1 k2 k3 k4 k5 k6
    refine (c_PixelBox l t r b _ hv2).mono ?_
    rintro e w4 ⟨rfl, hb⟩
    replace E := Lib.hid (Ext.trans E.out hb)
    replace H := Lib.hid (H.out.ext verbK_stab hb)
    replace R1 := Lib.hid (R1.out.ext hb)
    have lR1 := R1.out.lt
    replace R2 := Lib.hid (R2.out.ext hb)
    have lR2 := R2.out.lt
    replace Q := Lib.hid (Q.out.ext rgR_stab hb)
    replace P := Lib.hid (P.out.ext ptR_stab hb)
    clear hb
    have k0 := R1.out.cell_of (i := 0) rfl
    have k1 := R1.out.cell_of (i := 1) rfl
    have k2 := R1.out.cell_of (i := 2) rfl
    have k3 := R1.out.cell_of (i := 3) rfl
    have k4 := R1.out.cell_of (i := 4) rfl
    have k5 := R1.out.cell_of (i := 5) rfl
    have k6 := R1.out.cell_of (i := 6) rfl
    obtain ⟨⟨l2, t2, r2, b2⟩, hbx⟩ : ∃ bb, pixB (l, t, r, b) = bb := ⟨_, rfl⟩
    rw [hbx] at Hf ⊢
    clear hbx
    clear k0 k1 k2 k3 k4 k5 k6
    have m0 := R2.out.cell_of (i := 0) rfl
    have zm0 := R2.out.frozen 0
    have m1 := R2.out.cell_of (i := 1) rfl
    have zm1 := R2.out.frozen 1
    have m2 := R2.out.cell_of (i := 2) rfl
    have zm2 := R2.out.frozen 2
    have m3 := R2.out.cell_of (i := 3) rfl
    have zm3 := R2.out.frozen 3
    go_wp2
    clear m0 zm0 m1 zm1 m2 zm2 m3 zm3
    refine gen_post (fun W hW => ?_)
    have D : Row W (w.heap.size + 1) 122 [.int .i64 l2, .int .i64 t2, .int .i64 r2, .int .i64 b2] := by
      rw [hW]; exact (((R2.out.set_ 0 _).set_ 1 _).set_ 2 _).set_ 3 _
    have E9 := below_set E.out (w' := W) (g := w.heap.size + 1) (by rw [hW]; exact sets4 w4 _ 0 _ _ _ _) (by omega) E.out.size
    have y0 := D.cell_of (i := 0) rfl
    have y1 := D.cell_of (i := 1) rfl
    have y2 := D.cell_of (i := 2) rfl
    have y3 := D.cell_of (i := 3) rfl
    exact bodyPost_ret (v := bx4V (l2, t2, r2, b2)) (by simp [results, Tryz.results81, go_sem, y0, y1, y2, y3]) rfl ⟨by rw [Hf.out], E9⟩
set_option maxRecDepth 100000 in
set_option maxHeartbeats 4000000 in
theorem c_sFillBox1 (A1 : Option Addr) (c1 : Nat) (x : FlD) (A2 : Option Addr) (c2 : Nat) (w : World) (hv : VbK w A1 x.1) (hp : pathOk x.1 = true) :
    Calls Tryz.prog 72 #[flV A1 x.1.length c1 x.2.1 x.2.2.1 x.2.2.2.1 A2 x.2.2.2.2.length c2] w fun e w' => e = .returned (bx4V (fbL x)) ∧ Below w.heap.size w w' := by
  obtain ⟨vs, q, f, t, ss⟩ := x
  obtain ⟨fx, fy⟩ := f
  obtain ⟨tx, ty⟩ := t
  dsimp only at hv hp
  obtain ⟨S, hS⟩ : ∃ S, ringsL vs = S := ⟨_, rfl⟩
  have HR : Hid (fbL (vs, q, (fx, fy), (tx, ty), ss) = if S.flatten.length = 0 then (0, 0, 0, 0) else pixB (boxOfL S.flatten)) := Lib.hid (by unfold fbL; dsimp only; rw [hS])
  obtain ⟨ok1, ok2, ok3⟩ := ringsL_ok hp
  rw [hS] at ok1 ok2 ok3
  have Hvp : Hid (∀ p ∈ S.flatten, vpB p = true) := Lib.hid (fun p hp => by
    obtain ⟨r, hr, hpr⟩ := List.mem_flatten.1 hp
    exact (ok1 r hr).1 p hpr)
  obtain ⟨M, hM⟩ : ∃ M, fbL (vs, q, (fx, fy), (tx, ty), ss) = M := ⟨_, rfl⟩
  rw [hM] at HR ⊢
  have HS := Lib.hid hS
  have H1 := Lib.hid hp
  have H := Lib.hid hv
  have E := Lib.hid (Below.refl w.heap.size w)
  have hfl : S.flatten.length ≤ 240 := by rw [flatten_len]; exact ok2
  clear hS hp hv ok1 hM
  go_enter Tryz.func72, Tryz.ntmps72
  go_wp2_with fail
  first | refine gen_calls ?_ | refine gen_code ?_ | refine gen_list ?_
  intro w0 hW
  obtain ⟨hb, hR1, hR2⟩ := new2 hW
  clear hW
  replace E := Lib.hid (Ext.trans E.out hb)
  replace H := Lib.hid (H.out.ext verbK_stab hb)
  clear hb
  have R1 := Lib.hid hR1
  have lR1 := R1.out.lt
  clear hR1
  have R2 := Lib.hid hR2
  have lR2 := R2.out.lt
  clear hR2
  have k0 := R1.out.cell_of (i := 0) rfl
  have k1 := R1.out.cell_of (i := 1) rfl
  have k2 := R1.out.cell_of (i := 2) rfl
  have k3 := R1.out.cell_of (i := 3) rfl
  have k4 := R1.out.cell_of (i := 4) rfl
  have k5 := R1.out.cell_of (i := 5) rfl
  have k6 := R1.out.cell_of (i := 6) rfl
  go_wp2_with fail
  clear k0 k1 k2 k3 k4 k5 k6
  refine (c_sringsK A1 c1 vs _ H.out H1.out).mono ?_
  rw [HS.out]
  rintro e w1 ⟨A3, cap3, ss3, rfl, ho3, hb⟩
  replace E := Lib.hid (Ext.trans E.out hb)
  replace H := Lib.hid (H.out.ext verbK_stab hb)
  replace R1 := Lib.hid (R1.out.ext hb)
  have lR1 := R1.out.lt
  replace R2 := Lib.hid (R2.out.ext hb)
  have lR2 := R2.out.lt
  clear hb
  have Q := Lib.hid (ho3.in_)
  have k0 := R1.out.cell_of (i := 0) rfl
  have k1 := R1.out.cell_of (i := 1) rfl
  have k2 := R1.out.cell_of (i := 2) rfl
  have k3 := R1.out.cell_of (i := 3) rfl
  have k4 := R1.out.cell_of (i := 4) rfl
  have k5 := R1.out.cell_of (i := 5) rfl
  have k6 := R1.out.cell_of (i := 6) rfl
  clear ho3
  go_wp2_with fail
  clear k0 k1 k2 k3 k4 k5 k6
  refine (c_corners A3 cap3 S _ Q.out (by omega) (by omega)).mono ?_
  rintro e w2 ⟨A4, cap4, rfl, ho4, hb⟩
  replace E := Lib.hid (Ext.trans E.out hb)
  replace H := Lib.hid (H.out.ext verbK_stab hb)
  replace R1 := Lib.hid (R1.out.ext hb)
  have lR1 := R1.out.lt
  replace R2 := Lib.hid (R2.out.ext hb)
  have lR2 := R2.out.lt
  replace Q := Lib.hid (Q.out.ext rgR_stab hb)
  clear hb
  have P := Lib.hid ((own_in (enc := ptC) (R := ptR) ptC_len (by decide) ho4 (fun _ => rfl)))
  have k0 := R1.out.cell_of (i := 0) rfl
  have k1 := R1.out.cell_of (i := 1) rfl
  have k2 := R1.out.cell_of (i := 2) rfl
  have k3 := R1.out.cell_of (i := 3) rfl
  have k4 := R1.out.cell_of (i := 4) rfl
  have k5 := R1.out.cell_of (i := 5) rfl
  have k6 := R1.out.cell_of (i := 6) rfl
  clear ho4
  generalize S.flatten = F at *
  by_cases hn : F.length = 0
  · have hb0 : (((F.length : Nat) : Int) == 0) = true := by simp; exact List.eq_nil_of_length_eq_zero hn
    have Hf : Hid (M = (0, 0, 0, 0)) := Lib.hid (by rw [HR.out, if_pos hn])
    clear hn
    clear k0 k1 k2 k3 k4 k5 k6
    have m0 := R2.out.cell_of (i := 0) rfl
    have zm0 := R2.out.frozen 0
    have m1 := R2.out.cell_of (i := 1) rfl
    have zm1 := R2.out.frozen 1
    have m2 := R2.out.cell_of (i := 2) rfl
    have zm2 := R2.out.frozen 2
    have m3 := R2.out.cell_of (i := 3) rfl
    have zm3 := R2.out.frozen 3
    go_wp2
    clear m0 zm0 m1 zm1 m2 zm2 m3 zm3
    refine gen_post (fun W hW => ?_)
    have D : Row W (w.heap.size + 1) 122 [.int .i64 0, .int .i64 0, .int .i64 0, .int .i64 0] := by
      rw [hW]; exact (((R2.out.set_ 0 _).set_ 1 _).set_ 2 _).set_ 3 _
    have E9 := below_set E.out (w' := W) (g := w.heap.size + 1) (by rw [hW]; exact sets4 w2 _ 0 _ _ _ _) (by omega) E.out.size
    have y0 := D.cell_of (i := 0) rfl
    have y1 := D.cell_of (i := 1) rfl
    have y2 := D.cell_of (i := 2) rfl
    have y3 := D.cell_of (i := 3) rfl
    exact bodyPost_ret (v := bx4V (0, 0, 0, 0)) (by simp [results, Tryz.results72, go_sem, y0, y1, y2, y3]) rfl ⟨by rw [Hf.out], E9⟩
  · have hb0 : (((F.length : Nat) : Int) == 0) = false := by simp; intro hh; subst hh; simp at hn
    have Hf : Hid (M = pixB (boxOfL F)) := Lib.hid (by rw [HR.out, if_neg hn])
    have hv2 := boxOfL_vp (show 0 < F.length by omega) Hvp.out
    go_wp2_with fail
    clear k0 k1 k2 k3 k4 k5 k6
    refine (c_bounds A4 cap4 F _ P.out (by omega) (by omega)).mono ?_
    rintro e w3 ⟨rfl, hb⟩
    replace E := Lib.hid (Ext.trans E.out hb)
    replace H := Lib.hid (H.out.ext verbK_stab hb)
    replace R1 := Lib.hid (R1.out.ext hb)
    have lR1 := R1.out.lt
    replace R2 := Lib.hid (R2.out.ext hb)
    have lR2 := R2.out.lt
    replace Q := Lib.hid (Q.out.ext rgR_stab hb)
    replace P := Lib.hid (P.out.ext ptR_stab hb)
    clear hb
    have k0 := R1.out.cell_of (i := 0) rfl
    have k1 := R1.out.cell_of (i := 1) rfl
    have k2 := R1.out.cell_of (i := 2) rfl
    have k3 := R1.out.cell_of (i := 3) rfl
    have k4 := R1.out.cell_of (i := 4) rfl
    have k5 := R1.out.cell_of (i := 5) rfl
    have k6 := R1.out.cell_of (i := 6) rfl
    obtain ⟨⟨l, t, r, b⟩, hbx⟩ : ∃ b, boxOfL F = b := ⟨_, rfl⟩
    rw [hbx] at hv2 Hf ⊢
    clear hbx hn
    go_wp2_with fail
    clear k0 k1 k2 k3 k4 k5 k6
    refine (c_spixelBox l t r b _ hv2).mono ?_
    rintro e w4 ⟨rfl, hb⟩
    replace E := Lib.hid (Ext.trans E.out hb)
    replace H := Lib.hid (H.out.ext verbK_stab hb)
    replace R1 := Lib.hid (R1.out.ext hb)
    have lR1 := R1.out.lt
    replace R2 := Lib.hid (R2.out.ext hb)
    have lR2 := R2.out.lt
    replace Q := Lib.hid (Q.out.ext rgR_stab hb)
    replace P := Lib.hid (P.out.ext ptR_stab hb)
    clear hb
    have k0 := R1.out.cell_of (i := 0) rfl
    have k1 := R1.out.cell_of (i := 1) rfl
    have k2 := R1.out.cell_of (i := 2) rfl
    have k3 := R1.out.cell_of (i := 3) rfl
    have k4 := R1.out.cell_of (i := 4) rfl
    have k5 := R1.out.cell_of (i := 5) rfl
    have k6 := R1.out.cell_of (i := 6) rfl
    obtain ⟨⟨l2, t2, r2, b2⟩, hbx⟩ : ∃ bb, pixB (l, t, r, b) = bb := ⟨_, rfl⟩
    rw [hbx] at Hf ⊢
    clear hbx
    clear k0 k1 k2 k3 k4 k5 k6
    have m0 := R2.out.cell_of (i := 0) rfl
    have zm0 := R2.out.frozen 0
    have m1 := R2.out.cell_of (i := 1) rfl
    have zm1 := R2.out.frozen 1
    have m2 := R2.out.cell_of (i := 2) rfl
    have zm2 := R2.out.frozen 2
    have m3 := R2.out.cell_of (i := 3) rfl
    have zm3 := R2.out.frozen 3
    go_wp2
    clear m0 zm0 m1 zm1 m2 zm2 m3 zm3
    refine gen_post (fun W hW => ?_)
    have D : Row W (w.heap.size + 1) 122 [.int .i64 l2, .int .i64 t2, .int .i64 r2, .int .i64 b2] := by
      rw [hW]; exact (((R2.out.set_ 0 _).set_ 1 _).set_ 2 _).set_ 3 _
    have E9 := below_set E.out (w' := W) (g := w.heap.size + 1) (by rw [hW]; exact sets4 w4 _ 0 _ _ _ _) (by omega) E.out.size
    have y0 := D.cell_of (i := 0) rfl
    have y1 := D.cell_of (i := 1) rfl
    have y2 := D.cell_of (i := 2) rfl
    have y3 := D.cell_of (i := 3) rfl
    exact bodyPost_ret (v := bx4V (l2, t2, r2, b2)) (by simp [results, Tryz.results72, go_sem, y0, y1, y2, y3]) rfl ⟨by rw [Hf.out], E9⟩
end Go.Proofs.YtagmnbphbakikaaGreat
namespace Go.Proofs.YtagmnbphbakikaaGreat
open Go Go.RowKit Reg
attribute [local go_sem] calmAt calmUpon
end Go.Proofs.YtagmnbphbakikaaGreat
