/-
  Strokes: the walks of the reference, the length of a line.
-/
import Derived.Test.YtjiikjkaadfalaaRoot
import Derived.Test.YtjiikjkaadfalaaRings
import Derived.Test.YtjiikjkaadfalaaOrg
import Derived.Test.YtjiikjkaadfalaaStep
namespace Go.Proofs.Ytjiikjkaadfalaa
open Go Go.RowKit Reg
attribute [local go_sem] calmAt calmUpon
/-- What the roots of lines need. -/
theorem long_facts {a b : Pt} (ha : vpB a = true) (hb : vpB b = true) : ∃ m : Nat, (b.1 - a.1) * (b.1 - a.1) + (b.2 - a.2) * (b.2 - a.2) = (m : Int) ∧ m ≤ 8000000 ∧ rootL m = longL a b ∧ longL a b ≤ 2829 ∧
    (0 ≤ (b.1 - a.1) * (b.1 - a.1) ∧ (b.1 - a.1) * (b.1 - a.1) ≤ 4000000) ∧ (0 ≤ (b.2 - a.2) * (b.2 - a.2) ∧ (b.2 - a.2) * (b.2 - a.2) ≤ 4000000) := by
  rw [vpB_iff] at ha hb
  have h1 := sq_nonneg (b.1 - a.1)
  have h2 := sq_nonneg (b.2 - a.2)
  have h3 := sq_le (x := b.1 - a.1) (B := 2000) (by omega) (by omega)
  have h4 := sq_le (x := b.2 - a.2) (B := 2000) (by omega) (by omega)
  refine ⟨((b.1 - a.1) * (b.1 - a.1) + (b.2 - a.2) * (b.2 - a.2)).toNat, by omega, by omega, rfl, ?_, by omega, by omega⟩
  have := rootL_lt (n := ((b.1 - a.1) * (b.1 - a.1) + (b.2 - a.2) * (b.2 - a.2)).toNat) (b := 2830) (by omega)
  unfold longL
  omega
theorem nrm_bd {a b : Pt} {h : Int} (ha : vpB a = true) (hb : vpB b = true) (hn : a ≠ b) (hh : 1 ≤ h ∧ h ≤ 100) : (-200001 ≤ (nrmL a b h).1 ∧ (nrmL a b h).1 ≤ 200001) ∧ (-200001 ≤ (nrmL a b h).2 ∧ (nrmL a b h).2 ≤ 200001) := by
  rw [vpB_iff] at ha hb
  have hL := longL_pos hn
  have p1 := mul_bd (a := a.2 - b.2) (b := h) (A := 2000) (B := 100) (by omega) (by omega) (by omega) (by omega)
  have p2 := mul_bd (a := b.1 - a.1) (b := h) (A := 2000) (B := 100) (by omega) (by omega) (by omega) (by omega)
  have q1 := rndL_bd (a := (a.2 - b.2) * h) (b := longL a b) (B := 200000) (by omega) (by omega) (by omega) (by omega)
  have q2 := rndL_bd (a := (b.1 - a.1) * h) (b := longL a b) (B := 200000) (by omega) (by omega) (by omega) (by omega)
  unfold nrmL
  dsimp only
  omega
set_option maxHeartbeats 1000000 in
theorem c_normal (a b : Pt) (h : Int) (w : World) (ha : vpB a = true) (hb : vpB b = true) (hn : a ≠ b) (hh : 1 ≤ h ∧ h ≤ 100) :
    Calls Try.prog 75 #[.agg #[.int .i64 a.1, .int .i64 a.2], .agg #[.int .i64 b.1, .int .i64 b.2], .int .i64 h] w fun e w' => e = .returned (.agg #[.int .i64 (nrmL a b h).1, .int .i64 (nrmL a b h).2]) ∧ Below w.heap.size w w' := by
  obtain ⟨m, hm, hm8, hmL, hL2, hx, hy⟩ := long_facts ha hb
  have hL := longL_pos hn
  rw [vpB_iff] at ha hb
  have p1 := mul_bd (a := -(b.2 - a.2)) (b := h) (A := 2000) (B := 100) (by omega) (by omega) (by omega) (by omega)
  have p2 := mul_bd (a := b.1 - a.1) (b := h) (A := 2000) (B := 100) (by omega) (by omega) (by omega) (by omega)
  have Hr : Hid ((nrmL a b h).1 = rndL (-(b.2 - a.2) * h) (longL a b) ∧ (nrmL a b h).2 = rndL ((b.1 - a.1) * h) (longL a b)) := Lib.hid ⟨by unfold nrmL; rw [show -(b.2 - a.2) = a.2 - b.2 by omega], rfl⟩
  obtain ⟨L, hLe⟩ : ∃ L, longL a b = L := ⟨_, rfl⟩
  rw [hLe] at Hr hL hL2 hmL
  have K := Lib.hid (fun W => hmL ▸ c_rootOf m W (by omega))
  clear hLe hmL hn
  have hmax : (if (1 : Int) < (L : Int) then (L : Int) else 1) = (L : Int) := by split <;> omega
  go_enter Try.func75, Try.ntmps75
  go_wp2_with fail
  refine (K.out _).mono ?_
  rintro e w1 ⟨rfl, rfl⟩
  clear hm K
  go_wp2_with fail
  refine (c_nearest _ _ _ (by omega) (by omega) (by omega) (by omega)).mono ?_
  rintro e w1 ⟨rfl, rfl⟩
  go_wp2_with fail
  refine (c_nearest _ _ _ (by omega) (by omega) (by omega) (by omega)).mono ?_
  rintro e w1 ⟨rfl, rfl⟩
  rw [← Hr.out.1, ← Hr.out.2]
  go_wp2
  exact bodyPost_ret (v := .agg #[.int .i64 (nrmL a b h).1, .int .i64 (nrmL a b h).2]) (by simp [results, Try.results75, go_sem]) rfl ⟨rfl, (by repeat (first | exact Below.refl _ _ | assumption | refine Below.drew ?_ | refine Below.alloc ?_ (by first | exact Nat.le_refl _ | omega | (simp; done) | (simp; omega)) _ | refine Below.setCell ?_ (by first | exact Nat.le_refl _ | omega | (simp; done) | (simp; omega)) _))⟩
set_option maxHeartbeats 1000000 in
theorem c_bar (a b : Pt) (h : Int) (w : World) (ha : vpB a = true) (hb : vpB b = true) (hn : a ≠ b) (hh : 1 ≤ h ∧ h ≤ 100) :
    Calls Try.prog 50 #[.agg #[.int .i64 a.1, .int .i64 a.2], .agg #[.int .i64 b.1, .int .i64 b.2], .int .i64 h] w fun e w' => ∃ A, e = .returned (.slice A 4 4) ∧ Has w' w.heap.size 36 2 (.slice A 4 4) 4 ((barL a b h).flatMap ptC) ∧ Below w.heap.size w w' := by
  have KN := Lib.hid (fun W => c_normal a b h W ha hb hn hh)
  have hbd := nrm_bd ha hb hn hh
  rw [vpB_iff] at ha hb
  have Hr : Hid (barL a b h = barP a b (nrmL a b h)) := Lib.hid rfl
  obtain ⟨⟨n1, n2⟩, hN⟩ : ∃ n, nrmL a b h = n := ⟨_, rfl⟩
  rw [hN] at hbd KN Hr
  dsimp only at hbd
  clear hN hn
  have E := Lib.hid (Ext.refl w)
  go_enter Try.func50, Try.ntmps50
  go_wp2_with fail
  first | refine gen_calls ?_ | refine gen_code ?_ | refine gen_list ?_
  intro w1 hW
  obtain ⟨hb, hR1, hR2⟩ := new2 hW
  clear hW
  replace E := Lib.hid (Ext.trans E.out hb)
  clear hb
  have R1 := Lib.hid hR1
  have lR1 := R1.out.lt
  clear hR1
  have R2 := Lib.hid hR2
  have lR2 := R2.out.lt
  clear hR2
  have c0 := R1.out.cell_of (i := 0) rfl
  have c1 := R1.out.cell_of (i := 1) rfl
  have d0 := R2.out.cell_of (i := 0) rfl
  have d1 := R2.out.cell_of (i := 1) rfl
  go_wp2_with fail
  clear c0 c1 d0 d1
  refine (KN.out _).mono ?_
  rintro e w2 ⟨rfl, hb⟩
  replace E := Lib.hid (Ext.trans E.out hb)
  replace R1 := Lib.hid (R1.out.ext hb)
  have lR1 := R1.out.lt
  replace R2 := Lib.hid (R2.out.ext hb)
  have lR2 := R2.out.lt
  clear hb
  have c0 := R1.out.cell_of (i := 0) rfl
  have c1 := R1.out.cell_of (i := 1) rfl
  have d0 := R2.out.cell_of (i := 0) rfl
  have d1 := R2.out.cell_of (i := 1) rfl
  go_wp2
  go_ret
  have hr := Row.new (w2.alloc (.cells #[.int .i64 n1, .int .i64 n2] 36)) 36 [.int .i64 (a.1 + n1), .int .i64 (a.2 + n2), .int .i64 (b.1 + n1), .int .i64 (b.2 + n2), .int .i64 (b.1 - n1), .int .i64 (b.2 - n2), .int .i64 (a.1 - n1), .int .i64 (a.2 - n2)]
  rw [World.size_alloc] at hr
  rw [Hr.out]
  exact ⟨some ⟨w2.heap.size + 1, 0, none⟩, rfl, own_of_row (n := 4) hr (by have := E.out.size; omega) rfl (by decide), Ext.trans (Ext.trans E.out (ext_alloc _ _)) (ext_alloc _ _)⟩
end Go.Proofs.Ytjiikjkaadfalaa
