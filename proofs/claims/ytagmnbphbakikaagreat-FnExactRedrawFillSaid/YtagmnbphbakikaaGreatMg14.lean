/-
  Several texts in one: DamL, DamW, DamO.
-/
import Derived.Test.YtagmnbphbakikaaGreatMg28
import Derived.Test.YtagmnbphbakikaaGreatTileL
import Derived.Test.YtagmnbphbakikaaGreatTileW
import Derived.Test.YtagmnbphbakikaaGreatMg13
import Derived.Test.YtagmnbphbakikaaGreatMg11
namespace Go.Proofs.YtagmnbphbakikaaGreat
open Go
def empB (b : Bx4) : Bool := decide (b.2.2.1 ≤ b.1 ∨ b.2.2.2 ≤ b.2.1)
def okBx (b : Bx4) : Prop := b.1 ≤ b.2.2.1 ∧ b.2.1 ≤ b.2.2.2
theorem emp_eq {b : Bx4} (h : okBx b) : decide (b.1 = b.2.2.1 ∨ b.2.1 = b.2.2.2) = empB b := by
  unfold okBx at h; unfold empB; rw [decide_eq_decide]; omega
def mixB (a b : Bx4) : Bx4 := (min a.1 b.1, min a.2.1 b.2.1, max a.2.2.1 b.2.2.1, max a.2.2.2 b.2.2.2)
def joinL (a b : Bx4) : Bx4 := if empB a then (if empB b then (0, 0, 0, 0) else b) else if empB b then a else mixB a b
def cutL (a b : Bx4) : Bx4 := (max a.1 b.1, max a.2.1 b.2.1, min a.2.2.1 b.2.2.1, min a.2.2.2 b.2.2.2)
def ovlB (b c : Bx4) : Bool := decide (max b.1 c.1 < min b.2.2.1 c.2.2.1) && decide (max b.2.1 c.2.1 < min b.2.2.2 c.2.2.2)
theorem tidy_emp (c : Bx4) : tidyL c = if empB c then (0, 0, 0, 0) else c := by
  unfold tidyL empB; simp
theorem emp_tidy (c : Bx4) : empB (tidyL c) = empB c := by
  rw [tidy_emp]
  cases h : empB c with
  | true => rfl
  | false => simpa using h
theorem emp_cut (b c : Bx4) : empB (cutL c b) = !ovlB b c := by
  unfold empB cutL ovlB
  dsimp only
  rw [Int.max_comm b.1, Int.max_comm b.2.1, Int.min_comm b.2.2.1, Int.min_comm b.2.2.2]
  rw [← Bool.decide_and, ← decide_not, decide_eq_decide]
  omega
theorem fbL_ok {x : FlD} (hp : pathOk x.1 = true) : okBx (fbL x) := by
  unfold fbL
  split
  · exact ⟨by decide, by decide⟩
  · rename_i h0
    obtain ⟨ok1, _, _⟩ := ringsL_ok hp
    have h := boxOfL_vp (ps := (ringsL x.1).flatten) (by omega) (fun p hp => by
      obtain ⟨r, hr, hpr⟩ := List.mem_flatten.1 hp
      exact (ok1 r hr).1 p hpr)
    unfold vbxB at h
    simp only [decide_eq_true_eq] at h
    generalize boxOfL (ringsL x.1).flatten = b at *
    unfold okBx pixB
    dsimp only
    omega
/-- The first k tiles' numbers, of those that a box touches. -/
def tilK (b : Bx4) (W H : Int) (k : Nat) : List Int := ((List.range k).filter fun (t : Nat) => ovlB b (tileL W H (t : Int))).map fun (t : Nat) => (t : Int)
theorem tilK_yes {b : Bx4} {W H : Int} {k : Nat} (h : ovlB b (tileL W H (k : Int)) = true) : tilK b W H (k + 1) = tilK b W H k ++ [(k : Int)] := by
  unfold tilK; rw [List.range_succ, List.filter_append, List.map_append]; simp [h]
theorem tilK_no {b : Bx4} {W H : Int} {k : Nat} (h : ovlB b (tileL W H (k : Int)) = false) : tilK b W H (k + 1) = tilK b W H k := by
  unfold tilK; rw [List.range_succ, List.filter_append, List.map_append]; simp [h]
theorem tilK_len (b : Bx4) (W H : Int) (k : Nat) : (tilK b W H k).length ≤ k := by
  unfold tilK
  rw [List.length_map]
  have := List.length_filter_le (fun (t : Nat) => ovlB b (tileL W H (t : Int))) (List.range k)
  rw [List.length_range] at this
  exact this
def tilB (b : Bx4) (W H : Int) : List Int := tilK b W H (tilesL W H).toNat
def damL (W H : Int) (fs : List FlD) (at_ : Int) (f : FlD) : List Int := tilB (joinL (fbL (fs[at_.toNat]?.getD f)) (fbL f)) W H
def damR (W H : Int) (fs : List FlD) (at_ : Int) (f : FlD) : List Int := if scB W H fs && (inB at_ 0 ((fs.length : Int) - 1) && flB f) then damL W H fs at_ f else []
theorem tiles_9 {W H : Int} (hW : 1 ≤ W ∧ W ≤ 12) (hH : 1 ≤ H ∧ H ≤ 12) : 1 ≤ tilesL W H ∧ tilesL W H ≤ 9 := by
  have hm : (1 ≤ acrL W ∧ acrL W ≤ 3) ∧ (1 ≤ acrL H ∧ acrL H ≤ 3) := by unfold acrL; omega
  have h1 := Int.mul_le_mul hm.1.2 hm.2.2 (by omega) (by omega)
  have h2 : 0 < acrL W * acrL H := Int.mul_pos (by omega) (by omega)
  unfold tilesL
  omega
theorem damR_len (W H : Int) (fs : List FlD) (at_ : Int) (f : FlD) : (damR W H fs at_ f).length ≤ 1000 := by
  unfold damR
  split
  · rename_i h
    simp only [Bool.and_eq_true] at h
    have hs : (1 ≤ W ∧ W ≤ 12) ∧ (1 ≤ H ∧ H ≤ 12) := by
      have h1 := h.1
      unfold scB sizeB at h1
      simp only [Bool.and_eq_true] at h1
      exact ⟨inB_iff.1 h1.1.1.1, inB_iff.1 h1.1.1.2⟩
    have h9 := tiles_9 hs.1 hs.2
    have := tilK_len (joinL (fbL (fs[at_.toNat]?.getD f)) (fbL f)) W H (tilesL W H).toNat
    unfold damL tilB
    omega
  · simp
theorem tl_ok {W H : Int} (hW : 1 ≤ W ∧ W ≤ 12) (hH : 1 ≤ H ∧ H ≤ 12) {k : Nat} (h : (k : Int) < tilesL W H) : tlB W H (k : Int) = true := by
  unfold tlB
  simp only [Bool.and_eq_true]
  exact ⟨⟨inB_iff.2 hW, inB_iff.2 hH⟩, inB_iff.2 (by omega)⟩
end Go.Proofs.YtagmnbphbakikaaGreat
namespace Go.Proofs.YtagmnbphbakikaaGreat
open Go Go.RowKit Reg
attribute [local go_sem] calmAt calmUpon
set_option maxRecDepth 100000 in
set_option maxHeartbeats 4000000 in
theorem c_sjoin (a b : Bx4) (w : World) (ha : okBx a) (hb : okBx b) :
    Calls Tryz.prog 71 #[bx4V a, bx4V b] w fun e w' => e = .returned (bx4V (joinL a b)) ∧ Below w.heap.size w w' := by
  obtain ⟨d1, hd1⟩ : ∃ d, empB a = d := ⟨_, rfl⟩
  obtain ⟨d2, hd2⟩ : ∃ d, empB b = d := ⟨_, rfl⟩
  have KA := Lib.hid (fun Wd => c_isEmpty a.1 a.2.1 a.2.2.1 a.2.2.2 Wd)
  have KB := Lib.hid (fun Wd => c_isEmpty b.1 b.2.1 b.2.2.1 b.2.2.2 Wd)
  rw [emp_eq ha, hd1] at KA
  rw [emp_eq hb, hd2] at KB
  have TA : Hid (d1 = false → tidyL a = a) := Lib.hid (fun h => by rw [tidy_emp, hd1, h]; rfl)
  have TB : Hid (tidyL b = if d2 then (0, 0, 0, 0) else b) := Lib.hid (by rw [tidy_emp, hd2])
  obtain ⟨M, hM⟩ : ∃ M, joinL a b = M := ⟨_, rfl⟩
  have HM : Hid (M = if d1 then (if d2 then (0, 0, 0, 0) else b) else if d2 then a else mixB a b) := Lib.hid (by rw [← hM]; unfold joinL; rw [hd1, hd2])
  rw [hM]
  have E := Lib.hid (Below.refl w.heap.size w)
  clear hd1 hd2 hM ha hb
  go_enter Tryz.func71, Tryz.ntmps71
  go_wp2_with fail
  first | refine gen_calls ?_ | refine gen_code ?_ | refine gen_list ?_
  intro w0 hW
  obtain ⟨hb, hA, hB, hZ⟩ := new3 hW
  clear hW
  replace E := Lib.hid (Ext.trans E.out hb)
  clear hb
  have A := Lib.hid hA
  have lA := A.out.lt
  clear hA
  have B := Lib.hid hB
  have lB := B.out.lt
  clear hB
  have Z := Lib.hid hZ
  have lZ := Z.out.lt
  clear hZ
  have x0 := A.out.cell_of (i := 0) rfl
  have x1 := A.out.cell_of (i := 1) rfl
  have x2 := A.out.cell_of (i := 2) rfl
  have x3 := A.out.cell_of (i := 3) rfl
  have y0 := B.out.cell_of (i := 0) rfl
  have y1 := B.out.cell_of (i := 1) rfl
  have y2 := B.out.cell_of (i := 2) rfl
  have y3 := B.out.cell_of (i := 3) rfl
  have z0 := Z.out.cell_of (i := 0) rfl
  have zz0 := Z.out.frozen 0
  have z1 := Z.out.cell_of (i := 1) rfl
  have zz1 := Z.out.frozen 1
  have z2 := Z.out.cell_of (i := 2) rfl
  have zz2 := Z.out.frozen 2
  have z3 := Z.out.cell_of (i := 3) rfl
  have zz3 := Z.out.frozen 3
  go_wp2_with fail
  clear x0 x1 x2 x3 y0 y1 y2 y3 z0 zz0 z1 zz1 z2 zz2 z3 zz3
  refine (KA.out _).mono ?_
  rintro e w1 ⟨rfl, hb⟩
  replace E := Lib.hid (Ext.trans E.out hb)
  replace A := Lib.hid (A.out.ext hb)
  have lA := A.out.lt
  replace B := Lib.hid (B.out.ext hb)
  have lB := B.out.lt
  replace Z := Lib.hid (Z.out.ext hb)
  have lZ := Z.out.lt
  clear hb
  have x0 := A.out.cell_of (i := 0) rfl
  have x1 := A.out.cell_of (i := 1) rfl
  have x2 := A.out.cell_of (i := 2) rfl
  have x3 := A.out.cell_of (i := 3) rfl
  have y0 := B.out.cell_of (i := 0) rfl
  have y1 := B.out.cell_of (i := 1) rfl
  have y2 := B.out.cell_of (i := 2) rfl
  have y3 := B.out.cell_of (i := 3) rfl
  have z0 := Z.out.cell_of (i := 0) rfl
  have zz0 := Z.out.frozen 0
  have z1 := Z.out.cell_of (i := 1) rfl
  have zz1 := Z.out.frozen 1
  have z2 := Z.out.cell_of (i := 2) rfl
  have zz2 := Z.out.frozen 2
  have z3 := Z.out.cell_of (i := 3) rfl
  have zz3 := Z.out.frozen 3
  cases d1
  · go_wp2_with fail
    clear x0 x1 x2 x3 y0 y1 y2 y3 z0 zz0 z1 zz1 z2 zz2 z3 zz3
    refine (KB.out _).mono ?_
    rintro e w2 ⟨rfl, hb⟩
    replace E := Lib.hid (Ext.trans E.out hb)
    replace A := Lib.hid (A.out.ext hb)
    have lA := A.out.lt
    replace B := Lib.hid (B.out.ext hb)
    have lB := B.out.lt
    replace Z := Lib.hid (Z.out.ext hb)
    have lZ := Z.out.lt
    clear hb
    have x0 := A.out.cell_of (i := 0) rfl
    have x1 := A.out.cell_of (i := 1) rfl
    have x2 := A.out.cell_of (i := 2) rfl
    have x3 := A.out.cell_of (i := 3) rfl
    have y0 := B.out.cell_of (i := 0) rfl
    have y1 := B.out.cell_of (i := 1) rfl
    have y2 := B.out.cell_of (i := 2) rfl
    have y3 := B.out.cell_of (i := 3) rfl
    have z0 := Z.out.cell_of (i := 0) rfl
    have zz0 := Z.out.frozen 0
    have z1 := Z.out.cell_of (i := 1) rfl
    have zz1 := Z.out.frozen 1
    have z2 := Z.out.cell_of (i := 2) rfl
    have zz2 := Z.out.frozen 2
    have z3 := Z.out.cell_of (i := 3) rfl
    have zz3 := Z.out.frozen 3
    cases d2
    · obtain ⟨a1, a2, a3, a4⟩ := a
      obtain ⟨b1, b2, b3, b4⟩ := b
      obtain ⟨n1, hn1⟩ : ∃ n, min a1 b1 = n := ⟨_, rfl⟩
      obtain ⟨n2, hn2⟩ : ∃ n, min a2 b2 = n := ⟨_, rfl⟩
      obtain ⟨n3, hn3⟩ : ∃ n, max a3 b3 = n := ⟨_, rfl⟩
      obtain ⟨n4, hn4⟩ : ∃ n, max a4 b4 = n := ⟨_, rfl⟩
      have hz : M = (n1, n2, n3, n4) := by rw [HM.out, ← hn1, ← hn2, ← hn3, ← hn4]; rfl
      have m1 : (if b1 < a1 then b1 else a1) = n1 := by rw [← hn1, Int.min_def]; split <;> split <;> omega
      have m2 : (if b2 < a2 then b2 else a2) = n2 := by rw [← hn2, Int.min_def]; split <;> split <;> omega
      have m3 : (if a3 < b3 then b3 else a3) = n3 := by rw [← hn3, Int.max_def]; split <;> split <;> omega
      have m4 : (if a4 < b4 then b4 else a4) = n4 := by rw [← hn4, Int.max_def]; split <;> split <;> omega
      subst hz
      clear hn1 hn2 hn3 hn4
      go_wp2
      exact bodyPost_ret (v := bx4V (n1, n2, n3, n4)) (by simp [results, Tryz.results71, go_sem, z0, z1, z2, z3]) rfl ⟨rfl, set4_below E.out (by omega) _ _ _ _⟩
    · have hz : M = a := by rw [HM.out]; simp
      subst hz
      have Ht := Lib.hid (TA.out (by simp))
      go_wp2_with fail
      clear x0 x1 x2 x3 y0 y1 y2 y3 z0 zz0 z1 zz1 z2 zz2 z3 zz3
      refine (c_tidy M _).mono ?_
      rw [Ht.out]
      rintro e w3 ⟨rfl, hb⟩
      replace E := Lib.hid (Ext.trans E.out hb)
      replace A := Lib.hid (A.out.ext hb)
      have lA := A.out.lt
      replace B := Lib.hid (B.out.ext hb)
      have lB := B.out.lt
      replace Z := Lib.hid (Z.out.ext hb)
      have lZ := Z.out.lt
      clear hb
      have x0 := A.out.cell_of (i := 0) rfl
      have x1 := A.out.cell_of (i := 1) rfl
      have x2 := A.out.cell_of (i := 2) rfl
      have x3 := A.out.cell_of (i := 3) rfl
      have y0 := B.out.cell_of (i := 0) rfl
      have y1 := B.out.cell_of (i := 1) rfl
      have y2 := B.out.cell_of (i := 2) rfl
      have y3 := B.out.cell_of (i := 3) rfl
      have z0 := Z.out.cell_of (i := 0) rfl
      have zz0 := Z.out.frozen 0
      have z1 := Z.out.cell_of (i := 1) rfl
      have zz1 := Z.out.frozen 1
      have z2 := Z.out.cell_of (i := 2) rfl
      have zz2 := Z.out.frozen 2
      have z3 := Z.out.cell_of (i := 3) rfl
      have zz3 := Z.out.frozen 3
      go_wp2
      exact bodyPost_ret (v := bx4V M) (by simp [results, Tryz.results71, go_sem, z0, z1, z2, z3]) rfl ⟨rfl, set4_below E.out (by omega) _ _ _ _⟩
  · have Hz : Hid (tidyL b = M) := Lib.hid (by rw [TB.out, HM.out]; rfl)
    go_wp2_with fail
    clear x0 x1 x2 x3 y0 y1 y2 y3 z0 zz0 z1 zz1 z2 zz2 z3 zz3
    refine (c_tidy b _).mono ?_
    rw [Hz.out]
    rintro e w3 ⟨rfl, hb⟩
    replace E := Lib.hid (Ext.trans E.out hb)
    replace A := Lib.hid (A.out.ext hb)
    have lA := A.out.lt
    replace B := Lib.hid (B.out.ext hb)
    have lB := B.out.lt
    replace Z := Lib.hid (Z.out.ext hb)
    have lZ := Z.out.lt
    clear hb
    have x0 := A.out.cell_of (i := 0) rfl
    have x1 := A.out.cell_of (i := 1) rfl
    have x2 := A.out.cell_of (i := 2) rfl
    have x3 := A.out.cell_of (i := 3) rfl
    have y0 := B.out.cell_of (i := 0) rfl
    have y1 := B.out.cell_of (i := 1) rfl
    have y2 := B.out.cell_of (i := 2) rfl
    have y3 := B.out.cell_of (i := 3) rfl
    have z0 := Z.out.cell_of (i := 0) rfl
    have zz0 := Z.out.frozen 0
    have z1 := Z.out.cell_of (i := 1) rfl
    have zz1 := Z.out.frozen 1
    have z2 := Z.out.cell_of (i := 2) rfl
    have zz2 := Z.out.frozen 2
    have z3 := Z.out.cell_of (i := 3) rfl
    have zz3 := Z.out.frozen 3
    go_wp2
    exact bodyPost_ret (v := bx4V M) (by simp [results, Tryz.results71, go_sem, z0, z1, z2, z3]) rfl ⟨rfl, set4_below E.out (by omega) _ _ _ _⟩
set_option maxRecDepth 100000 in
set_option maxHeartbeats 4000000 in
theorem c_ijoin (a b : Bx4) (w : World) :
    Calls Tryz.prog 82 #[bx4V a, bx4V b] w fun e w' => e = .returned (bx4V (joinL a b)) ∧ Below w.heap.size w w' := by
  obtain ⟨d1, hd1⟩ : ∃ d, empB a = d := ⟨_, rfl⟩
  obtain ⟨d2, hd2⟩ : ∃ d, empB b = d := ⟨_, rfl⟩
  have ea : decide (a.2.2.1 ≤ a.1 ∨ a.2.2.2 ≤ a.2.1) = d1 := hd1
  have eb : decide (b.2.2.1 ≤ b.1 ∨ b.2.2.2 ≤ b.2.1) = d2 := hd2
  have KA := Lib.hid (fun Wd => c_boxempty a.1 a.2.1 a.2.2.1 a.2.2.2 Wd)
  have KB := Lib.hid (fun Wd => c_boxempty b.1 b.2.1 b.2.2.1 b.2.2.2 Wd)
  rw [ea] at KA
  rw [eb] at KB
  obtain ⟨M, hM⟩ : ∃ M, joinL a b = M := ⟨_, rfl⟩
  have HM : Hid (M = if d1 then (if d2 then (0, 0, 0, 0) else b) else if d2 then a else mixB a b) := Lib.hid (by rw [← hM]; unfold joinL; rw [hd1, hd2])
  rw [hM]
  have E := Lib.hid (Below.refl w.heap.size w)
  clear hd1 hd2 hM ea eb
  go_enter Tryz.func82, Tryz.ntmps82
  go_wp2_with fail
  first | refine gen_calls ?_ | refine gen_code ?_ | refine gen_list ?_
  intro w0 hW
  obtain ⟨hb, hA, hB, hZ⟩ := new3 hW
  clear hW
  replace E := Lib.hid (Ext.trans E.out hb)
  clear hb
  have A := Lib.hid hA
  have lA := A.out.lt
  clear hA
  have B := Lib.hid hB
  have lB := B.out.lt
  clear hB
  have Z := Lib.hid hZ
  have lZ := Z.out.lt
  clear hZ
  have x0 := A.out.cell_of (i := 0) rfl
  have x1 := A.out.cell_of (i := 1) rfl
  have x2 := A.out.cell_of (i := 2) rfl
  have x3 := A.out.cell_of (i := 3) rfl
  have y0 := B.out.cell_of (i := 0) rfl
  have y1 := B.out.cell_of (i := 1) rfl
  have y2 := B.out.cell_of (i := 2) rfl
  have y3 := B.out.cell_of (i := 3) rfl
  have z0 := Z.out.cell_of (i := 0) rfl
  have zz0 := Z.out.frozen 0
  have z1 := Z.out.cell_of (i := 1) rfl
  have zz1 := Z.out.frozen 1
  have z2 := Z.out.cell_of (i := 2) rfl
  have zz2 := Z.out.frozen 2
  have z3 := Z.out.cell_of (i := 3) rfl
  have zz3 := Z.out.frozen 3
  go_wp2_with fail
  clear x0 x1 x2 x3 y0 y1 y2 y3 z0 zz0 z1 zz1 z2 zz2 z3 zz3
  refine (KA.out _).mono ?_
  rintro e w1 ⟨rfl, hb⟩
  replace E := Lib.hid (Ext.trans E.out hb)
  replace A := Lib.hid (A.out.ext hb)
  have lA := A.out.lt
  replace B := Lib.hid (B.out.ext hb)
  have lB := B.out.lt
  replace Z := Lib.hid (Z.out.ext hb)
  have lZ := Z.out.lt
  clear hb
  have x0 := A.out.cell_of (i := 0) rfl
  have x1 := A.out.cell_of (i := 1) rfl
  have x2 := A.out.cell_of (i := 2) rfl
  have x3 := A.out.cell_of (i := 3) rfl
  have y0 := B.out.cell_of (i := 0) rfl
  have y1 := B.out.cell_of (i := 1) rfl
  have y2 := B.out.cell_of (i := 2) rfl
  have y3 := B.out.cell_of (i := 3) rfl
  have z0 := Z.out.cell_of (i := 0) rfl
  have zz0 := Z.out.frozen 0
  have z1 := Z.out.cell_of (i := 1) rfl
  have zz1 := Z.out.frozen 1
  have z2 := Z.out.cell_of (i := 2) rfl
  have zz2 := Z.out.frozen 2
  have z3 := Z.out.cell_of (i := 3) rfl
  have zz3 := Z.out.frozen 3
  cases d1
  · go_wp2_with fail
    clear x0 x1 x2 x3 y0 y1 y2 y3 z0 zz0 z1 zz1 z2 zz2 z3 zz3
    refine (KA.out _).mono ?_
    rintro e w2 ⟨rfl, hb⟩
    replace E := Lib.hid (Ext.trans E.out hb)
    replace A := Lib.hid (A.out.ext hb)
    have lA := A.out.lt
    replace B := Lib.hid (B.out.ext hb)
    have lB := B.out.lt
    replace Z := Lib.hid (Z.out.ext hb)
    have lZ := Z.out.lt
    clear hb
    have x0 := A.out.cell_of (i := 0) rfl
    have x1 := A.out.cell_of (i := 1) rfl
    have x2 := A.out.cell_of (i := 2) rfl
    have x3 := A.out.cell_of (i := 3) rfl
    have y0 := B.out.cell_of (i := 0) rfl
    have y1 := B.out.cell_of (i := 1) rfl
    have y2 := B.out.cell_of (i := 2) rfl
    have y3 := B.out.cell_of (i := 3) rfl
    have z0 := Z.out.cell_of (i := 0) rfl
    have zz0 := Z.out.frozen 0
    have z1 := Z.out.cell_of (i := 1) rfl
    have zz1 := Z.out.frozen 1
    have z2 := Z.out.cell_of (i := 2) rfl
    have zz2 := Z.out.frozen 2
    have z3 := Z.out.cell_of (i := 3) rfl
    have zz3 := Z.out.frozen 3
    go_wp2_with fail
    clear x0 x1 x2 x3 y0 y1 y2 y3 z0 zz0 z1 zz1 z2 zz2 z3 zz3
    refine (KB.out _).mono ?_
    rintro e w3 ⟨rfl, hb⟩
    replace E := Lib.hid (Ext.trans E.out hb)
    replace A := Lib.hid (A.out.ext hb)
    have lA := A.out.lt
    replace B := Lib.hid (B.out.ext hb)
    have lB := B.out.lt
    replace Z := Lib.hid (Z.out.ext hb)
    have lZ := Z.out.lt
    clear hb
    have x0 := A.out.cell_of (i := 0) rfl
    have x1 := A.out.cell_of (i := 1) rfl
    have x2 := A.out.cell_of (i := 2) rfl
    have x3 := A.out.cell_of (i := 3) rfl
    have y0 := B.out.cell_of (i := 0) rfl
    have y1 := B.out.cell_of (i := 1) rfl
    have y2 := B.out.cell_of (i := 2) rfl
    have y3 := B.out.cell_of (i := 3) rfl
    have z0 := Z.out.cell_of (i := 0) rfl
    have zz0 := Z.out.frozen 0
    have z1 := Z.out.cell_of (i := 1) rfl
    have zz1 := Z.out.frozen 1
    have z2 := Z.out.cell_of (i := 2) rfl
    have zz2 := Z.out.frozen 2
    have z3 := Z.out.cell_of (i := 3) rfl
    have zz3 := Z.out.frozen 3
    cases d2
    · obtain ⟨a1, a2, a3, a4⟩ := a
      obtain ⟨b1, b2, b3, b4⟩ := b
      obtain ⟨n1, hn1⟩ : ∃ n, min a1 b1 = n := ⟨_, rfl⟩
      obtain ⟨n2, hn2⟩ : ∃ n, min a2 b2 = n := ⟨_, rfl⟩
      obtain ⟨n3, hn3⟩ : ∃ n, max a3 b3 = n := ⟨_, rfl⟩
      obtain ⟨n4, hn4⟩ : ∃ n, max a4 b4 = n := ⟨_, rfl⟩
      have hz : M = (n1, n2, n3, n4) := by rw [HM.out, ← hn1, ← hn2, ← hn3, ← hn4]; rfl
      have m1 : (if b1 < a1 then b1 else a1) = n1 := by rw [← hn1, Int.min_def]; split <;> split <;> omega
      have m2 : (if b2 < a2 then b2 else a2) = n2 := by rw [← hn2, Int.min_def]; split <;> split <;> omega
      have m3 : (if a3 < b3 then b3 else a3) = n3 := by rw [← hn3, Int.max_def]; split <;> split <;> omega
      have m4 : (if a4 < b4 then b4 else a4) = n4 := by rw [← hn4, Int.max_def]; split <;> split <;> omega
      subst hz
      clear hn1 hn2 hn3 hn4
      go_wp2
      exact bodyPost_ret (v := bx4V (n1, n2, n3, n4)) (by simp [results, Tryz.results82, go_sem, z0, z1, z2, z3]) rfl ⟨rfl, set4_below E.out (by omega) _ _ _ _⟩
    · have hz : M = a := by rw [HM.out]; simp
      subst hz
      go_wp2
      exact bodyPost_ret (v := bx4V M) (by simp [results, Tryz.results82, go_sem, z0, z1, z2, z3]) rfl ⟨rfl, set4_below E.out (by omega) _ _ _ _⟩
  · go_wp2_with fail
    clear x0 x1 x2 x3 y0 y1 y2 y3 z0 zz0 z1 zz1 z2 zz2 z3 zz3
    refine (KB.out _).mono ?_
    rintro e w2 ⟨rfl, hb⟩
    replace E := Lib.hid (Ext.trans E.out hb)
    replace A := Lib.hid (A.out.ext hb)
    have lA := A.out.lt
    replace B := Lib.hid (B.out.ext hb)
    have lB := B.out.lt
    replace Z := Lib.hid (Z.out.ext hb)
    have lZ := Z.out.lt
    clear hb
    have x0 := A.out.cell_of (i := 0) rfl
    have x1 := A.out.cell_of (i := 1) rfl
    have x2 := A.out.cell_of (i := 2) rfl
    have x3 := A.out.cell_of (i := 3) rfl
    have y0 := B.out.cell_of (i := 0) rfl
    have y1 := B.out.cell_of (i := 1) rfl
    have y2 := B.out.cell_of (i := 2) rfl
    have y3 := B.out.cell_of (i := 3) rfl
    have z0 := Z.out.cell_of (i := 0) rfl
    have zz0 := Z.out.frozen 0
    have z1 := Z.out.cell_of (i := 1) rfl
    have zz1 := Z.out.frozen 1
    have z2 := Z.out.cell_of (i := 2) rfl
    have zz2 := Z.out.frozen 2
    have z3 := Z.out.cell_of (i := 3) rfl
    have zz3 := Z.out.frozen 3
    cases d2
    · have hz : M = b := by rw [HM.out]; simp
      subst hz
      go_wp2_with fail
      clear x0 x1 x2 x3 y0 y1 y2 y3 z0 zz0 z1 zz1 z2 zz2 z3 zz3
      refine (KA.out _).mono ?_
      rintro e w3 ⟨rfl, hb⟩
      replace E := Lib.hid (Ext.trans E.out hb)
      replace A := Lib.hid (A.out.ext hb)
      have lA := A.out.lt
      replace B := Lib.hid (B.out.ext hb)
      have lB := B.out.lt
      replace Z := Lib.hid (Z.out.ext hb)
      have lZ := Z.out.lt
      clear hb
      have x0 := A.out.cell_of (i := 0) rfl
      have x1 := A.out.cell_of (i := 1) rfl
      have x2 := A.out.cell_of (i := 2) rfl
      have x3 := A.out.cell_of (i := 3) rfl
      have y0 := B.out.cell_of (i := 0) rfl
      have y1 := B.out.cell_of (i := 1) rfl
      have y2 := B.out.cell_of (i := 2) rfl
      have y3 := B.out.cell_of (i := 3) rfl
      have z0 := Z.out.cell_of (i := 0) rfl
      have zz0 := Z.out.frozen 0
      have z1 := Z.out.cell_of (i := 1) rfl
      have zz1 := Z.out.frozen 1
      have z2 := Z.out.cell_of (i := 2) rfl
      have zz2 := Z.out.frozen 2
      have z3 := Z.out.cell_of (i := 3) rfl
      have zz3 := Z.out.frozen 3
      go_wp2
      exact bodyPost_ret (v := bx4V M) (by simp [results, Tryz.results82, go_sem, z0, z1, z2, z3]) rfl ⟨rfl, set4_below E.out (by omega) _ _ _ _⟩
    · have hz : M = (0, 0, 0, 0) := by rw [HM.out]; simp
      subst hz
      go_wp2
      exact bodyPost_ret (v := bx4V (0, 0, 0, 0)) (by simp [results, Tryz.results82, go_sem, z0, z1, z2, z3]) rfl ⟨rfl, set4_below E.out (by omega) _ _ _ _⟩
set_option maxRecDepth 100000 in
set_option maxHeartbeats 4000000 in
theorem c_cut (a b : Bx4) (w : World) :
    Calls Tryz.prog 124 #[bx4V a, bx4V b] w fun e w' => e = .returned (bx4V (tidyL (cutL a b))) ∧ Below w.heap.size w w' := by
  obtain ⟨a1, a2, a3, a4⟩ := a
  obtain ⟨b1, b2, b3, b4⟩ := b
  obtain ⟨n1, hn1⟩ : ∃ n, max a1 b1 = n := ⟨_, rfl⟩
  obtain ⟨n2, hn2⟩ : ∃ n, max a2 b2 = n := ⟨_, rfl⟩
  obtain ⟨n3, hn3⟩ : ∃ n, min a3 b3 = n := ⟨_, rfl⟩
  obtain ⟨n4, hn4⟩ : ∃ n, min a4 b4 = n := ⟨_, rfl⟩
  have m1 : (if a1 < b1 then b1 else a1) = n1 := by rw [← hn1, Int.max_def]; split <;> split <;> omega
  have m2 : (if a2 < b2 then b2 else a2) = n2 := by rw [← hn2, Int.max_def]; split <;> split <;> omega
  have m3 : (if b3 < a3 then b3 else a3) = n3 := by rw [← hn3, Int.min_def]; split <;> split <;> omega
  have m4 : (if b4 < a4 then b4 else a4) = n4 := by rw [← hn4, Int.min_def]; split <;> split <;> omega
  have hc : cutL (a1, a2, a3, a4) (b1, b2, b3, b4) = (n1, n2, n3, n4) := by rw [← hn1, ← hn2, ← hn3, ← hn4]; rfl
  rw [hc, tidy_emp]
  obtain ⟨d, hd⟩ : ∃ d, empB (n1, n2, n3, n4) = d := ⟨_, rfl⟩
  rw [hd]
  have KA := Lib.hid (fun Wd => c_boxempty n1 n2 n3 n4 Wd)
  have ea : decide (n3 ≤ n1 ∨ n4 ≤ n2) = d := hd
  rw [ea] at KA
  have E := Lib.hid (Below.refl w.heap.size w)
  clear hn1 hn2 hn3 hn4 hc hd ea
  go_enter Tryz.func124, Tryz.ntmps124
  go_wp2_with fail
  refine gen_calls (fun w1 hw1 => ?_)
  obtain ⟨E1, _, _, hZ, hO⟩ := new4 (c1 := [_, _, _, _]) (c2 := [_, _, _, _]) (c3 := [_, _, _, _]) (c4 := [_, _, _, _]) hw1
  replace E := Lib.hid E1
  have Z := Lib.hid hZ
  have O := Lib.hid hO
  clear hw1 E1 hZ hO m1 m2 m3 m4
  refine (KA.out _).mono ?_
  rintro e w3 ⟨rfl, hb⟩
  replace E := Lib.hid (Ext.trans E.out hb)
  replace Z := Lib.hid (Z.out.ext hb)
  have lZ := Z.out.lt
  replace O := Lib.hid (O.out.ext hb)
  have lO := O.out.lt
  clear hb
  have z0 := Z.out.cell_of (i := 0) rfl
  have zz0 := Z.out.frozen 0
  have z1 := Z.out.cell_of (i := 1) rfl
  have zz1 := Z.out.frozen 1
  have z2 := Z.out.cell_of (i := 2) rfl
  have zz2 := Z.out.frozen 2
  have z3 := Z.out.cell_of (i := 3) rfl
  have zz3 := Z.out.frozen 3
  have o0 := O.out.cell_of (i := 0) rfl
  have o1 := O.out.cell_of (i := 1) rfl
  have o2 := O.out.cell_of (i := 2) rfl
  have o3 := O.out.cell_of (i := 3) rfl
  cases d
  · go_wp2
    exact bodyPost_ret (v := bx4V (n1, n2, n3, n4)) (by simp [results, Tryz.results124, go_sem, z0, z1, z2, z3]) rfl ⟨rfl, set4_below E.out (by omega) _ _ _ _⟩
  · go_wp2
    exact bodyPost_ret (v := bx4V (0, 0, 0, 0)) (by simp [results, Tryz.results124, go_sem, z0, z1, z2, z3]) rfl ⟨rfl, set4_below E.out (by omega) _ _ _ _⟩
set_option maxRecDepth 100000 in
set_option maxHeartbeats 4000000 in
theorem c_tilesIn (b : Bx4) (W H : Int) (w : World) (hW : 1 ≤ W ∧ W ≤ 12) (hH : 1 ≤ H ∧ H ≤ 12) :
    Calls Tryz.prog 80 #[bx4V b, .int .i64 W, .int .i64 H] w fun e w' => RetIs w (tilB b W H) e w' := by
  obtain ⟨n1, n9⟩ := tiles_9 hW hH
  obtain ⟨n, hn⟩ : ∃ n : Nat, tilesL W H = n := ⟨(tilesL W H).toNat, by omega⟩
  have hz : (if (inB W 1 12 && inB H 1 12) = true then tilesL W H else -1) = (n : Int) := by
    rw [if_pos (by simp only [Bool.and_eq_true]; exact ⟨inB_iff.2 hW, inB_iff.2 hH⟩), hn]
  have KT := Lib.hid (fun Wd => c_TileCount W H Wd)
  rw [hz] at KT
  have HD : Hid (tilB b W H = tilK b W H n) := Lib.hid (by unfold tilB; rw [hn, Int.toNat_natCast])
  obtain ⟨M, hM⟩ : ∃ M, tilB b W H = M := ⟨_, rfl⟩
  rw [hM] at HD ⊢
  have HK : Hid (∀ k : Nat, k < n → tlB W H (k : Int) = true) := Lib.hid (fun k hk => tl_ok hW hH (by omega))
  have hn9 : n ≤ 9 := by omega
  have E := Lib.hid (Below.refl w.heap.size w)
  clear hn hz hM n1 n9
  go_enter Tryz.func80, Tryz.ntmps80
  go_wp2_with fail
  first | refine gen_calls ?_ | refine gen_code ?_ | refine gen_list ?_
  intro w0 hW
  obtain ⟨hb, hB⟩ := new1 hW
  clear hW
  replace E := Lib.hid (Ext.trans E.out hb)
  clear hb
  have B := Lib.hid hB
  have lB := B.out.lt
  clear hB
  have x0 := B.out.cell_of (i := 0) rfl
  have x1 := B.out.cell_of (i := 1) rfl
  have x2 := B.out.cell_of (i := 2) rfl
  have x3 := B.out.cell_of (i := 3) rfl
  go_wp2_with fail
  refine (KT.out _).mono ?_
  rintro e w' ⟨rfl, rfl⟩
  have O := Lib.hid (own_nil w0 w.heap.size 3 1)
  go_wp2_with fail
  clear x0 x1 x2 x3
  go_loopw [7, 14] (fun o r wr => ∃ (k : Nat) (A1 : Option Addr) (cap1 : Nat) (xs : List Int), k ≤ n ∧ r = .int .i64 k ∧ o = .slice A1 xs.length cap1 ∧ xs = tilK b W H k ∧ Has wr w.heap.size 3 1 (.slice A1 xs.length cap1) xs.length (xs.flatMap intC) ∧ Row wr w.heap.size 122 (bxC b) ∧ Below w.heap.size w wr) (fun _ r _ => n - (intOf r).toNat)
  case atStart => exact ⟨0, _, _, [], Nat.zero_le _, rfl, rfl, rfl, O.out, B.out, E.out⟩
  case round =>
    obtain ⟨k, A1, cap1, xs, hk, rfl, rfl, hxs, hor, hrr, hbw⟩ := hrel
    clear O E B
    have O := Lib.hid hor
    have E := Lib.hid hbw
    have B := Lib.hid hrr
    have hzr : w.heap.size ≤ wr.heap.size := hbw.size
    have hxl : xs.length ≤ 9 := by rw [hxs]; have := tilK_len b W H k; omega
    have Hxs := Lib.hid hxs
    clear hor hbw hrr hxs
    by_cases hlt : k < n
    · have hltI : decide ((k : Int) < (n : Int)) = true := by simp; omega
      have KB := Lib.hid (fun Wd => c_TileBox W H k Wd)
      have htl := HK.out k hlt
      rw [htl, if_pos rfl] at KB
      obtain ⟨T, hT⟩ : ∃ T, tileL W H (k : Int) = T := ⟨_, rfl⟩
      have Hy := Lib.hid (@tilK_yes b W H k)
      have Hno := Lib.hid (@tilK_no b W H k)
      rw [hT] at KB Hy Hno
      obtain ⟨d, hd⟩ : ∃ d, ovlB b T = d := ⟨_, rfl⟩
      have hemp : empB (tidyL (cutL T b)) = !d := by rw [emp_tidy, emp_cut, hd]
      rw [hd] at Hy Hno
      obtain ⟨C, hC⟩ : ∃ C, tidyL (cutL T b) = C := ⟨_, rfl⟩
      have KC := Lib.hid (fun Wd => c_cut T b Wd)
      rw [hC] at KC hemp
      have KE := Lib.hid (fun Wd => c_boxempty C.1 C.2.1 C.2.2.1 C.2.2.2 Wd)
      have he : decide (C.2.2.1 ≤ C.1 ∨ C.2.2.2 ≤ C.2.1) = !d := hemp
      rw [he] at KE
      clear hT hd hC hemp he htl
      have x0 := B.out.cell_of (i := 0) rfl
      have x1 := B.out.cell_of (i := 1) rfl
      have x2 := B.out.cell_of (i := 2) rfl
      have x3 := B.out.cell_of (i := 3) rfl
      go_wp2_with fail
      clear x0 x1 x2 x3
      refine (KB.out _).mono ?_
      rintro e w2 ⟨rfl, hb⟩
      replace E := Lib.hid (Ext.trans E.out hb)
      replace O := Lib.hid (own_ext O.out hb)
      replace B := Lib.hid (B.out.ext hb)
      have lB := B.out.lt
      clear hb
      have x0 := B.out.cell_of (i := 0) rfl
      have x1 := B.out.cell_of (i := 1) rfl
      have x2 := B.out.cell_of (i := 2) rfl
      have x3 := B.out.cell_of (i := 3) rfl
      go_wp2_with fail
      refine gen_calls (fun w3 hw3 => ?_)
      obtain ⟨E3, _⟩ := new1 (c1 := [_, _, _, _]) hw3
      clear x0 x1 x2 x3
      refine (KC.out _).mono ?_
      rintro e w4 ⟨rfl, hb4⟩
      have hb := Ext.trans E3 hb4
      clear hw3 E3 hb4
      replace E := Lib.hid (Ext.trans E.out hb)
      replace O := Lib.hid (own_ext O.out hb)
      replace B := Lib.hid (B.out.ext hb)
      have lB := B.out.lt
      clear hb
      have x0 := B.out.cell_of (i := 0) rfl
      have x1 := B.out.cell_of (i := 1) rfl
      have x2 := B.out.cell_of (i := 2) rfl
      have x3 := B.out.cell_of (i := 3) rfl
      clear x0 x1 x2 x3
      have x0 := B.out.cell_of (i := 0) rfl
      have x1 := B.out.cell_of (i := 1) rfl
      have x2 := B.out.cell_of (i := 2) rfl
      have x3 := B.out.cell_of (i := 3) rfl
      go_wp2_with fail
      clear x0 x1 x2 x3
      refine (KE.out _).mono ?_
      rintro e w5 ⟨rfl, hb⟩
      replace E := Lib.hid (Ext.trans E.out hb)
      replace O := Lib.hid (own_ext O.out hb)
      replace B := Lib.hid (B.out.ext hb)
      have lB := B.out.lt
      clear hb
      have x0 := B.out.cell_of (i := 0) rfl
      have x1 := B.out.cell_of (i := 1) rfl
      have x2 := B.out.cell_of (i := 2) rfl
      have x3 := B.out.cell_of (i := 3) rfl
      cases d
      · have Hn : Hid (xs = tilK b W H (k + 1)) := Lib.hid (by rw [Hno.out rfl, Hxs.out])
        go_wp2
        go_roundw
        case rel => exact ⟨k + 1, A1, cap1, xs, by omega, by go_num, rfl, Hn.out, O.out, B.out, E.out⟩
        case measure => simp [intOf]; omega
      · have Hn : Hid (xs ++ [(k : Int)] = tilK b W H (k + 1)) := Lib.hid (by rw [Hy.out rfl, Hxs.out])
        go_wp2_with (at_builtin; refine wpList_app (base := w.heap.size) ei_int rfl (.tmp 29) (.tmp 31) rfl rfl (own_ext O.out (ext_alloc _ _)) rfl (src_new _ _ [_] (m := 1) rfl (by intro u hu; simp only [List.mem_cons, List.not_mem_nil, or_false] at hu; subst hu; rfl)) (by omega) (by simp; omega) ?_; intro ve w6 hown hg hat; refine stop_in ?_)
        refine stop_out ?_
        obtain ⟨A3, cap3, hve⟩ := own_form hown
        clear x0 x1 x2 x3
        replace E := Lib.hid (Below.grown (Ext.trans E.out (ext_alloc _ _)) hg (by simp; omega) (fun k hk => by have := (O.out.lt k hk).1; omega))
        replace B := Lib.hid ((B.out.ext (ext_alloc _ _)).grownNe (own_ext O.out (ext_alloc _ _)) (by decide) hg)
        have lB := B.out.lt
        have heq : xs ++ [(k : Int)] = (xs ++ [(k : Int)]) := rfl
        replace O : Hid (Has w6 w.heap.size 3 1 (.slice A3 ((xs ++ [(k : Int)])).length cap3) ((xs ++ [(k : Int)])).length (((xs ++ [(k : Int)])).flatMap intC)) := Lib.hid (by
          have q := hown
          rw [hve] at q
          rw [← heq, List.flatMap_append, List.length_append]
          exact q)
        have hvf : ve = .slice A3 ((xs ++ [(k : Int)])).length cap3 := by rw [hve, ← heq, List.length_append]; rfl
        clear hve
        clear hown hg hat heq
        subst hvf
        have x0 := B.out.cell_of (i := 0) rfl
        have x1 := B.out.cell_of (i := 1) rfl
        have x2 := B.out.cell_of (i := 2) rfl
        have x3 := B.out.cell_of (i := 3) rfl
        go_wp2
        go_roundw
        case rel => exact ⟨k + 1, A3, cap3, _, by omega, by go_num, rfl, Hn.out, O.out, B.out, E.out⟩
        case measure => simp [intOf]; omega
    · obtain rfl : k = n := by omega
      have hltI : decide ((k : Int) < (k : Int)) = false := by simp
      go_wp2_with fail
      refine (c_Clip_ei_int A1 xs.length cap1 _ O.out.slok).mono ?_
      rintro e w' ⟨rfl, rfl⟩
      go_wp2
      go_ret
      obtain rfl : xs = M := by rw [Hxs.out, HD.out]
      exact ⟨A1, xs.length, rfl, O.out.clip, E.out⟩
end Go.Proofs.YtagmnbphbakikaaGreat
namespace Go.Proofs.YtagmnbphbakikaaGreat
open Go Go.RowKit Reg
attribute [local go_sem] calmAt calmUpon
theorem flB_path {f : FlD} (h : flB f = true) : pathOk f.1 = true := by
  unfold flB at h
  simp only [Bool.and_eq_true] at h
  exact h.1.1.1
set_option maxRecDepth 100000 in
set_option maxHeartbeats 4000000 in
theorem c_boxTiles (b : Bx4) (W H : Int) (w : World) (hW : 1 ≤ W ∧ W ≤ 12) (hH : 1 ≤ H ∧ H ≤ 12) :
    Calls Tryz.prog 70 #[bx4V b, .int .i64 W, .int .i64 H] w fun e w' => RetIs w (tilB b W H) e w' := by
  obtain ⟨n1, n9⟩ := tiles_9 hW hH
  obtain ⟨n, hn⟩ : ∃ n : Nat, tilesL W H = n := ⟨(tilesL W H).toNat, by omega⟩
  have KT := Lib.hid (fun Wd => c_tiles W H Wd hW hH)
  rw [hn] at KT
  have HD : Hid (tilB b W H = tilK b W H n) := Lib.hid (by unfold tilB; rw [hn, Int.toNat_natCast])
  obtain ⟨M, hM⟩ : ∃ M, tilB b W H = M := ⟨_, rfl⟩
  rw [hM] at HD ⊢
  have HK : Hid (∀ k : Nat, k < n → tlB W H (k : Int) = true) := Lib.hid (fun k hk => tl_ok hW hH (by omega))
  have hn9 : n ≤ 9 := by omega
  have E := Lib.hid (Below.refl w.heap.size w)
  clear hn hM n1 n9
  obtain ⟨b1, b2, b3, b4⟩ := b
  go_enter Tryz.func70, Tryz.ntmps70
  go_wp2_with fail
  first | refine gen_calls ?_ | refine gen_code ?_ | refine gen_list ?_
  intro w0 hW
  obtain ⟨hb, hB, hR⟩ := new2 hW
  clear hW
  replace E := Lib.hid (Ext.trans E.out hb)
  clear hb
  have B := Lib.hid hB
  have lB := B.out.lt
  clear hB
  have R := Lib.hid hR
  have lR := R.out.lt
  clear hR
  have O := Lib.hid (own_of_row (n := 0) (B := w.heap.size) (sz := 1) R.out (by omega) rfl (by decide))
  clear R lR
  go_loopw [7, 8] (fun o r wr => ∃ (k : Nat) (A1 : Option Addr) (cap1 : Nat) (xs : List Int), k ≤ n ∧ r = .int .i64 k ∧ o = .slice A1 xs.length cap1 ∧ xs = tilK (b1, b2, b3, b4) W H k ∧ Has wr w.heap.size 3 1 (.slice A1 xs.length cap1) xs.length (xs.flatMap intC) ∧ Row wr w.heap.size 122 [.int .i64 b1, .int .i64 b2, .int .i64 b3, .int .i64 b4] ∧ Below w.heap.size w wr) (fun _ r _ => n - (intOf r).toNat)
  case atStart => exact ⟨0, _, _, [], Nat.zero_le _, rfl, rfl, rfl, O.out, B.out, E.out⟩
  case round =>
    obtain ⟨k, A1, cap1, xs, hk, rfl, rfl, hxs, hor, hrr, hbw⟩ := hrel
    clear O E B
    have O := Lib.hid hor
    have E := Lib.hid hbw
    have B := Lib.hid hrr
    have hzr : w.heap.size ≤ wr.heap.size := hbw.size
    have hxl : xs.length ≤ 9 := by rw [hxs]; have := tilK_len (b1, b2, b3, b4) W H k; omega
    have Hxs := Lib.hid hxs
    clear hor hbw hrr hxs
    by_cases hlt : k < n
    · have hltI : decide ((k : Int) < (n : Int)) = true := by simp; omega
      have KB := Lib.hid (fun Wd => c_tileBox W H k Wd (HK.out k hlt))
      obtain ⟨T, hT⟩ : ∃ T, tileL W H (k : Int) = T := ⟨_, rfl⟩
      have Hy := Lib.hid (@tilK_yes (b1, b2, b3, b4) W H k)
      have Hno := Lib.hid (@tilK_no (b1, b2, b3, b4) W H k)
      rw [hT] at KB Hy Hno
      clear hT
      obtain ⟨t1, t2, t3, t4⟩ := T
      obtain ⟨x1, hx1⟩ : ∃ n, max b1 t1 = n := ⟨_, rfl⟩
      obtain ⟨x2, hx2⟩ : ∃ n, max b2 t2 = n := ⟨_, rfl⟩
      obtain ⟨y1, hy1⟩ : ∃ n, min b3 t3 = n := ⟨_, rfl⟩
      obtain ⟨y2, hy2⟩ : ∃ n, min b4 t4 = n := ⟨_, rfl⟩
      have ho : ovlB (b1, b2, b3, b4) (t1, t2, t3, t4) = (decide (x1 < y1) && decide (x2 < y2)) := by rw [← hx1, ← hx2, ← hy1, ← hy2]; rfl
      rw [ho] at Hy Hno
      have m1 : (if b1 < t1 then t1 else b1) = x1 := by rw [← hx1, Int.max_def]; split <;> split <;> omega
      have m2 : (if b2 < t2 then t2 else b2) = x2 := by rw [← hx2, Int.max_def]; split <;> split <;> omega
      have m3 : (if t3 < b3 then t3 else b3) = y1 := by rw [← hy1, Int.min_def]; split <;> split <;> omega
      have m4 : (if t4 < b4 then t4 else b4) = y2 := by rw [← hy2, Int.min_def]; split <;> split <;> omega
      clear hx1 hx2 hy1 hy2 ho
      obtain ⟨d1, hd1⟩ : ∃ d, decide (x1 < y1) = d := ⟨_, rfl⟩
      obtain ⟨d2, hd2⟩ : ∃ d, decide (x2 < y2) = d := ⟨_, rfl⟩
      rw [hd1, hd2] at Hy Hno
      have q0 := B.out.cell_of (i := 0) rfl
      have q1 := B.out.cell_of (i := 1) rfl
      have q2 := B.out.cell_of (i := 2) rfl
      have q3 := B.out.cell_of (i := 3) rfl
      go_wp2_with fail
      refine (KT.out _).mono ?_
      rintro e w' ⟨rfl, rfl⟩
      go_wp2_with fail
      clear q0 q1 q2 q3
      refine (KB.out _).mono ?_
      rintro e w2 ⟨rfl, hb⟩
      replace E := Lib.hid (Ext.trans E.out hb)
      replace O := Lib.hid (own_ext O.out hb)
      replace B := Lib.hid (B.out.ext hb)
      have lB := B.out.lt
      clear hb
      have q0 := B.out.cell_of (i := 0) rfl
      have q1 := B.out.cell_of (i := 1) rfl
      have q2 := B.out.cell_of (i := 2) rfl
      have q3 := B.out.cell_of (i := 3) rfl
      cases d1
      · have Hn : Hid (xs = tilK (b1, b2, b3, b4) W H (k + 1)) := Lib.hid (by rw [Hno.out (by simp), Hxs.out])
        go_wp2
        go_roundw
        case rel => exact ⟨k + 1, A1, cap1, xs, by omega, by go_num, rfl, Hn.out, own_ext O.out (ext_alloc _ _), B.out.ext (ext_alloc _ _), Ext.trans E.out (ext_alloc _ _)⟩
        case measure => simp [intOf]; omega
      · cases d2
        · have Hn : Hid (xs = tilK (b1, b2, b3, b4) W H (k + 1)) := Lib.hid (by rw [Hno.out (by simp), Hxs.out])
          go_wp2
          go_roundw
          case rel => exact ⟨k + 1, A1, cap1, xs, by omega, by go_num, rfl, Hn.out, own_ext O.out (ext_alloc _ _), B.out.ext (ext_alloc _ _), Ext.trans E.out (ext_alloc _ _)⟩
          case measure => simp [intOf]; omega
        · have Hn : Hid (xs ++ [(k : Int)] = tilK (b1, b2, b3, b4) W H (k + 1)) := Lib.hid (by rw [Hy.out (by simp), Hxs.out])
          go_wp2_with (at_builtin; refine stop_in ?_)
          refine stop_out ?_
          clear q0 q1 q2 q3
          refine gen_list ?_
          intro w3 hW
          obtain ⟨hb, hR, hS⟩ := new2 hW
          clear hW
          replace E := Lib.hid (Ext.trans E.out hb)
          replace O := Lib.hid (own_ext O.out hb)
          replace B := Lib.hid (B.out.ext hb)
          have lB := B.out.lt
          clear hb
          have R := Lib.hid hR
          have lR := R.out.lt
          clear hR
          have S := Lib.hid hS
          have lS := S.out.lt
          clear hS
          have q0 := B.out.cell_of (i := 0) rfl
          have q1 := B.out.cell_of (i := 1) rfl
          have q2 := B.out.cell_of (i := 2) rfl
          have q3 := B.out.cell_of (i := 3) rfl
          clear q0 q1 q2 q3
          refine wpList_app (base := w.heap.size) ei_int rfl (.tmp 46) (.tmp 48) rfl rfl O.out rfl ((own_of_row (B := 0) (sz := 1) (n := 1) S.out (by omega) rfl (by decide)).src (by intro u hu; simp only [List.mem_cons, List.not_mem_nil, or_false] at hu; subst hu; rfl)) (by omega) (by have := E.out.size; omega) ?_
          intro ve W3 hown hg hat
          obtain ⟨A3, cap3, hve⟩ := own_form hown
          obtain ⟨ys, hys⟩ : ∃ ys, xs ++ [(k : Int)] = ys := ⟨_, rfl⟩
          have hyl : xs.length + 1 = ys.length := by rw [← hys]; simp
          have hyc : xs.flatMap intC ++ [.int .i64 (k : Int)] = ys.flatMap intC := by rw [← hys, List.flatMap_append]; rfl
          rw [hys] at Hn
          rw [hyl] at hve
          rw [hyc] at hown
          subst hve
          have O2 : Hid (Has W3 w.heap.size 3 1 (.slice A3 ys.length cap3) ys.length (ys.flatMap intC)) := Lib.hid (by have h := hown; rw [hyl] at h; exact h)
          have B2 := Lib.hid (B.out.grownNe O.out (by decide) hg)
          have E2 := Lib.hid (own_below E.out O.out hg (by have := E.out.size; omega))
          clear hown hg hat hys hyl hyc
          go_wp2
          go_roundw
          case rel => exact ⟨k + 1, A3, cap3, _, by omega, by go_num, rfl, Hn.out, O2.out, B2.out, E2.out⟩
          case measure => simp [intOf]; omega
    · obtain rfl : k = n := by omega
      have hltI : decide ((k : Int) < (k : Int)) = false := by simp
      go_wp2_with fail
      refine (KT.out _).mono ?_
      rintro e w' ⟨rfl, rfl⟩
      go_wp2
      go_ret
      obtain rfl : xs = M := by rw [Hxs.out, HD.out]
      exact ⟨A1, cap1, rfl, O.out, E.out⟩
set_option maxRecDepth 100000 in
set_option maxHeartbeats 8000000 in
theorem c_sdamage (W H : Int) (A : Option Addr) (cap : Nat) (fs : List FlD) (at_ : Int) (A1 : Option Addr) (c1 : Nat) (f : FlD) (A2 : Option Addr) (c2 : Nat) (w : World) (h : Fls w A fs) (hf : VbK w A1 f.1) (hall : ∀ x ∈ fs, pathOk x.1 = true) (hp : pathOk f.1 = true) (hat : 0 ≤ at_ ∧ at_ < fs.length) (hW : 1 ≤ W ∧ W ≤ 12) (hH : 1 ≤ H ∧ H ≤ 12) (hl : fs.length ≤ 4) :
    Calls Tryz.prog 32 #[.agg #[.int .i64 W, .int .i64 H, .slice A fs.length cap], .int .i64 at_, flV A1 f.1.length c1 f.2.1 f.2.2.1 f.2.2.2.1 A2 f.2.2.2.2.length c2] w fun e w' => RetIs w (damL W H fs at_ f) e w' := by
  obtain ⟨us, r, ⟨fx, fy⟩, ⟨tx, ty⟩, ts⟩ := f
  dsimp only at hf hp
  obtain ⟨M, hM⟩ : ∃ M, damL W H fs at_ (us, r, (fx, fy), (tx, ty), ts) = M := ⟨_, rfl⟩
  have HD : Hid (M = tilB (joinL (fbL (fs[at_.toNat]?.getD (us, r, (fx, fy), (tx, ty), ts))) (fbL (us, r, (fx, fy), (tx, ty), ts))) W H) := Lib.hid hM.symm
  rw [hM]
  have PW := Lib.hid h
  have HF := Lib.hid hf
  have Hall := Lib.hid hall
  have Hp := Lib.hid hp
  have E := Lib.hid (Below.refl w.heap.size w)
  clear h hf hall hp hM
  go_enter Tryz.func32, Tryz.ntmps32
  go_wp2_with fail
  first | refine gen_calls ?_ | refine gen_code ?_ | refine gen_list ?_
  intro w0 hW
  obtain ⟨hb, hR0, hR1⟩ := new2 hW
  clear hW
  replace E := Lib.hid (Ext.trans E.out hb)
  replace HF := Lib.hid (HF.out.ext verbK_stab hb)
  clear hb
  have R0 := Lib.hid hR0
  have lR0 := R0.out.lt
  clear hR0
  have R1 := Lib.hid hR1
  have lR1 := R1.out.lt
  clear hR1
  obtain ⟨n, rfl⟩ : ∃ n : Nat, at_ = n := ⟨at_.toNat, by omega⟩
  have hlt : n < fs.length := by omega
  obtain ⟨b, off, hA, _, hcc⟩ := (PW.out.ext flR_stab E.out).fls (by omega)
  obtain ⟨B1, d1, B2, d2, ⟨hvb, _, _, _⟩, x0, x1, x2, x3, x4, x5, x6⟩ := hcc n hlt
  have v1 := Hall.out _ (List.getElem_mem hlt)
  have hg : fs[(n : Int).toNat]?.getD (us, r, (fx, fy), (tx, ty), ts) = fs[n] := by rw [Int.toNat_natCast, List.getElem?_eq_getElem hlt]; rfl
  rw [hg] at HD
  clear hcc hg
  subst hA
  generalize fs[n] = g at *
  obtain ⟨vs, q, ⟨gx, gy⟩, ⟨hx, hy⟩, ss⟩ := g
  dsimp only at x0 x1 x2 x3 x4 x5 x6 hvb v1
  obtain ⟨J, hJ⟩ : ∃ J, joinL (fbL (vs, q, (gx, gy), (hx, hy), ss)) (fbL (us, r, (fx, fy), (tx, ty), ts)) = J := ⟨_, rfl⟩
  have HJ := Lib.hid hJ
  rw [hJ] at HD
  clear hJ
  have HT : Hid (tilB J W H = M) := Lib.hid HD.out.symm
  have HVb := Lib.hid hvb
  have V1 := Lib.hid v1
  have X0 := Lib.hid x0
  have X1 := Lib.hid x1
  have X2 := Lib.hid x2
  have X3 := Lib.hid x3
  have X4 := Lib.hid x4
  have X5 := Lib.hid x5
  have X6 := Lib.hid x6
  have hkI : (n : Int) < (fs.length : Int) := by omega
  have hk0 : (0 : Int) ≤ (n : Int) := by omega
  clear hvb v1 x0 x1 x2 x3 x4 x5 x6 HD
  have cX0 := X0.out
  have cX1 := X1.out
  have cX2 := X2.out
  have cX3 := X3.out
  have cX4 := X4.out
  have cX5 := X5.out
  have cX6 := X6.out
  have k0 := R0.out.cell_of (i := 0) rfl
  have k1 := R0.out.cell_of (i := 1) rfl
  have k2 := R0.out.cell_of (i := 2) rfl
  have y0 := R1.out.cell_of (i := 0) rfl
  have y1 := R1.out.cell_of (i := 1) rfl
  have y2 := R1.out.cell_of (i := 2) rfl
  have y3 := R1.out.cell_of (i := 3) rfl
  have y4 := R1.out.cell_of (i := 4) rfl
  have y5 := R1.out.cell_of (i := 5) rfl
  have y6 := R1.out.cell_of (i := 6) rfl
  go_wp2_with fail
  refine wp_region_calm [0,1,2,3,4,6,9,10,11,12] [5,7,8,13,14] (by kernel_rfl) (by kernel_rfl) ?_
  iterate 10 ((refine calm_yes rfl rfl (fun w' hC => (by have k0 := hC.cell k0; have k1 := hC.cell k1; have k2 := hC.cell k2; have y0 := hC.cell y0; have y1 := hC.cell y1; have y2 := hC.cell y2; have y3 := hC.cell y3; have y4 := hC.cell y4; have y5 := hC.cell y5; have y6 := hC.cell y6; have cX0 := hC.cell cX0; have cX1 := hC.cell cX1; have cX2 := hC.cell cX2; have cX3 := hC.cell cX3; have cX4 := hC.cell cX4; have cX5 := hC.cell cX5; have cX6 := hC.cell cX6; go_simp; rfl)) (fun K hK => ?_); go_simp; refine hK _ ?_; clear hK K))
  refine calm_nil (fun wa hCa => ?_)
  clear cX0 cX1 cX2 cX3 cX4 cX5 cX6 k0 k1 k2 y0 y1 y2 y3 y4 y5 y6
  have Ea := ext_cls hCa
  refine late_fn rfl rfl rfl Tryz.func72 (by kernel_rfl) rfl (by go_simp) (fun wb hxb KK hK => (c_sFillBox1 B1 d1 (vs, q, (gx, gy), (hx, hy), ss) B2 d2 wb (HVb.out.ext verbK_stab (Ext.trans Ea hxb)) V1.out).mono ?_)
  rintro e wc ⟨rfl, hb⟩
  replace Ea := Ext.trans (Ext.trans Ea hxb) hb
  replace hCa := Cls.ext (Cls.ext hCa hxb) hb
  refine ⟨_, rfl, hK _ _ ⟨fun _ => hCa, ?_⟩⟩
  clear hK KK hxb hb
  refine late_fn rfl rfl rfl Tryz.func72 (by kernel_rfl) rfl (by go_simp) (fun wb hxb KK hK => (c_sFillBox1 A1 c1 (us, r, (fx, fy), (tx, ty), ts) A2 c2 wb (HF.out.ext verbK_stab (Ext.trans Ea hxb)) Hp.out).mono ?_)
  rintro e wc ⟨rfl, hb⟩
  replace Ea := Ext.trans (Ext.trans Ea hxb) hb
  replace hCa := Cls.ext (Cls.ext hCa hxb) hb
  refine ⟨_, rfl, hK _ _ ⟨fun _ => hCa, ?_⟩⟩
  clear hK KK hxb hb
  refine late_fn rfl rfl rfl Tryz.func71 (by kernel_rfl) rfl (by go_simp) (fun wb hxb KK hK => (c_sjoin (fbL (vs, q, (gx, gy), (hx, hy), ss)) (fbL (us, r, (fx, fy), (tx, ty), ts)) wb (fbL_ok (x := (vs, q, (gx, gy), (hx, hy), ss)) V1.out) (fbL_ok (x := (us, r, (fx, fy), (tx, ty), ts)) Hp.out)).mono ?_)
  rw [HJ.out]
  rintro e wc ⟨rfl, hb⟩
  replace Ea := Ext.trans (Ext.trans Ea hxb) hb
  replace hCa := Cls.ext (Cls.ext hCa hxb) hb
  refine ⟨_, rfl, hK _ _ ⟨fun _ => hCa, ?_⟩⟩
  clear hK KK hxb hb
  refine late_fn rfl rfl rfl Tryz.func70 (by kernel_rfl) rfl (by go_simp) (fun wb hxb KK hK => (c_boxTiles J W H wb hW hH).mono ?_)
  rw [HT.out]
  rintro e wc ⟨A', cap', rfl, ho, hb⟩
  replace ho := ho.rebase (B' := w.heap.size) (Nat.le_trans E.out.size (Nat.le_trans Ea.size hxb.size))
  replace Ea := Ext.trans (Ext.trans Ea hxb) hb
  replace hCa := Cls.ext (Cls.ext hCa hxb) hb
  refine ⟨_, rfl, hK _ _ ⟨fun _ => hCa, ?_⟩⟩
  clear hK KK hxb hb
  refine late_free (by kernel_rfl) rfl rfl (fun wf hxf KK hK => ?_)
  go_simp
  refine hK _ _ ?_
  clear hK KK
  refine late_nil (fun wz hxz => ?_)
  have O := Lib.hid (own_ext ho (Ext.trans hxf hxz))
  replace E := Lib.hid (Ext.trans E.out (Ext.trans Ea (Ext.trans hxf hxz)))
  clear ho hxf hxz Ea hCa
  go_wp2
  go_ret
  exact ⟨A', cap', rfl, O.out, E.out⟩
set_option maxRecDepth 100000 in
set_option maxHeartbeats 8000000 in
theorem c_replaceable (W H : Int) (A : Option Addr) (cap : Nat) (fs : List FlD) (at_ : Int) (A1 : Option Addr) (c1 : Nat) (f : FlD) (A2 : Option Addr) (c2 : Nat) (w : World) (h : Fls w A fs) (hf : VbK w A1 f.1) (hs : Sts w A2 f.2.2.2.2) (hsm : flsSm fs) (hsf : flSm f) :
    Calls Tryz.prog 37 #[.agg #[.int .i64 W, .int .i64 H, .slice A fs.length cap], .int .i64 at_, flV A1 f.1.length c1 f.2.1 f.2.2.1 f.2.2.2.1 A2 f.2.2.2.2.length c2] w fun e w' => e = .returned (.bool (scB W H fs && (inB at_ 0 ((fs.length : Int) - 1) && flB f))) ∧ Below w.heap.size w w' := by
  obtain ⟨us, r, ⟨fx, fy⟩, ⟨tx, ty⟩, ts⟩ := f
  obtain ⟨d1, hd1⟩ : ∃ d, scB W H fs = d := ⟨_, rfl⟩
  obtain ⟨d2, hd2⟩ : ∃ d, inB at_ 0 ((fs.length : Int) - 1) = d := ⟨_, rfl⟩
  rw [hd1, hd2]
  have hl := hsm.1
  have PW := Lib.hid h
  have HF := Lib.hid hf
  have HS := Lib.hid hs
  have Hsm := Lib.hid hsm
  have Hsf := Lib.hid hsf
  have H1 := Lib.hid hd1
  have H2 := Lib.hid hd2
  have E := Lib.hid (Below.refl w.heap.size w)
  have g1 : IntKind.i64.wrap ((fs.length : Int) - 1) = (fs.length : Int) - 1 := IntWalk.i64_in _ (by omega)
  clear h hf hs hsm hsf hd1 hd2
  go_enter Tryz.func37, Tryz.ntmps37
  go_wp2_with fail
  first | refine gen_calls ?_ | refine gen_code ?_ | refine gen_list ?_
  intro w0 hW
  obtain ⟨hb, hR0, hR1⟩ := new2 hW
  clear hW
  replace E := Lib.hid (Ext.trans E.out hb)
  replace HF := Lib.hid (HF.out.ext verbK_stab hb)
  replace HS := Lib.hid (HS.out.ext stR_stab hb)
  clear hb
  have R0 := Lib.hid hR0
  have lR0 := R0.out.lt
  clear hR0
  have R1 := Lib.hid hR1
  have lR1 := R1.out.lt
  clear hR1
  have k0 := R0.out.cell_of (i := 0) rfl
  have k1 := R0.out.cell_of (i := 1) rfl
  have k2 := R0.out.cell_of (i := 2) rfl
  have y0 := R1.out.cell_of (i := 0) rfl
  have y1 := R1.out.cell_of (i := 1) rfl
  have y2 := R1.out.cell_of (i := 2) rfl
  have y3 := R1.out.cell_of (i := 3) rfl
  have y4 := R1.out.cell_of (i := 4) rfl
  have y5 := R1.out.cell_of (i := 5) rfl
  have y6 := R1.out.cell_of (i := 6) rfl
  go_wp2_with fail
  clear k0 k1 k2 y0 y1 y2 y3 y4 y5 y6
  refine (c_iValidScene W H A cap fs _ (PW.out.ext flR_stab E.out) Hsm.out).mono ?_
  rw [H1.out]
  rintro e w1 ⟨rfl, hb⟩
  replace E := Lib.hid (Ext.trans E.out hb)
  replace HF := Lib.hid (HF.out.ext verbK_stab hb)
  replace HS := Lib.hid (HS.out.ext stR_stab hb)
  replace R0 := Lib.hid (R0.out.ext hb)
  have lR0 := R0.out.lt
  replace R1 := Lib.hid (R1.out.ext hb)
  have lR1 := R1.out.lt
  clear hb
  have k0 := R0.out.cell_of (i := 0) rfl
  have k1 := R0.out.cell_of (i := 1) rfl
  have k2 := R0.out.cell_of (i := 2) rfl
  have y0 := R1.out.cell_of (i := 0) rfl
  have y1 := R1.out.cell_of (i := 1) rfl
  have y2 := R1.out.cell_of (i := 2) rfl
  have y3 := R1.out.cell_of (i := 3) rfl
  have y4 := R1.out.cell_of (i := 4) rfl
  have y5 := R1.out.cell_of (i := 5) rfl
  have y6 := R1.out.cell_of (i := 6) rfl
  cases d1
  · go_wp2
    go_ret
    exact ⟨rfl, E.out⟩
  · go_wp2_with fail
    refine (c_in at_ 0 ((fs.length : Int) - 1) _).mono ?_
    rw [H2.out]
    rintro e w' ⟨rfl, rfl⟩
    cases d2
    · go_wp2
      go_ret
      exact ⟨rfl, E.out⟩
    · go_wp2_with fail
      clear k0 k1 k2 y0 y1 y2 y3 y4 y5 y6
      refine (c_iFillValid A1 c1 (us, r, (fx, fy), (tx, ty), ts) A2 c2 _ HF.out HS.out Hsf.out).mono ?_
      rintro e w2 ⟨rfl, hb⟩
      replace E := Lib.hid (Ext.trans E.out hb)
      replace HF := Lib.hid (HF.out.ext verbK_stab hb)
      replace HS := Lib.hid (HS.out.ext stR_stab hb)
      replace R0 := Lib.hid (R0.out.ext hb)
      have lR0 := R0.out.lt
      replace R1 := Lib.hid (R1.out.ext hb)
      have lR1 := R1.out.lt
      clear hb
      have k0 := R0.out.cell_of (i := 0) rfl
      have k1 := R0.out.cell_of (i := 1) rfl
      have k2 := R0.out.cell_of (i := 2) rfl
      have y0 := R1.out.cell_of (i := 0) rfl
      have y1 := R1.out.cell_of (i := 1) rfl
      have y2 := R1.out.cell_of (i := 2) rfl
      have y3 := R1.out.cell_of (i := 3) rfl
      have y4 := R1.out.cell_of (i := 4) rfl
      have y5 := R1.out.cell_of (i := 5) rfl
      have y6 := R1.out.cell_of (i := 6) rfl
      go_wp2
      go_ret
      exact ⟨ret_bb (by simp), E.out⟩
set_option maxRecDepth 100000 in
set_option maxHeartbeats 8000000 in
theorem c_iDamageOf (W H : Int) (A : Option Addr) (cap : Nat) (fs : List FlD) (at_ : Int) (A1 : Option Addr) (c1 : Nat) (f : FlD) (A2 : Option Addr) (c2 : Nat) (w : World) (h : Fls w A fs) (hf : VbK w A1 f.1) (hs : Sts w A2 f.2.2.2.2) (hsm : flsSm fs) (hsf : flSm f) :
    Calls Tryz.prog 40 #[.agg #[.int .i64 W, .int .i64 H, .slice A fs.length cap], .int .i64 at_, flV A1 f.1.length c1 f.2.1 f.2.2.1 f.2.2.2.1 A2 f.2.2.2.2.length c2] w fun e w' => RetIs w (damR W H fs at_ f) e w' := by
  obtain ⟨us, r, ⟨fx, fy⟩, ⟨tx, ty⟩, ts⟩ := f
  obtain ⟨d, hd⟩ : ∃ d, (scB W H fs && (inB at_ 0 ((fs.length : Int) - 1) && flB (us, r, (fx, fy), (tx, ty), ts))) = d := ⟨_, rfl⟩
  obtain ⟨M, hM⟩ : ∃ M, damR W H fs at_ (us, r, (fx, fy), (tx, ty), ts) = M := ⟨_, rfl⟩
  have HR : Hid (M = if d then damL W H fs at_ (us, r, (fx, fy), (tx, ty), ts) else []) := Lib.hid (by rw [← hM]; unfold damR; rw [hd])
  rw [hM]
  have hl := hsm.1
  have PW := Lib.hid h
  have HF := Lib.hid hf
  have HS := Lib.hid hs
  have Hsm := Lib.hid hsm
  have Hsf := Lib.hid hsf
  have Hd := Lib.hid hd
  have E := Lib.hid (Below.refl w.heap.size w)
  clear h hf hs hsm hsf hd hM
  go_enter Tryz.func40, Tryz.ntmps40
  go_wp2_with fail
  first | refine gen_calls ?_ | refine gen_code ?_ | refine gen_list ?_
  intro w0 hW
  obtain ⟨hb, hR0, hR1⟩ := new2 hW
  clear hW
  replace E := Lib.hid (Ext.trans E.out hb)
  replace HF := Lib.hid (HF.out.ext verbK_stab hb)
  replace HS := Lib.hid (HS.out.ext stR_stab hb)
  clear hb
  have R0 := Lib.hid hR0
  have lR0 := R0.out.lt
  clear hR0
  have R1 := Lib.hid hR1
  have lR1 := R1.out.lt
  clear hR1
  have k0 := R0.out.cell_of (i := 0) rfl
  have k1 := R0.out.cell_of (i := 1) rfl
  have k2 := R0.out.cell_of (i := 2) rfl
  have y0 := R1.out.cell_of (i := 0) rfl
  have y1 := R1.out.cell_of (i := 1) rfl
  have y2 := R1.out.cell_of (i := 2) rfl
  have y3 := R1.out.cell_of (i := 3) rfl
  have y4 := R1.out.cell_of (i := 4) rfl
  have y5 := R1.out.cell_of (i := 5) rfl
  have y6 := R1.out.cell_of (i := 6) rfl
  go_wp2_with fail
  clear k0 k1 k2 y0 y1 y2 y3 y4 y5 y6
  refine (c_replaceable W H A cap fs at_ A1 c1 (us, r, (fx, fy), (tx, ty), ts) A2 c2 _ (PW.out.ext flR_stab E.out) HF.out HS.out Hsm.out Hsf.out).mono ?_
  rw [Hd.out]
  rintro e w1 ⟨rfl, hb⟩
  replace E := Lib.hid (Ext.trans E.out hb)
  replace HF := Lib.hid (HF.out.ext verbK_stab hb)
  replace HS := Lib.hid (HS.out.ext stR_stab hb)
  replace R0 := Lib.hid (R0.out.ext hb)
  have lR0 := R0.out.lt
  replace R1 := Lib.hid (R1.out.ext hb)
  have lR1 := R1.out.lt
  clear hb
  have k0 := R0.out.cell_of (i := 0) rfl
  have k1 := R0.out.cell_of (i := 1) rfl
  have k2 := R0.out.cell_of (i := 2) rfl
  have y0 := R1.out.cell_of (i := 0) rfl
  have y1 := R1.out.cell_of (i := 1) rfl
  have y2 := R1.out.cell_of (i := 2) rfl
  have y3 := R1.out.cell_of (i := 3) rfl
  have y4 := R1.out.cell_of (i := 4) rfl
  have y5 := R1.out.cell_of (i := 5) rfl
  have y6 := R1.out.cell_of (i := 6) rfl
  cases d
  · have Hz : Hid (M = []) := Lib.hid (by rw [HR.out]; simp)
    go_wp2
    go_ret
    exact RetIs.none Hz.out E.out
  · clear k0 k1 k2 y0 y1 y2 y3 y4 y5 y6
    have HD : Hid (M = tilB (joinL (fbL (fs[at_.toNat]?.getD (us, r, (fx, fy), (tx, ty), ts))) (fbL (us, r, (fx, fy), (tx, ty), ts))) W H) := Lib.hid (by rw [HR.out]; rfl)
    have hd := Hd.out
    simp only [Bool.and_eq_true] at hd
    obtain ⟨e1, e2, e3⟩ := hd
    have H1 := Lib.hid e1
    obtain ⟨hW, hH⟩ := scB_sz e1
    have hat := inB_iff.1 e2
    have Hall : Hid (∀ x ∈ fs, pathOk x.1 = true) := Lib.hid (fun x hx => (scB_all H1.out x hx).1)
    have Hp : Hid (pathOk us = true) := Lib.hid (flB_path e3)
    clear e1 e2 e3
    obtain ⟨n, rfl⟩ : ∃ n : Nat, at_ = n := ⟨at_.toNat, by omega⟩
    have hlt : n < fs.length := by omega
    obtain ⟨b, off, hA, _, hcc⟩ := (PW.out.ext flR_stab E.out).fls (by omega)
    obtain ⟨B1, d1, B2, d2, ⟨hvb, _, _, _⟩, x0, x1, x2, x3, x4, x5, x6⟩ := hcc n hlt
    have v1 := Hall.out _ (List.getElem_mem hlt)
    have hg : fs[(n : Int).toNat]?.getD (us, r, (fx, fy), (tx, ty), ts) = fs[n] := by rw [Int.toNat_natCast, List.getElem?_eq_getElem hlt]; rfl
    rw [hg] at HD
    clear hcc hg
    subst hA
    generalize fs[n] = g at *
    obtain ⟨vs, q, ⟨gx, gy⟩, ⟨hx, hy⟩, ss⟩ := g
    dsimp only at x0 x1 x2 x3 x4 x5 x6 hvb v1
    obtain ⟨J, hJ⟩ : ∃ J, joinL (fbL (vs, q, (gx, gy), (hx, hy), ss)) (fbL (us, r, (fx, fy), (tx, ty), ts)) = J := ⟨_, rfl⟩
    have HJ := Lib.hid hJ
    rw [hJ] at HD
    clear hJ
    have HT : Hid (tilB J W H = M) := Lib.hid HD.out.symm
    have HVb := Lib.hid hvb
    have V1 := Lib.hid v1
    have X0 := Lib.hid x0
    have X1 := Lib.hid x1
    have X2 := Lib.hid x2
    have X3 := Lib.hid x3
    have X4 := Lib.hid x4
    have X5 := Lib.hid x5
    have X6 := Lib.hid x6
    have hkI : (n : Int) < (fs.length : Int) := by omega
    have hk0 : (0 : Int) ≤ (n : Int) := by omega
    clear hvb v1 x0 x1 x2 x3 x4 x5 x6 HD
    have cX0 := X0.out
    have cX1 := X1.out
    have cX2 := X2.out
    have cX3 := X3.out
    have cX4 := X4.out
    have cX5 := X5.out
    have cX6 := X6.out
    have k0 := R0.out.cell_of (i := 0) rfl
    have k1 := R0.out.cell_of (i := 1) rfl
    have k2 := R0.out.cell_of (i := 2) rfl
    have y0 := R1.out.cell_of (i := 0) rfl
    have y1 := R1.out.cell_of (i := 1) rfl
    have y2 := R1.out.cell_of (i := 2) rfl
    have y3 := R1.out.cell_of (i := 3) rfl
    have y4 := R1.out.cell_of (i := 4) rfl
    have y5 := R1.out.cell_of (i := 5) rfl
    have y6 := R1.out.cell_of (i := 6) rfl
    go_wp2_with fail
    refine wp_region_calm [0,1,2,3,4,6,9,10,11,12] [5,7,8,13,14] (by kernel_rfl) (by kernel_rfl) ?_
    iterate 10 ((refine calm_yes rfl rfl (fun w' hC => (by have k0 := hC.cell k0; have k1 := hC.cell k1; have k2 := hC.cell k2; have y0 := hC.cell y0; have y1 := hC.cell y1; have y2 := hC.cell y2; have y3 := hC.cell y3; have y4 := hC.cell y4; have y5 := hC.cell y5; have y6 := hC.cell y6; have cX0 := hC.cell cX0; have cX1 := hC.cell cX1; have cX2 := hC.cell cX2; have cX3 := hC.cell cX3; have cX4 := hC.cell cX4; have cX5 := hC.cell cX5; have cX6 := hC.cell cX6; go_simp; rfl)) (fun K hK => ?_); go_simp; refine hK _ ?_; clear hK K))
    refine calm_nil (fun wa hCa => ?_)
    clear cX0 cX1 cX2 cX3 cX4 cX5 cX6 k0 k1 k2 y0 y1 y2 y3 y4 y5 y6
    have Ea := ext_cls hCa
    refine late_fn rfl rfl rfl Tryz.func81 (by kernel_rfl) rfl (by go_simp) (fun wb hxb KK hK => (c_iFillBox1 B1 d1 (vs, q, (gx, gy), (hx, hy), ss) B2 d2 wb (HVb.out.ext verbK_stab (Ext.trans Ea hxb)) V1.out).mono ?_)
    rintro e wc ⟨rfl, hb⟩
    replace Ea := Ext.trans (Ext.trans Ea hxb) hb
    replace hCa := Cls.ext (Cls.ext hCa hxb) hb
    refine ⟨_, rfl, hK _ _ ⟨fun _ => hCa, ?_⟩⟩
    clear hK KK hxb hb
    refine late_fn rfl rfl rfl Tryz.func81 (by kernel_rfl) rfl (by go_simp) (fun wb hxb KK hK => (c_iFillBox1 A1 c1 (us, r, (fx, fy), (tx, ty), ts) A2 c2 wb (HF.out.ext verbK_stab (Ext.trans Ea hxb)) Hp.out).mono ?_)
    rintro e wc ⟨rfl, hb⟩
    replace Ea := Ext.trans (Ext.trans Ea hxb) hb
    replace hCa := Cls.ext (Cls.ext hCa hxb) hb
    refine ⟨_, rfl, hK _ _ ⟨fun _ => hCa, ?_⟩⟩
    clear hK KK hxb hb
    refine late_fn rfl rfl rfl Tryz.func82 (by kernel_rfl) rfl (by go_simp) (fun wb hxb KK hK => (c_ijoin (fbL (vs, q, (gx, gy), (hx, hy), ss)) (fbL (us, r, (fx, fy), (tx, ty), ts)) wb).mono ?_)
    rw [HJ.out]
    rintro e wc ⟨rfl, hb⟩
    replace Ea := Ext.trans (Ext.trans Ea hxb) hb
    replace hCa := Cls.ext (Cls.ext hCa hxb) hb
    refine ⟨_, rfl, hK _ _ ⟨fun _ => hCa, ?_⟩⟩
    clear hK KK hxb hb
    refine late_fn rfl rfl rfl Tryz.func80 (by kernel_rfl) rfl (by go_simp) (fun wb hxb KK hK => (c_tilesIn J W H wb hW hH).mono ?_)
    rw [HT.out]
    rintro e wc ⟨A', cap', rfl, ho, hb⟩
    replace ho := ho.rebase (B' := w.heap.size) (Nat.le_trans E.out.size (Nat.le_trans Ea.size hxb.size))
    replace Ea := Ext.trans (Ext.trans Ea hxb) hb
    replace hCa := Cls.ext (Cls.ext hCa hxb) hb
    refine ⟨_, rfl, hK _ _ ⟨fun _ => hCa, ?_⟩⟩
    clear hK KK hxb hb
    refine late_free (by kernel_rfl) rfl rfl (fun wf hxf KK hK => ?_)
    go_simp
    refine hK _ _ ?_
    clear hK KK
    refine late_nil (fun wz hxz => ?_)
    have O := Lib.hid (own_ext ho (Ext.trans hxf hxz))
    replace E := Lib.hid (Ext.trans E.out (Ext.trans Ea (Ext.trans hxf hxz)))
    clear ho hxf hxz Ea hCa
    go_wp2
    go_ret
    exact ⟨A', cap', rfl, O.out, E.out⟩
end Go.Proofs.YtagmnbphbakikaaGreat
