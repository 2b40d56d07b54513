/-
  Pictures of tiles: the walks.
-/
import Derived.Test.YthjmpofdpmlhmaaGreatFrameD
import Derived.Test.YthjmpofdpmlhmaaGreatMg11
namespace Go.Proofs.YthjmpofdpmlhmaaGreat
open Go Go.RowKit Reg
attribute [local go_sem] calmAt calmUpon
/-- A picture returned, in a row of its own, and whether there is one. -/
def RetFr (w : World) (R : (Int × Int × List Bx4) × Bool) (e : Ending) (w' : World) : Prop := ∃ A' cap', e = .returned (.tuple #[frV R.1.1 R.1.2.1 A' R.1.2.2.length cap', .bool R.2]) ∧ Has w' w.heap.size 63 4 (.slice A' R.1.2.2.length cap') R.1.2.2.length (R.1.2.2.flatMap bxC) ∧ Below w.heap.size w w'
def noFr : (Int × Int × List Bx4) × Bool := ((0, 0, []), false)
theorem RetFr.no {w w' : World} (h : Below w.heap.size w w') : RetFr w noFr (.returned (.tuple #[frV 0 0 none 0 0, .bool false])) w' := ⟨none, 0, rfl, own_nil _ _ _ _, h⟩
def dtR (W H : Int) (cs : List Bx4) (W2 H2 : Int) (fs : List FlD) (t : Int) : (Int × Int × List Bx4) × Bool :=
  if frB W H cs && (scB W2 H2 fs && (decide (W = W2) && (decide (H = H2) && inB t 0 (tilesL W2 H2 - 1)))) then ((W, H, tpix W H fs t cs), true) else noFr
def dtsR (W H : Int) (fs : List FlD) (ts : List Int) : (Int × Int × List Bx4) × Bool :=
  if scB W H fs && (decide (ts.length ≤ 30) && ts.all fun t => inB t 0 (tilesL W H - 1)) then ((W, H, tpixs W H fs ts (blankL (W * H).toNat)), true) else noFr
theorem blankL_len (n : Nat) : (blankL n).length = n := by simp [blankL]
theorem dtR_len {W H : Int} {cs : List Bx4} (W2 H2 : Int) (fs : List FlD) (t : Int) (h : cs.length ≤ 1048576) : (dtR W H cs W2 H2 fs t).1.2.2.length ≤ 1048576 := by
  unfold dtR noFr
  split
  · rw [tpix_len]; exact h
  · simp
theorem dtsR_len (W H : Int) (fs : List FlD) (ts : List Int) : (dtsR W H fs ts).1.2.2.length ≤ 1048576 := by
  unfold dtsR noFr
  split
  · rename_i h
    simp only [Bool.and_eq_true] at h
    have hs := scB_sz h.1
    have := mul_12 hs.1 hs.2
    rw [tpixs_len, blankL_len]
    omega
  · simp
theorem tl_in {W H t : Int} (hW : 1 ≤ W ∧ W ≤ 12) (hH : 1 ≤ H ∧ H ≤ 12) : tlB W H t = inB t 0 (tilesL W H - 1) := by
  unfold tlB
  rw [inB_iff.2 hW, inB_iff.2 hH]; rfl
theorem frB_len {W H : Int} {cs : List Bx4} (h : frB W H cs = true) : (cs.length : Int) = W * H := by
  unfold frB at h
  simp only [Bool.and_eq_true, decide_eq_true_eq] at h
  exact h.2.1
set_option maxRecDepth 100000 in
set_option maxHeartbeats 4000000 in
theorem c_sblank (W H : Int) (n : Nat) (w : World) (hn : W * H = (n : Int)) (hW : 1 ≤ W ∧ W ≤ 12) (hH : 1 ≤ H ∧ H ≤ 12) :
    Calls Tryz.prog 40 #[.int .i64 W, .int .i64 H] w fun e w' => ∃ A', e = .returned (frV W H A' n n) ∧ Has w' w.heap.size 63 4 (.slice A' n n) n ((blankL n).flatMap bxC) ∧ Below w.heap.size w w' := by
  have h144 := mul_12 hW hH
  have g1 : IntKind.i64.wrap (W * H) = (n : Int) := by rw [hn]; exact IntWalk.i64_in _ (by omega)
  have hmk : ∀ Wd, (Instr.makeSlice 30 (.int .i64 (n : Int)) (.int .i64 (n : Int))).run Tryz.prog Wd = .ok (.slice (some ⟨Wd.heap.size, 0, none⟩) n n) (Wd.alloc (.cells (fillC bxC [.int .i64 0, .int .i64 0, .int .i64 0, .int .i64 0] (blankL n) 0).toArray 63)) := fun Wd => by
    have h := run_make_fill ei_co bxC (blankL n) (by rw [blankL_len]; omega) Wd
    rw [blankL_len] at h
    exact h
  have hfl : Hid (fillC bxC [.int .i64 0, .int .i64 0, .int .i64 0, .int .i64 0] (blankL n) 0 = (blankL n).flatMap bxC) := Lib.hid (by
    unfold fillC blankL
    simp only [List.take_zero, List.flatMap_nil, List.nil_append, List.length_replicate, Nat.sub_zero]
    clear hmk g1 h144 hn
    induction n with
    | zero => rfl
    | succ n ih => rw [List.replicate_succ, List.flatten_cons, ih, List.replicate_succ, List.flatMap_cons]; rfl)
  generalize fillC bxC [.int .i64 0, .int .i64 0, .int .i64 0, .int .i64 0] (blankL n) 0 = zs at *
  have Hn := Lib.hid hn
  have hn' : n ≤ 1000000000000 := by omega
  have E := Lib.hid (Below.refl w.heap.size w)
  clear h144 hn
  go_enter Tryz.func40, Tryz.ntmps40
  go_wp2
  refine gen_post (fun Wd hW2 => ?_)
  obtain ⟨E9, D2, RN⟩ := new2 (c1 := [.int .i64 W, .int .i64 H, .slice (some ⟨w.heap.size + 1, 0, none⟩) n n]) (c2 := zs) hW2
  have y0 := D2.cell_of (i := 0) rfl
  have y1 := D2.cell_of (i := 1) rfl
  have y2 := D2.cell_of (i := 2) rfl
  rw [hfl.out] at RN
  have O := own_of_row (n := n) (B := w.heap.size) (sz := 4) RN (by omega) (by rw [flat_len bxC_len, blankL_len]) hn'
  exact bodyPost_ret (v := frV W H (some ⟨w.heap.size + 1, 0, none⟩) n n) (by simp [results, Tryz.results40, go_sem, y0, y1, y2]) rfl
    ⟨_, rfl, O, E9⟩
set_option maxRecDepth 100000 in
set_option maxHeartbeats 4000000 in
theorem c_iBlankFrame (W H : Int) (n : Nat) (w : World) (hn : W * H = (n : Int)) (hW : 1 ≤ W ∧ W ≤ 12) (hH : 1 ≤ H ∧ H ≤ 12) :
    Calls Tryz.prog 41 #[.int .i64 W, .int .i64 H] w fun e w' => ∃ A', e = .returned (frV W H A' n n) ∧ Has w' w.heap.size 63 4 (.slice A' n n) n ((blankL n).flatMap bxC) ∧ Below w.heap.size w w' := by
  have h144 := mul_12 hW hH
  have g1 : IntKind.i64.wrap (W * H) = (n : Int) := by rw [hn]; exact IntWalk.i64_in _ (by omega)
  have hmk : ∀ Wd, (Instr.makeSlice 30 (.int .i64 (n : Int)) (.int .i64 (n : Int))).run Tryz.prog Wd = .ok (.slice (some ⟨Wd.heap.size, 0, none⟩) n n) (Wd.alloc (.cells (fillC bxC [.int .i64 0, .int .i64 0, .int .i64 0, .int .i64 0] (blankL n) 0).toArray 63)) := fun Wd => by
    have h := run_make_fill ei_co bxC (blankL n) (by rw [blankL_len]; omega) Wd
    rw [blankL_len] at h
    exact h
  have hfl : Hid (fillC bxC [.int .i64 0, .int .i64 0, .int .i64 0, .int .i64 0] (blankL n) 0 = (blankL n).flatMap bxC) := Lib.hid (by
    unfold fillC blankL
    simp only [List.take_zero, List.flatMap_nil, List.nil_append, List.length_replicate, Nat.sub_zero]
    clear hmk g1 h144 hn
    induction n with
    | zero => rfl
    | succ n ih => rw [List.replicate_succ, List.flatten_cons, ih, List.replicate_succ, List.flatMap_cons]; rfl)
  have hs : Hid (sizeB W H = true) := Lib.hid (by unfold sizeB; rw [inB_iff.2 hW, inB_iff.2 hH]; rfl)
  generalize fillC bxC [.int .i64 0, .int .i64 0, .int .i64 0, .int .i64 0] (blankL n) 0 = zs at *
  have Hn := Lib.hid hn
  have hn' : n ≤ 1000000000000 := by omega
  have E := Lib.hid (Below.refl w.heap.size w)
  clear h144 hn
  go_enter Tryz.func41, Tryz.ntmps41
  go_wp2_with fail
  first | refine gen_calls ?_ | refine gen_code ?_ | refine gen_list ?_
  intro w0 hW
  obtain ⟨hb, hR0⟩ := new1 hW
  clear hW
  replace E := Lib.hid (Ext.trans E.out hb)
  clear hb
  have R0 := Lib.hid hR0
  have lR0 := R0.out.lt
  clear hR0
  have r0 := R0.out.cell_of (i := 0) rfl
  have zr0 := R0.out.frozen 0
  have r1 := R0.out.cell_of (i := 1) rfl
  have zr1 := R0.out.frozen 1
  have r2 := R0.out.cell_of (i := 2) rfl
  have zr2 := R0.out.frozen 2
  go_wp2_with fail
  refine (c_sizedF W H _).mono ?_
  rw [hs.out]
  rintro e w' ⟨rfl, rfl⟩
  go_wp2
  clear r0 zr0 r1 zr1 r2 zr2
  refine gen_post (fun Wd hW2 => ?_)
  obtain ⟨Wm, hWm⟩ : ∃ Wm, ((w0.setCell ⟨w.heap.size, 0, none⟩ (.int .i64 W)).setCell ⟨w.heap.size, 1, none⟩ (.int .i64 H)).setCell ⟨w.heap.size, 2, none⟩ (.slice (some ⟨w0.heap.size, 0, none⟩) n n) = Wm := ⟨_, rfl⟩
  rw [hWm] at hW2
  have hzm : Wm.heap.size = w0.heap.size := by rw [← hWm]; simp [World.setCell]
  have hg2 : w0.grownBy Wm (some w.heap.size) := by rw [← hWm]; exact sets3 w0 _ 0 _ _ _
  have D := R0.out
  have Dm : Row Wm w.heap.size 32 [.int .i64 W, .int .i64 H, .slice (some ⟨w0.heap.size, 0, none⟩) n n] := by
    rw [← hWm]; exact ((D.set_ 0 _).set_ 1 _).set_ 2 _
  have Em := below_set E.out hg2 (Nat.le_refl _) E.out.size
  obtain ⟨Ea, RN⟩ := new1 (c1 := zs) hW2
  have D2 := Dm.ext Ea
  have E9 := Ext.trans Em Ea
  rw [hzm, hfl.out] at RN
  have y0 := D2.cell_of (i := 0) rfl
  have y1 := D2.cell_of (i := 1) rfl
  have y2 := D2.cell_of (i := 2) rfl
  have O := own_of_row (n := n) (B := w.heap.size) (sz := 4) RN (by have := R0.out.lt; omega) (by rw [flat_len bxC_len, blankL_len]) hn'
  exact bodyPost_ret (v := frV W H (some ⟨w0.heap.size, 0, none⟩) n n) (by simp [results, Tryz.results41, go_sem, y0, y1, y2]) rfl
    ⟨_, rfl, O, E9⟩
end Go.Proofs.YthjmpofdpmlhmaaGreat
