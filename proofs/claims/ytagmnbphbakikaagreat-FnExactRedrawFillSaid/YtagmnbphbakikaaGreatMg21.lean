/-
  Several texts in one: FrameE, FrameJ, FrameF, FrameG.
-/
import Derived.Test.YtagmnbphbakikaaGreatMg20
import Derived.Test.YtagmnbphbakikaaGreatMg11
import Derived.Test.YtagmnbphbakikaaGreatMg26
import Derived.Test.YtagmnbphbakikaaGreatMg29
namespace Go.Proofs.YtagmnbphbakikaaGreat
open Go Go.RowKit Reg
attribute [local go_sem] calmAt calmUpon
/-- A picture returned, in a row of its own, and whether there is one. -/
def RetFr (w : World) (R : (Int × Int × List Bx4) × Bool) (e : Ending) (w' : World) : Prop := ∃ A' cap', e = .returned (.tuple #[frV R.1.1 R.1.2.1 A' R.1.2.2.length cap', .bool R.2]) ∧ Has w' w.heap.size 118 4 (.slice A' R.1.2.2.length cap') R.1.2.2.length (R.1.2.2.flatMap bxC) ∧ Below w.heap.size w w'
def noFr : (Int × Int × List Bx4) × Bool := ((0, 0, []), false)
theorem RetFr.no {w w' : World} (h : Below w.heap.size w w') : RetFr w noFr (.returned (.tuple #[frV 0 0 none 0 0, .bool false])) w' := ⟨none, 0, rfl, own_nil _ _ _ _, h⟩
def dtR (W H : Int) (cs : List Bx4) (W2 H2 : Int) (fs : List FlD) (t : Int) : (Int × Int × List Bx4) × Bool :=
  if frB W H cs && (scB W2 H2 fs && (decide (W = W2) && (decide (H = H2) && inB t 0 (tilesL W2 H2 - 1)))) then ((W, H, tpix W H fs t cs), true) else noFr
def dtsR (W H : Int) (fs : List FlD) (ts : List Int) : (Int × Int × List Bx4) × Bool :=
  if scB W H fs && (decide (ts.length ≤ 30) && ts.all fun t => inB t 0 (tilesL W H - 1)) then ((W, H, tpixs W H fs ts (blankL (W * H).toNat)), true) else noFr
theorem blankL_len (n : Nat) : (blankL n).length = n := by simp [blankL]
theorem dtR_len {W H : Int} {cs : List Bx4} (W2 H2 : Int) (fs : List FlD) (t : Int) (h : cs.length ≤ 1048576) : (dtR W H cs W2 H2 fs t).1.2.2.length ≤ 1048576 := by
  unfold dtR noFr
  split
  · rw [tpix_len]; exact h
  · simp
theorem dtsR_len (W H : Int) (fs : List FlD) (ts : List Int) : (dtsR W H fs ts).1.2.2.length ≤ 1048576 := by
  unfold dtsR noFr
  split
  · rename_i h
    simp only [Bool.and_eq_true] at h
    have hs := scB_sz h.1
    have := mul_12 hs.1 hs.2
    rw [tpixs_len, blankL_len]
    omega
  · simp
theorem tl_in {W H t : Int} (hW : 1 ≤ W ∧ W ≤ 12) (hH : 1 ≤ H ∧ H ≤ 12) : tlB W H t = inB t 0 (tilesL W H - 1) := by
  unfold tlB
  rw [inB_iff.2 hW, inB_iff.2 hH]; rfl
theorem frB_len {W H : Int} {cs : List Bx4} (h : frB W H cs = true) : (cs.length : Int) = W * H := by
  unfold frB at h
  simp only [Bool.and_eq_true, decide_eq_true_eq] at h
  exact h.2.1
set_option maxRecDepth 100000 in
set_option maxHeartbeats 4000000 in
theorem c_sblank (W H : Int) (n : Nat) (w : World) (hn : W * H = (n : Int)) (hW : 1 ≤ W ∧ W ≤ 12) (hH : 1 ≤ H ∧ H ≤ 12) :
    Calls Tryz.prog 52 #[.int .i64 W, .int .i64 H] w fun e w' => ∃ A', e = .returned (frV W H A' n n) ∧ Has w' w.heap.size 118 4 (.slice A' n n) n ((blankL n).flatMap bxC) ∧ Below w.heap.size w w' := by
  have h144 := mul_12 hW hH
  have g1 : IntKind.i64.wrap (W * H) = (n : Int) := by rw [hn]; exact IntWalk.i64_in _ (by omega)
  have hmk : ∀ Wd, (Instr.makeSlice 35 (.int .i64 (n : Int)) (.int .i64 (n : Int))).run Tryz.prog Wd = .ok (.slice (some ⟨Wd.heap.size, 0, none⟩) n n) (Wd.alloc (.cells (fillC bxC [.int .i64 0, .int .i64 0, .int .i64 0, .int .i64 0] (blankL n) 0).toArray 118)) := fun Wd => by
    have h := run_make_fill ei_co bxC (blankL n) (by rw [blankL_len]; omega) Wd
    rw [blankL_len] at h
    exact h
  have hfl : Hid (fillC bxC [.int .i64 0, .int .i64 0, .int .i64 0, .int .i64 0] (blankL n) 0 = (blankL n).flatMap bxC) := Lib.hid (by
    unfold fillC blankL
    simp only [List.take_zero, List.flatMap_nil, List.nil_append, List.length_replicate, Nat.sub_zero]
    clear hmk g1 h144 hn
    induction n with
    | zero => rfl
    | succ n ih => rw [List.replicate_succ, List.flatten_cons, ih, List.replicate_succ, List.flatMap_cons]; rfl)
  generalize fillC bxC [.int .i64 0, .int .i64 0, .int .i64 0, .int .i64 0] (blankL n) 0 = zs at *
  have Hn := Lib.hid hn
  have hn' : n ≤ 1000000000000 := by omega
  have E := Lib.hid (Below.refl w.heap.size w)
  clear h144 hn
  go_enter Tryz.func52, Tryz.ntmps52
  go_wp2
  refine gen_post (fun Wd hW2 => ?_)
  obtain ⟨E9, D2, RN⟩ := new2 (c1 := [.int .i64 W, .int .i64 H, .slice (some ⟨w.heap.size + 1, 0, none⟩) n n]) (c2 := zs) hW2
  have y0 := D2.cell_of (i := 0) rfl
  have y1 := D2.cell_of (i := 1) rfl
  have y2 := D2.cell_of (i := 2) rfl
  rw [hfl.out] at RN
  have O := own_of_row (n := n) (B := w.heap.size) (sz := 4) RN (by omega) (by rw [flat_len bxC_len, blankL_len]) hn'
  exact bodyPost_ret (v := frV W H (some ⟨w.heap.size + 1, 0, none⟩) n n) (by simp [results, Tryz.results52, go_sem, y0, y1, y2]) rfl
    ⟨_, rfl, O, E9⟩
set_option maxRecDepth 100000 in
set_option maxHeartbeats 4000000 in
theorem c_iBlankFrame (W H : Int) (n : Nat) (w : World) (hn : W * H = (n : Int)) (hW : 1 ≤ W ∧ W ≤ 12) (hH : 1 ≤ H ∧ H ≤ 12) :
    Calls Tryz.prog 59 #[.int .i64 W, .int .i64 H] w fun e w' => ∃ A', e = .returned (frV W H A' n n) ∧ Has w' w.heap.size 118 4 (.slice A' n n) n ((blankL n).flatMap bxC) ∧ Below w.heap.size w w' := by
  have h144 := mul_12 hW hH
  have g1 : IntKind.i64.wrap (W * H) = (n : Int) := by rw [hn]; exact IntWalk.i64_in _ (by omega)
  have hmk : ∀ Wd, (Instr.makeSlice 35 (.int .i64 (n : Int)) (.int .i64 (n : Int))).run Tryz.prog Wd = .ok (.slice (some ⟨Wd.heap.size, 0, none⟩) n n) (Wd.alloc (.cells (fillC bxC [.int .i64 0, .int .i64 0, .int .i64 0, .int .i64 0] (blankL n) 0).toArray 118)) := fun Wd => by
    have h := run_make_fill ei_co bxC (blankL n) (by rw [blankL_len]; omega) Wd
    rw [blankL_len] at h
    exact h
  have hfl : Hid (fillC bxC [.int .i64 0, .int .i64 0, .int .i64 0, .int .i64 0] (blankL n) 0 = (blankL n).flatMap bxC) := Lib.hid (by
    unfold fillC blankL
    simp only [List.take_zero, List.flatMap_nil, List.nil_append, List.length_replicate, Nat.sub_zero]
    clear hmk g1 h144 hn
    induction n with
    | zero => rfl
    | succ n ih => rw [List.replicate_succ, List.flatten_cons, ih, List.replicate_succ, List.flatMap_cons]; rfl)
  have hs : Hid (sizeB W H = true) := Lib.hid (by unfold sizeB; rw [inB_iff.2 hW, inB_iff.2 hH]; rfl)
  generalize fillC bxC [.int .i64 0, .int .i64 0, .int .i64 0, .int .i64 0] (blankL n) 0 = zs at *
  have Hn := Lib.hid hn
  have hn' : n ≤ 1000000000000 := by omega
  have E := Lib.hid (Below.refl w.heap.size w)
  clear h144 hn
  go_enter Tryz.func59, Tryz.ntmps59
  go_wp2_with fail
  first | refine gen_calls ?_ | refine gen_code ?_ | refine gen_list ?_
  intro w0 hW
  obtain ⟨hb, hR0⟩ := new1 hW
  clear hW
  replace E := Lib.hid (Ext.trans E.out hb)
  clear hb
  have R0 := Lib.hid hR0
  have lR0 := R0.out.lt
  clear hR0
  have r0 := R0.out.cell_of (i := 0) rfl
  have zr0 := R0.out.frozen 0
  have r1 := R0.out.cell_of (i := 1) rfl
  have zr1 := R0.out.frozen 1
  have r2 := R0.out.cell_of (i := 2) rfl
  have zr2 := R0.out.frozen 2
  go_wp2_with fail
  refine (c_sizedF W H _).mono ?_
  rw [hs.out]
  rintro e w' ⟨rfl, rfl⟩
  go_wp2
  clear r0 zr0 r1 zr1 r2 zr2
  refine gen_post (fun Wd hW2 => ?_)
  obtain ⟨Wm, hWm⟩ : ∃ Wm, ((w0.setCell ⟨w.heap.size, 0, none⟩ (.int .i64 W)).setCell ⟨w.heap.size, 1, none⟩ (.int .i64 H)).setCell ⟨w.heap.size, 2, none⟩ (.slice (some ⟨w0.heap.size, 0, none⟩) n n) = Wm := ⟨_, rfl⟩
  rw [hWm] at hW2
  have hzm : Wm.heap.size = w0.heap.size := by rw [← hWm]; simp [World.setCell]
  have hg2 : w0.grownBy Wm (some w.heap.size) := by rw [← hWm]; exact sets3 w0 _ 0 _ _ _
  have D := R0.out
  have Dm : Row Wm w.heap.size 37 [.int .i64 W, .int .i64 H, .slice (some ⟨w0.heap.size, 0, none⟩) n n] := by
    rw [← hWm]; exact ((D.set_ 0 _).set_ 1 _).set_ 2 _
  have Em := below_set E.out hg2 (Nat.le_refl _) E.out.size
  obtain ⟨Ea, RN⟩ := new1 (c1 := zs) hW2
  have D2 := Dm.ext Ea
  have E9 := Ext.trans Em Ea
  rw [hzm, hfl.out] at RN
  have y0 := D2.cell_of (i := 0) rfl
  have y1 := D2.cell_of (i := 1) rfl
  have y2 := D2.cell_of (i := 2) rfl
  have O := own_of_row (n := n) (B := w.heap.size) (sz := 4) RN (by have := R0.out.lt; omega) (by rw [flat_len bxC_len, blankL_len]) hn'
  exact bodyPost_ret (v := frV W H (some ⟨w0.heap.size, 0, none⟩) n n) (by simp [results, Tryz.results59, go_sem, y0, y1, y2]) rfl
    ⟨_, rfl, O, E9⟩
end Go.Proofs.YtagmnbphbakikaaGreat
namespace Go.Proofs.YtagmnbphbakikaaGreat
open Go Go.RowKit Reg
attribute [local go_sem] calmAt calmUpon
theorem lst_ne {l : Array Bool} {i j : Nat} (h : i ≠ j) : (l.setIfInBounds i true).getD j false = l.getD j false := getD_set_ne false h
/-- What is listed of the call (c), the picture (p), its memory (m) and the store (s). -/
structure FrJ (c p m s : Nat) (B : Nat) (W H : Int) (n : Nat) (cells : List Value) (l : Array Bool) (vals : Nat → Value) (w : World) : Prop where
  call : l.getD c false = true → ∃ A cap, vals c = .slice A n cap ∧ Has w B 118 4 (.slice A n cap) n cells
  pic : l.getD p false = true → l.getD c false = true ∧ vals p = .agg #[.int .i64 W, .int .i64 H, vals c]
  mem : l.getD m false = true → ∃ g cs, vals m = .pointer (some ⟨g, 0, none⟩) ∧ B ≤ g ∧ Row w g 37 cs ∧ cs.length = 3 ∧ (l.getD s false = true → cs = [.int .i64 W, .int .i64 H, vals c])
  cl : l.getD s false = true → l.getD p false = true ∧ l.getD m false = true
theorem FrJ.start {c p m s : Nat} {B : Nat} {W H : Int} {n : Nat} {cells : List Value} {l : Array Bool} {vals : Nat → Value} {w : World} (h1 : l.getD c false = false) (h2 : l.getD p false = false) (h3 : l.getD m false = false) (h4 : l.getD s false = false) : FrJ c p m s B W H n cells l vals w :=
  ⟨fun h => (by rw [h1] at h; cases h), fun h => (by rw [h2] at h; cases h), fun h => (by rw [h3] at h; cases h), fun h => (by rw [h4] at h; cases h)⟩
section
variable {c p m s : Nat} {B : Nat} {W H : Int} {n : Nat} {cells : List Value} {l : Array Bool} {vals : Nat → Value} {w w' : World}
theorem FrJ.ext (h : FrJ c p m s B W H n cells l vals w) (hx : Ext w w') : FrJ c p m s B W H n cells l vals w' :=
  ⟨fun k => by obtain ⟨A, cap, h1, h2⟩ := h.call k; exact ⟨A, cap, h1, own_ext h2 hx⟩, h.pic, fun k => by
    obtain ⟨g, cs, h1, h2, h3, h4, h5⟩ := h.mem k
    exact ⟨g, cs, h1, h2, h3.ext hx, h4, h5⟩, h.cl⟩
theorem FrJ.called (h : FrJ c p m s B W H n cells l vals w) (hx : Ext w w') (hd : c ≠ p ∧ c ≠ m ∧ c ≠ s) (hc : l.getD c false = false) (A : Option Addr) (cap : Nat) (ho : Has w' B 118 4 (.slice A n cap) n cells) :
    FrJ c p m s B W H n cells (l.setIfInBounds c true) (upd vals c (.slice A n cap)) w' := by
  obtain ⟨d1, d2, d3⟩ := hd
  have h' := h.ext hx
  refine ⟨fun _ => ⟨A, cap, upd_same _ _ _, ho⟩, fun k => ?_, fun k => ?_, fun k => ?_⟩
  · rw [lst_ne d1] at k
    have := (h'.pic k).1
    rw [hc] at this; cases this
  · rw [lst_ne d2] at k
    obtain ⟨g, cs, h1, h2, h3, h4, h5⟩ := h'.mem k
    rw [upd_ne (Ne.symm d2), lst_ne d3]
    refine ⟨g, cs, h1, h2, h3, h4, fun a => ?_⟩
    have := (h'.pic (h'.cl a).1).1
    rw [hc] at this; cases this
  · rw [lst_ne d3] at k; rw [lst_ne d1, lst_ne d2]; exact h'.cl k
theorem FrJ.built (h : FrJ c p m s B W H n cells l vals w) (hd : p ≠ c ∧ p ≠ m ∧ p ≠ s) (hc : l.getD c false = true) (v : Value) (hv : v = .agg #[.int .i64 W, .int .i64 H, vals c]) :
    FrJ c p m s B W H n cells (l.setIfInBounds p true) (upd vals p v) w := by
  obtain ⟨d1, d2, d3⟩ := hd
  have e1 : upd vals p v c = vals c := upd_ne (Ne.symm d1)
  have e2 : upd vals p v m = vals m := upd_ne (Ne.symm d2)
  refine ⟨fun k => ?_, fun _ => ⟨by rw [lst_ne d1]; exact hc, by rw [upd_same, e1]; exact hv⟩, fun k => ?_, fun k => ?_⟩
  · rw [e1]; exact h.call hc
  · rw [lst_ne d2] at k
    rw [e1, e2, lst_ne d3]
    exact h.mem k
  · rw [lst_ne d3] at k
    have := h.cl k
    refine ⟨?_, by rw [lst_ne d2]; exact this.2⟩
    by_cases hp : p < l.size
    · rw [Array.getD_eq_getD_getElem?, Array.getElem?_setIfInBounds_self_of_lt hp]; rfl
    · have h1 := this.1
      rw [Array.getD_eq_getD_getElem?, Array.getElem?_eq_none (by omega)] at h1
      cases h1
theorem FrJ.allocd (h : FrJ c p m s B W H n cells l vals w) (hd : m ≠ c ∧ m ≠ p ∧ m ≠ s) (hm : l.getD m false = false) (hB : B ≤ w.heap.size) :
    FrJ c p m s B W H n cells (l.setIfInBounds m true) (upd vals m (.pointer (some ⟨w.heap.size, 0, none⟩))) (w.alloc (.cells #[.int .i64 0, .int .i64 0, .slice none 0 0] 37)) := by
  obtain ⟨d1, d2, d3⟩ := hd
  have h' := h.ext (ext_alloc w (.cells #[.int .i64 0, .int .i64 0, .slice none 0 0] 37))
  have e1 : upd vals m (.pointer (some ⟨w.heap.size, 0, none⟩)) c = vals c := upd_ne (Ne.symm d1)
  have e2 : upd vals m (.pointer (some ⟨w.heap.size, 0, none⟩)) p = vals p := upd_ne (Ne.symm d2)
  have hs : ∀ q : Prop, l.getD s false = true → q := fun q k => by
    have := (h.cl k).2
    rw [hm] at this; cases this
  refine ⟨fun k => ?_, fun k => ?_, fun _ => ⟨w.heap.size, _, upd_same _ _ _, hB, Row.new w 37 [.int .i64 0, .int .i64 0, .slice none 0 0], rfl, fun k => ?_⟩, fun k => ?_⟩
  · rw [lst_ne d1] at k; rw [e1]; exact h'.call k
  · rw [lst_ne d2] at k; rw [lst_ne d1, e1, e2]; exact h'.pic k
  · rw [lst_ne d3] at k; exact hs _ k
  · rw [lst_ne d3] at k; exact hs _ k
theorem FrJ.stored (h : FrJ c p m s B W H n cells l vals w) (hd : s ≠ c ∧ s ≠ p ∧ s ≠ m) (hc : l.getD c false = true) {g : Nat} (hm : l.getD m false = true) (hg : vals m = .pointer (some ⟨g, 0, none⟩)) (hp : l.getD p false = true) (v : Value) {cs : List Value} (hr : Row w g 37 cs) (hl : cs.length = 3) :
    FrJ c p m s B W H n cells (l.setIfInBounds s true) (upd vals s v) (((w.setCell ⟨g, 0, none⟩ (.int .i64 W)).setCell ⟨g, 1, none⟩ (.int .i64 H)).setCell ⟨g, 2, none⟩ (vals c)) := by
  obtain ⟨d1, d2, d3⟩ := hd
  have hg2 : w.grownBy (((w.setCell ⟨g, 0, none⟩ (.int .i64 W)).setCell ⟨g, 1, none⟩ (.int .i64 H)).setCell ⟨g, 2, none⟩ (vals c)) (some g) := sets3 w g 0 _ _ _
  have e1 : upd vals s v c = vals c := upd_ne (Ne.symm d1)
  have e2 : upd vals s v p = vals p := upd_ne (Ne.symm d2)
  have e3 : upd vals s v m = vals m := upd_ne (Ne.symm d3)
  refine ⟨fun _ => ?_, fun k => ?_, fun _ => ?_, fun _ => ⟨by rw [lst_ne d2]; exact hp, by rw [lst_ne d3]; exact hm⟩⟩
  · rw [e1]
    obtain ⟨A, cap, h1, h2⟩ := h.call hc
    exact ⟨A, cap, h1, h2.keptB hr (by decide) hg2⟩
  · rw [lst_ne d2] at k; rw [lst_ne d1, e1, e2]; exact h.pic k
  · rw [e1, e3]
    obtain ⟨g', _, h1, h2, _⟩ := h.mem hm
    rw [hg] at h1
    obtain rfl : g = g' := by injection h1 with h; injection h with h; injection h with h _ _
    match cs, hl with
    | [a, b, d], _ => exact ⟨g, _, hg, h2, ((hr.set_ 0 _).set_ 1 _).set_ 2 _, rfl, fun _ => rfl⟩
end
end Go.Proofs.YtagmnbphbakikaaGreat
namespace Go.Proofs.YtagmnbphbakikaaGreat
open Go Go.RowKit Reg
attribute [local go_sem] calmAt calmUpon
theorem slok_some {ad : Addr} {n : Nat} (h : n ≤ 1048576) : SlOk (some ad) n n := ⟨fun h => (by cases h), Nat.le_refl _, by unfold maxLen; omega⟩
end Go.Proofs.YtagmnbphbakikaaGreat
namespace Go.Proofs.YtagmnbphbakikaaGreat
open Go Go.RowKit Reg
attribute [local go_sem] calmAt calmUpon
theorem tpixs_zero (W H : Int) (fs : List FlD) (cs : List Bx4) (ts : List Int) : tpixs W H fs (ts.take 0) cs = cs := by simp [tpixs]
theorem tpixs_all (W H : Int) (fs : List FlD) (cs : List Bx4) {ts : List Int} {k : Nat} (h : k = ts.length) : tpixs W H fs (ts.take k) cs = tpixs W H fs ts cs := by subst h; rw [List.take_length]
end Go.Proofs.YtagmnbphbakikaaGreat
