/-
  Several texts in one: FrameE, FrameJ, FrameF, FrameH.
-/
import Derived.Test.YtagmnbphbakikaaGreatMg20
import Derived.Test.YtagmnbphbakikaaGreatMg11
import Derived.Test.YtagmnbphbakikaaGreatRegionJ
import Derived.Test.YtagmnbphbakikaaGreatMarkI
import Derived.Test.YtagmnbphbakikaaGreatMg23
import Derived.Test.YtagmnbphbakikaaGreatMg24
namespace Go.Proofs.YtagmnbphbakikaaGreat
open Go Go.RowKit Reg
attribute [local go_sem] calmAt calmUpon
/-- A picture returned, in a row of its own, and whether there is one. -/
def RetFr (w : World) (R : (Int × Int × List Bx4) × Bool) (e : Ending) (w' : World) : Prop := ∃ A' cap', e = .returned (.tuple #[frV R.1.1 R.1.2.1 A' R.1.2.2.length cap', .bool R.2]) ∧ Has w' w.heap.size 118 4 (.slice A' R.1.2.2.length cap') R.1.2.2.length (R.1.2.2.flatMap bxC) ∧ Below w.heap.size w w'
def noFr : (Int × Int × List Bx4) × Bool := ((0, 0, []), false)
theorem RetFr.no {w w' : World} (h : Below w.heap.size w w') : RetFr w noFr (.returned (.tuple #[frV 0 0 none 0 0, .bool false])) w' := ⟨none, 0, rfl, own_nil _ _ _ _, h⟩
def dtR (W H : Int) (cs : List Bx4) (W2 H2 : Int) (fs : List FlD) (t : Int) : (Int × Int × List Bx4) × Bool :=
  if frB W H cs && (scB W2 H2 fs && (decide (W = W2) && (decide (H = H2) && inB t 0 (tilesL W2 H2 - 1)))) then ((W, H, tpix W H fs t cs), true) else noFr
def dtsR (W H : Int) (fs : List FlD) (ts : List Int) : (Int × Int × List Bx4) × Bool :=
  if scB W H fs && (decide (ts.length ≤ 30) && ts.all fun t => inB t 0 (tilesL W H - 1)) then ((W, H, tpixs W H fs ts (blankL (W * H).toNat)), true) else noFr
theorem blankL_len (n : Nat) : (blankL n).length = n := by simp [blankL]
theorem dtR_len {W H : Int} {cs : List Bx4} (W2 H2 : Int) (fs : List FlD) (t : Int) (h : cs.length ≤ 1048576) : (dtR W H cs W2 H2 fs t).1.2.2.length ≤ 1048576 := by
  unfold dtR noFr
  split
  · rw [tpix_len]; exact h
  · simp
theorem dtsR_len (W H : Int) (fs : List FlD) (ts : List Int) : (dtsR W H fs ts).1.2.2.length ≤ 1048576 := by
  unfold dtsR noFr
  split
  · rename_i h
    simp only [Bool.and_eq_true] at h
    have hs := scB_sz h.1
    have := mul_12 hs.1 hs.2
    rw [tpixs_len, blankL_len]
    omega
  · simp
theorem tl_in {W H t : Int} (hW : 1 ≤ W ∧ W ≤ 12) (hH : 1 ≤ H ∧ H ≤ 12) : tlB W H t = inB t 0 (tilesL W H - 1) := by
  unfold tlB
  rw [inB_iff.2 hW, inB_iff.2 hH]; rfl
theorem frB_len {W H : Int} {cs : List Bx4} (h : frB W H cs = true) : (cs.length : Int) = W * H := by
  unfold frB at h
  simp only [Bool.and_eq_true, decide_eq_true_eq] at h
  exact h.2.1
set_option maxRecDepth 100000 in
set_option maxHeartbeats 4000000 in
theorem c_sblank (W H : Int) (n : Nat) (w : World) (hn : W * H = (n : Int)) (hW : 1 ≤ W ∧ W ≤ 12) (hH : 1 ≤ H ∧ H ≤ 12) :
    Calls Tryz.prog 52 #[.int .i64 W, .int .i64 H] w fun e w' => ∃ A', e = .returned (frV W H A' n n) ∧ Has w' w.heap.size 118 4 (.slice A' n n) n ((blankL n).flatMap bxC) ∧ Below w.heap.size w w' := by
  have h144 := mul_12 hW hH
  have g1 : IntKind.i64.wrap (W * H) = (n : Int) := by rw [hn]; exact IntWalk.i64_in _ (by omega)
  have hmk : ∀ Wd, (Instr.makeSlice 35 (.int .i64 (n : Int)) (.int .i64 (n : Int))).run Tryz.prog Wd = .ok (.slice (some ⟨Wd.heap.size, 0, none⟩) n n) (Wd.alloc (.cells (fillC bxC [.int .i64 0, .int .i64 0, .int .i64 0, .int .i64 0] (blankL n) 0).toArray 118)) := fun Wd => by
    have h := run_make_fill ei_co bxC (blankL n) (by rw [blankL_len]; omega) Wd
    rw [blankL_len] at h
    exact h
  have hfl : Hid (fillC bxC [.int .i64 0, .int .i64 0, .int .i64 0, .int .i64 0] (blankL n) 0 = (blankL n).flatMap bxC) := Lib.hid (by
    unfold fillC blankL
    simp only [List.take_zero, List.flatMap_nil, List.nil_append, List.length_replicate, Nat.sub_zero]
    clear hmk g1 h144 hn
    induction n with
    | zero => rfl
    | succ n ih => rw [List.replicate_succ, List.flatten_cons, ih, List.replicate_succ, List.flatMap_cons]; rfl)
  generalize fillC bxC [.int .i64 0, .int .i64 0, .int .i64 0, .int .i64 0] (blankL n) 0 = zs at *
  have Hn := Lib.hid hn
  have hn' : n ≤ 1000000000000 := by omega
  have E := Lib.hid (Below.refl w.heap.size w)
  clear h144 hn
  go_enter Tryz.func52, Tryz.ntmps52
  go_wp2
  refine gen_post (fun Wd hW2 => ?_)
  obtain ⟨E9, D2, RN⟩ := new2 (c1 := [.int .i64 W, .int .i64 H, .slice (some ⟨w.heap.size + 1, 0, none⟩) n n]) (c2 := zs) hW2
  have y0 := D2.cell_of (i := 0) rfl
  have y1 := D2.cell_of (i := 1) rfl
  have y2 := D2.cell_of (i := 2) rfl
  rw [hfl.out] at RN
  have O := own_of_row (n := n) (B := w.heap.size) (sz := 4) RN (by omega) (by rw [flat_len bxC_len, blankL_len]) hn'
  exact bodyPost_ret (v := frV W H (some ⟨w.heap.size + 1, 0, none⟩) n n) (by simp [results, Tryz.results52, go_sem, y0, y1, y2]) rfl
    ⟨_, rfl, O, E9⟩
set_option maxRecDepth 100000 in
set_option maxHeartbeats 4000000 in
theorem c_iBlankFrame (W H : Int) (n : Nat) (w : World) (hn : W * H = (n : Int)) (hW : 1 ≤ W ∧ W ≤ 12) (hH : 1 ≤ H ∧ H ≤ 12) :
    Calls Tryz.prog 59 #[.int .i64 W, .int .i64 H] w fun e w' => ∃ A', e = .returned (frV W H A' n n) ∧ Has w' w.heap.size 118 4 (.slice A' n n) n ((blankL n).flatMap bxC) ∧ Below w.heap.size w w' := by
  have h144 := mul_12 hW hH
  have g1 : IntKind.i64.wrap (W * H) = (n : Int) := by rw [hn]; exact IntWalk.i64_in _ (by omega)
  have hmk : ∀ Wd, (Instr.makeSlice 35 (.int .i64 (n : Int)) (.int .i64 (n : Int))).run Tryz.prog Wd = .ok (.slice (some ⟨Wd.heap.size, 0, none⟩) n n) (Wd.alloc (.cells (fillC bxC [.int .i64 0, .int .i64 0, .int .i64 0, .int .i64 0] (blankL n) 0).toArray 118)) := fun Wd => by
    have h := run_make_fill ei_co bxC (blankL n) (by rw [blankL_len]; omega) Wd
    rw [blankL_len] at h
    exact h
  have hfl : Hid (fillC bxC [.int .i64 0, .int .i64 0, .int .i64 0, .int .i64 0] (blankL n) 0 = (blankL n).flatMap bxC) := Lib.hid (by
    unfold fillC blankL
    simp only [List.take_zero, List.flatMap_nil, List.nil_append, List.length_replicate, Nat.sub_zero]
    clear hmk g1 h144 hn
    induction n with
    | zero => rfl
    | succ n ih => rw [List.replicate_succ, List.flatten_cons, ih, List.replicate_succ, List.flatMap_cons]; rfl)
  have hs : Hid (sizeB W H = true) := Lib.hid (by unfold sizeB; rw [inB_iff.2 hW, inB_iff.2 hH]; rfl)
  generalize fillC bxC [.int .i64 0, .int .i64 0, .int .i64 0, .int .i64 0] (blankL n) 0 = zs at *
  have Hn := Lib.hid hn
  have hn' : n ≤ 1000000000000 := by omega
  have E := Lib.hid (Below.refl w.heap.size w)
  clear h144 hn
  go_enter Tryz.func59, Tryz.ntmps59
  go_wp2_with fail
  first | refine gen_calls ?_ | refine gen_code ?_ | refine gen_list ?_
  intro w0 hW
  obtain ⟨hb, hR0⟩ := new1 hW
  clear hW
  replace E := Lib.hid (Ext.trans E.out hb)
  clear hb
  have R0 := Lib.hid hR0
  have lR0 := R0.out.lt
  clear hR0
  have r0 := R0.out.cell_of (i := 0) rfl
  have zr0 := R0.out.frozen 0
  have r1 := R0.out.cell_of (i := 1) rfl
  have zr1 := R0.out.frozen 1
  have r2 := R0.out.cell_of (i := 2) rfl
  have zr2 := R0.out.frozen 2
  go_wp2_with fail
  refine (c_sizedF W H _).mono ?_
  rw [hs.out]
  rintro e w' ⟨rfl, rfl⟩
  go_wp2
  clear r0 zr0 r1 zr1 r2 zr2
  refine gen_post (fun Wd hW2 => ?_)
  obtain ⟨Wm, hWm⟩ : ∃ Wm, ((w0.setCell ⟨w.heap.size, 0, none⟩ (.int .i64 W)).setCell ⟨w.heap.size, 1, none⟩ (.int .i64 H)).setCell ⟨w.heap.size, 2, none⟩ (.slice (some ⟨w0.heap.size, 0, none⟩) n n) = Wm := ⟨_, rfl⟩
  rw [hWm] at hW2
  have hzm : Wm.heap.size = w0.heap.size := by rw [← hWm]; simp [World.setCell]
  have hg2 : w0.grownBy Wm (some w.heap.size) := by rw [← hWm]; exact sets3 w0 _ 0 _ _ _
  have D := R0.out
  have Dm : Row Wm w.heap.size 37 [.int .i64 W, .int .i64 H, .slice (some ⟨w0.heap.size, 0, none⟩) n n] := by
    rw [← hWm]; exact ((D.set_ 0 _).set_ 1 _).set_ 2 _
  have Em := below_set E.out hg2 (Nat.le_refl _) E.out.size
  obtain ⟨Ea, RN⟩ := new1 (c1 := zs) hW2
  have D2 := Dm.ext Ea
  have E9 := Ext.trans Em Ea
  rw [hzm, hfl.out] at RN
  have y0 := D2.cell_of (i := 0) rfl
  have y1 := D2.cell_of (i := 1) rfl
  have y2 := D2.cell_of (i := 2) rfl
  have O := own_of_row (n := n) (B := w.heap.size) (sz := 4) RN (by have := R0.out.lt; omega) (by rw [flat_len bxC_len, blankL_len]) hn'
  exact bodyPost_ret (v := frV W H (some ⟨w0.heap.size, 0, none⟩) n n) (by simp [results, Tryz.results59, go_sem, y0, y1, y2]) rfl
    ⟨_, rfl, O, E9⟩
end Go.Proofs.YtagmnbphbakikaaGreat
namespace Go.Proofs.YtagmnbphbakikaaGreat
open Go Go.RowKit Reg
attribute [local go_sem] calmAt calmUpon
theorem lst_ne {l : Array Bool} {i j : Nat} (h : i ≠ j) : (l.setIfInBounds i true).getD j false = l.getD j false := getD_set_ne false h
/-- What is listed of the call (c), the picture (p), its memory (m) and the store (s). -/
structure FrJ (c p m s : Nat) (B : Nat) (W H : Int) (n : Nat) (cells : List Value) (l : Array Bool) (vals : Nat → Value) (w : World) : Prop where
  call : l.getD c false = true → ∃ A cap, vals c = .slice A n cap ∧ Has w B 118 4 (.slice A n cap) n cells
  pic : l.getD p false = true → l.getD c false = true ∧ vals p = .agg #[.int .i64 W, .int .i64 H, vals c]
  mem : l.getD m false = true → ∃ g cs, vals m = .pointer (some ⟨g, 0, none⟩) ∧ B ≤ g ∧ Row w g 37 cs ∧ cs.length = 3 ∧ (l.getD s false = true → cs = [.int .i64 W, .int .i64 H, vals c])
  cl : l.getD s false = true → l.getD p false = true ∧ l.getD m false = true
theorem FrJ.start {c p m s : Nat} {B : Nat} {W H : Int} {n : Nat} {cells : List Value} {l : Array Bool} {vals : Nat → Value} {w : World} (h1 : l.getD c false = false) (h2 : l.getD p false = false) (h3 : l.getD m false = false) (h4 : l.getD s false = false) : FrJ c p m s B W H n cells l vals w :=
  ⟨fun h => (by rw [h1] at h; cases h), fun h => (by rw [h2] at h; cases h), fun h => (by rw [h3] at h; cases h), fun h => (by rw [h4] at h; cases h)⟩
section
variable {c p m s : Nat} {B : Nat} {W H : Int} {n : Nat} {cells : List Value} {l : Array Bool} {vals : Nat → Value} {w w' : World}
theorem FrJ.ext (h : FrJ c p m s B W H n cells l vals w) (hx : Ext w w') : FrJ c p m s B W H n cells l vals w' :=
  ⟨fun k => by obtain ⟨A, cap, h1, h2⟩ := h.call k; exact ⟨A, cap, h1, own_ext h2 hx⟩, h.pic, fun k => by
    obtain ⟨g, cs, h1, h2, h3, h4, h5⟩ := h.mem k
    exact ⟨g, cs, h1, h2, h3.ext hx, h4, h5⟩, h.cl⟩
theorem FrJ.called (h : FrJ c p m s B W H n cells l vals w) (hx : Ext w w') (hd : c ≠ p ∧ c ≠ m ∧ c ≠ s) (hc : l.getD c false = false) (A : Option Addr) (cap : Nat) (ho : Has w' B 118 4 (.slice A n cap) n cells) :
    FrJ c p m s B W H n cells (l.setIfInBounds c true) (upd vals c (.slice A n cap)) w' := by
  obtain ⟨d1, d2, d3⟩ := hd
  have h' := h.ext hx
  refine ⟨fun _ => ⟨A, cap, upd_same _ _ _, ho⟩, fun k => ?_, fun k => ?_, fun k => ?_⟩
  · rw [lst_ne d1] at k
    have := (h'.pic k).1
    rw [hc] at this; cases this
  · rw [lst_ne d2] at k
    obtain ⟨g, cs, h1, h2, h3, h4, h5⟩ := h'.mem k
    rw [upd_ne (Ne.symm d2), lst_ne d3]
    refine ⟨g, cs, h1, h2, h3, h4, fun a => ?_⟩
    have := (h'.pic (h'.cl a).1).1
    rw [hc] at this; cases this
  · rw [lst_ne d3] at k; rw [lst_ne d1, lst_ne d2]; exact h'.cl k
theorem FrJ.built (h : FrJ c p m s B W H n cells l vals w) (hd : p ≠ c ∧ p ≠ m ∧ p ≠ s) (hc : l.getD c false = true) (v : Value) (hv : v = .agg #[.int .i64 W, .int .i64 H, vals c]) :
    FrJ c p m s B W H n cells (l.setIfInBounds p true) (upd vals p v) w := by
  obtain ⟨d1, d2, d3⟩ := hd
  have e1 : upd vals p v c = vals c := upd_ne (Ne.symm d1)
  have e2 : upd vals p v m = vals m := upd_ne (Ne.symm d2)
  refine ⟨fun k => ?_, fun _ => ⟨by rw [lst_ne d1]; exact hc, by rw [upd_same, e1]; exact hv⟩, fun k => ?_, fun k => ?_⟩
  · rw [e1]; exact h.call hc
  · rw [lst_ne d2] at k
    rw [e1, e2, lst_ne d3]
    exact h.mem k
  · rw [lst_ne d3] at k
    have := h.cl k
    refine ⟨?_, by rw [lst_ne d2]; exact this.2⟩
    by_cases hp : p < l.size
    · rw [Array.getD_eq_getD_getElem?, Array.getElem?_setIfInBounds_self_of_lt hp]; rfl
    · have h1 := this.1
      rw [Array.getD_eq_getD_getElem?, Array.getElem?_eq_none (by omega)] at h1
      cases h1
theorem FrJ.allocd (h : FrJ c p m s B W H n cells l vals w) (hd : m ≠ c ∧ m ≠ p ∧ m ≠ s) (hm : l.getD m false = false) (hB : B ≤ w.heap.size) :
    FrJ c p m s B W H n cells (l.setIfInBounds m true) (upd vals m (.pointer (some ⟨w.heap.size, 0, none⟩))) (w.alloc (.cells #[.int .i64 0, .int .i64 0, .slice none 0 0] 37)) := by
  obtain ⟨d1, d2, d3⟩ := hd
  have h' := h.ext (ext_alloc w (.cells #[.int .i64 0, .int .i64 0, .slice none 0 0] 37))
  have e1 : upd vals m (.pointer (some ⟨w.heap.size, 0, none⟩)) c = vals c := upd_ne (Ne.symm d1)
  have e2 : upd vals m (.pointer (some ⟨w.heap.size, 0, none⟩)) p = vals p := upd_ne (Ne.symm d2)
  have hs : ∀ q : Prop, l.getD s false = true → q := fun q k => by
    have := (h.cl k).2
    rw [hm] at this; cases this
  refine ⟨fun k => ?_, fun k => ?_, fun _ => ⟨w.heap.size, _, upd_same _ _ _, hB, Row.new w 37 [.int .i64 0, .int .i64 0, .slice none 0 0], rfl, fun k => ?_⟩, fun k => ?_⟩
  · rw [lst_ne d1] at k; rw [e1]; exact h'.call k
  · rw [lst_ne d2] at k; rw [lst_ne d1, e1, e2]; exact h'.pic k
  · rw [lst_ne d3] at k; exact hs _ k
  · rw [lst_ne d3] at k; exact hs _ k
theorem FrJ.stored (h : FrJ c p m s B W H n cells l vals w) (hd : s ≠ c ∧ s ≠ p ∧ s ≠ m) (hc : l.getD c false = true) {g : Nat} (hm : l.getD m false = true) (hg : vals m = .pointer (some ⟨g, 0, none⟩)) (hp : l.getD p false = true) (v : Value) {cs : List Value} (hr : Row w g 37 cs) (hl : cs.length = 3) :
    FrJ c p m s B W H n cells (l.setIfInBounds s true) (upd vals s v) (((w.setCell ⟨g, 0, none⟩ (.int .i64 W)).setCell ⟨g, 1, none⟩ (.int .i64 H)).setCell ⟨g, 2, none⟩ (vals c)) := by
  obtain ⟨d1, d2, d3⟩ := hd
  have hg2 : w.grownBy (((w.setCell ⟨g, 0, none⟩ (.int .i64 W)).setCell ⟨g, 1, none⟩ (.int .i64 H)).setCell ⟨g, 2, none⟩ (vals c)) (some g) := sets3 w g 0 _ _ _
  have e1 : upd vals s v c = vals c := upd_ne (Ne.symm d1)
  have e2 : upd vals s v p = vals p := upd_ne (Ne.symm d2)
  have e3 : upd vals s v m = vals m := upd_ne (Ne.symm d3)
  refine ⟨fun _ => ?_, fun k => ?_, fun _ => ?_, fun _ => ⟨by rw [lst_ne d2]; exact hp, by rw [lst_ne d3]; exact hm⟩⟩
  · rw [e1]
    obtain ⟨A, cap, h1, h2⟩ := h.call hc
    exact ⟨A, cap, h1, h2.keptB hr (by decide) hg2⟩
  · rw [lst_ne d2] at k; rw [lst_ne d1, e1, e2]; exact h.pic k
  · rw [e1, e3]
    obtain ⟨g', _, h1, h2, _⟩ := h.mem hm
    rw [hg] at h1
    obtain rfl : g = g' := by injection h1 with h; injection h with h; injection h with h _ _
    match cs, hl with
    | [a, b, d], _ => exact ⟨g, _, hg, h2, ((hr.set_ 0 _).set_ 1 _).set_ 2 _, rfl, fun _ => rfl⟩
end
end Go.Proofs.YtagmnbphbakikaaGreat
namespace Go.Proofs.YtagmnbphbakikaaGreat
open Go Go.RowKit Reg
attribute [local go_sem] calmAt calmUpon
theorem slok_some {ad : Addr} {n : Nat} (h : n ≤ 1048576) : SlOk (some ad) n n := ⟨fun h => (by cases h), Nat.le_refl _, by unfold maxLen; omega⟩
end Go.Proofs.YtagmnbphbakikaaGreat
namespace Go.Proofs.YtagmnbphbakikaaGreat
open Go Go.RowKit Reg
attribute [local go_sem] calmAt calmUpon
/-- The tiles of a row of what workers drew. -/
def tpixD (W H : Int) (fs : List FlD) (ds : List Pt) (cs : List Bx4) : List Bx4 := ds.foldl (fun cs d => tpix W H fs d.2 cs) cs
theorem tpixD_len (W H : Int) (fs : List FlD) : ∀ (ds : List Pt) (cs : List Bx4), (tpixD W H fs ds cs).length = cs.length
  | [], _ => rfl
  | d :: ds, cs => by
    show (tpixD W H fs ds (tpix W H fs d.2 cs)).length = _
    rw [tpixD_len W H fs ds, tpix_len]
theorem tpixD_take (W H : Int) (fs : List FlD) {ds : List Pt} {k : Nat} (hk : k < ds.length) (cs : List Bx4) : tpixD W H fs (ds.take (k + 1)) cs = tpix W H fs ds[k].2 (tpixD W H fs (ds.take k) cs) := by
  unfold tpixD
  rw [List.take_succ_eq_append_getElem hk, List.foldl_append]; rfl
theorem tpixD_zero (W H : Int) (fs : List FlD) (cs : List Bx4) (ds : List Pt) : tpixD W H fs (ds.take 0) cs = cs := by simp [tpixD]
theorem tpixD_all (W H : Int) (fs : List FlD) (cs : List Bx4) {ds : List Pt} {k : Nat} (h : k = ds.length) : tpixD W H fs (ds.take k) cs = tpixD W H fs ds cs := by subst h; rw [List.take_length]
def dwR (W H : Int) (fs : List FlD) (wk : Int) (sc : List Pt) : (Int × Int × List Bx4) × Bool :=
  if scB W H fs && wvB wk sc then ((W, H, tpixD W H fs (workL wk.toNat (tilesL W H).toNat sc) (blankL (W * H).toNat)), true) else noFr
theorem dwR_len (W H : Int) (fs : List FlD) (wk : Int) (sc : List Pt) : (dwR W H fs wk sc).1.2.2.length ≤ 1048576 := by
  unfold dwR noFr
  split
  · rename_i h
    simp only [Bool.and_eq_true] at h
    have hs := scB_sz h.1
    have := mul_12 hs.1 hs.2
    rw [tpixD_len, blankL_len]
    omega
  · simp
set_option maxRecDepth 100000 in
set_option maxHeartbeats 8000000 in
theorem c_sDrawWorkers (W H : Int) (As : Option Addr) (scap : Nat) (fs : List FlD) (wk : Int) (At : Option Addr) (tcap : Nat) (sc : List Pt) (w : World) (hf : Fls w As fs) (hi : Pts w At sc) (hsm : flsSm fs) (htl : sc.length ≤ 1048576) :
    Calls Tryz.prog 19 #[.agg #[.int .i64 W, .int .i64 H, .slice As fs.length scap], .int .i64 wk, .slice At sc.length tcap] w fun e w' => RetFr w (dwR W H fs wk sc) e w' := by
  have Q := Lib.hid hf
  have QW := Lib.hid hf
  have I := Lib.hid hi
  have Hsm := Lib.hid hsm
  have E := Lib.hid (Below.refl w.heap.size w)
  obtain ⟨d1, hd1⟩ : ∃ d, scB W H fs = d := ⟨_, rfl⟩
  obtain ⟨d3, hd3⟩ : ∃ d, wvB wk sc = d := ⟨_, rfl⟩
  obtain ⟨M, hM⟩ : ∃ M, dwR W H fs wk sc = M := ⟨_, rfl⟩
  have HM : Hid (M = if d1 && d3 then ((W, H, tpixD W H fs (workL wk.toNat (tilesL W H).toNat sc) (blankL (W * H).toNat)), true) else noFr) := Lib.hid (by rw [← hM]; unfold dwR; rw [hd1, hd3])
  rw [hM]
  have H1 := Lib.hid hd1
  have H3 := Lib.hid hd3
  clear hf hi hsm hd1 hd3 hM
  go_enter Tryz.func19, Tryz.ntmps19
  go_wp2_with fail
  first | refine gen_calls ?_ | refine gen_code ?_ | refine gen_list ?_
  intro w0 hW
  obtain ⟨hb, hR0, hR4⟩ := new2 hW
  clear hW
  replace E := Lib.hid (Ext.trans E.out hb)
  replace Q := Lib.hid (Q.out.ext flR_stab hb)
  replace I := Lib.hid (I.out.ext ptR_stab hb)
  clear hb
  have R0 := Lib.hid hR0
  have lR0 := R0.out.lt
  clear hR0
  have R4 := Lib.hid hR4
  have lR4 := R4.out.lt
  clear hR4
  have s0 := R0.out.cell_of (i := 0) rfl
  have s1 := R0.out.cell_of (i := 1) rfl
  have s2 := R0.out.cell_of (i := 2) rfl
  have r0 := R4.out.cell_of (i := 0) rfl
  have zr0 := R4.out.frozen 0
  have r1 := R4.out.cell_of (i := 1) rfl
  have zr1 := R4.out.frozen 1
  have r2 := R4.out.cell_of (i := 2) rfl
  have zr2 := R4.out.frozen 2
  go_wp2_with fail
  clear s0 s1 s2 r0 zr0 r1 zr1 r2 zr2
  refine (c_sValidScene W H As scap fs _ Q.out Hsm.out).mono ?_
  rw [H1.out]
  rintro e w1 ⟨rfl, hb⟩
  replace E := Lib.hid (Ext.trans E.out hb)
  replace Q := Lib.hid (Q.out.ext flR_stab hb)
  replace I := Lib.hid (I.out.ext ptR_stab hb)
  replace R0 := Lib.hid (R0.out.ext hb)
  have lR0 := R0.out.lt
  replace R4 := Lib.hid (R4.out.ext hb)
  have lR4 := R4.out.lt
  clear hb
  have s0 := R0.out.cell_of (i := 0) rfl
  have s1 := R0.out.cell_of (i := 1) rfl
  have s2 := R0.out.cell_of (i := 2) rfl
  have r0 := R4.out.cell_of (i := 0) rfl
  have zr0 := R4.out.frozen 0
  have r1 := R4.out.cell_of (i := 1) rfl
  have zr1 := R4.out.frozen 1
  have r2 := R4.out.cell_of (i := 2) rfl
  have zr2 := R4.out.frozen 2
  cases d1
  · have hz : M = noFr := by rw [HM.out]; simp
    subst hz
    go_wp2
    exact bodyPost_ret (v := .tuple #[frV 0 0 none 0 0, .bool false]) (by simp [results, Tryz.results19, go_sem, r0, r1, r2]) rfl (RetFr.no (set3_below E.out (by omega) _ _ _))
  · obtain ⟨hW, hH⟩ := scB_sz H1.out
    have htb := tl_9 hW hH
    have hp := mul_12 hW hH
    obtain ⟨n, hn⟩ : ∃ n : Nat, W * H = (n : Int) := ⟨(W * H).toNat, by omega⟩
    obtain ⟨nt, hnt⟩ : ∃ nt : Nat, tilesL W H = (nt : Int) := ⟨(tilesL W H).toNat, by omega⟩
    have Hn := Lib.hid hn
    have Hnt := Lib.hid hnt
    have hn144 : n ≤ 144 := by omega
    have hnt9 : nt ≤ 9 := by omega
    have HMn : Hid (M = if d3 then ((W, H, tpixD W H fs (workL wk.toNat nt sc) (blankL n)), true) else noFr) := Lib.hid (by rw [HM.out, hn, hnt, Int.toNat_natCast, Int.toNat_natCast]; simp)
    have HOK := Lib.hid (scB_all H1.out)
    have HL4 := scB_le H1.out
    clear hn hp hnt htb
    go_wp2_with fail
    refine (c_validTurns wk At tcap sc _ I.out (by omega)).mono ?_
    rw [H3.out]
    rintro e w' ⟨rfl, rfl⟩
    cases d3
    · have hz : M = noFr := by rw [HMn.out]; simp
      subst hz
      go_wp2
      exact bodyPost_ret (v := .tuple #[frV 0 0 none 0 0, .bool false]) (by simp [results, Tryz.results19, go_sem, r0, r1, r2]) rfl (RetFr.no (set3_below E.out (by omega) _ _ _))
    · have Hz : Hid (M = ((W, H, tpixD W H fs (workL wk.toNat nt sc) (blankL n)), true)) := Lib.hid (by rw [HMn.out]; simp)
      obtain ⟨⟨hk1, hk4⟩, hs30, hsok⟩ := wvB_sc H3.out
      obtain ⟨wn, rfl⟩ : ∃ wn : Nat, wk = (wn : Int) := ⟨wk.toNat, by omega⟩
      rw [Int.toNat_natCast] at Hz hsok
      have Hall : Hid (∀ d ∈ workL wn nt sc, tlB W H d.2 = true) := Lib.hid (fun d hd => by
        have hp := workL_perm (W := wn) (n := nt) (sc := sc) (by omega) (by omega) (by omega) hsok hs30
        have h1 : d.2 ∈ (workL wn nt sc).map (·.2) := List.mem_map.2 ⟨d, hd, rfl⟩
        obtain ⟨j, hj, he⟩ := List.mem_map.1 ((hp.mem_iff).1 h1)
        have hj2 := List.mem_range.1 hj
        rw [tl_in hW hH, Hnt.out]
        exact inB_iff.2 (by omega))
      have Hok := Lib.hid hsok
      have KW := Lib.hid (fun A c Wd (h : Pts Wd A sc) => c_run nt wn A c sc Wd h (by omega) (by omega) (by omega) (by omega) hsok)
      have hdl : (workL wn nt sc).length ≤ 16 := by rw [workL_len (W := wn) (n := nt) (sc := sc) (by omega) (by omega) (by omega) hsok hs30]; omega
      obtain ⟨ds, hds⟩ : ∃ ds, workL wn nt sc = ds := ⟨_, rfl⟩
      rw [hds] at Hz Hall KW hdl
      clear hds hsok
      have hz1 : w.heap.size ≤ w1.heap.size := E.out.size
      go_wp2_with fail
      clear s0 s1 s2 r0 zr0 r1 zr1 r2 zr2
      refine (c_sblank W H n _ Hn.out hW hH).mono ?_
      rintro e w2 ⟨A2, rfl, ho2, hb⟩
      replace E := Lib.hid (Ext.trans E.out hb)
      replace Q := Lib.hid (Q.out.ext flR_stab hb)
      replace I := Lib.hid (I.out.ext ptR_stab hb)
      replace R0 := Lib.hid (R0.out.ext hb)
      have lR0 := R0.out.lt
      replace R4 := Lib.hid (R4.out.ext hb)
      have lR4 := R4.out.lt
      clear hb
      have O := Lib.hid (ho2)
      clear ho2
      have s0 := R0.out.cell_of (i := 0) rfl
      have s1 := R0.out.cell_of (i := 1) rfl
      have s2 := R0.out.cell_of (i := 2) rfl
      have r0 := R4.out.cell_of (i := 0) rfl
      have zr0 := R4.out.frozen 0
      have r1 := R4.out.cell_of (i := 1) rfl
      have zr1 := R4.out.frozen 1
      have r2 := R4.out.cell_of (i := 2) rfl
      have zr2 := R4.out.frozen 2
      have HZ2 := Lib.hid (E.out.size : w.heap.size ≤ w2.heap.size)
      have HZL := Lib.hid (show w.heap.size + 1 < w2.heap.size from R4.out.lt)
      go_wp2_with fail
      clear s0 s1 s2 r0 zr0 r1 zr1 r2 zr2
      first | refine gen_calls ?_ | refine gen_code ?_ | refine gen_list ?_
      intro w3 hW
      obtain ⟨hb, hR6⟩ := new1 hW
      clear hW
      replace E := Lib.hid (Ext.trans E.out hb)
      replace Q := Lib.hid (Q.out.ext flR_stab hb)
      replace I := Lib.hid (I.out.ext ptR_stab hb)
      replace R0 := Lib.hid (R0.out.ext hb)
      have lR0 := R0.out.lt
      replace R4 := Lib.hid (R4.out.ext hb)
      have lR4 := R4.out.lt
      replace O := Lib.hid (own_ext O.out hb)
      clear hb
      have R6 := Lib.hid hR6
      have lR6 := R6.out.lt
      clear hR6
      have s0 := R0.out.cell_of (i := 0) rfl
      have s1 := R0.out.cell_of (i := 1) rfl
      have s2 := R0.out.cell_of (i := 2) rfl
      have r0 := R4.out.cell_of (i := 0) rfl
      have zr0 := R4.out.frozen 0
      have r1 := R4.out.cell_of (i := 1) rfl
      have zr1 := R4.out.frozen 1
      have r2 := R4.out.cell_of (i := 2) rfl
      have zr2 := R4.out.frozen 2
      replace O := Lib.hid (O.out.rebase hz1)
      have HZ3 := Lib.hid (E.out.size : w.heap.size ≤ w3.heap.size)
      have KT2 := Lib.hid (fun Wd => c_tiles W H Wd hW hH)
      rw [Hnt.out] at KT2
      go_wp2_with fail
      refine (KT2.out _).mono ?_
      rintro e w' ⟨rfl, rfl⟩
      go_wp2_with fail
      clear s0 s1 s2 r0 zr0 r1 zr1 r2 zr2
      refine (KW.out At tcap _ I.out).mono ?_
      rintro e wd ⟨Ad, dcap, rfl, hod, hb⟩
      replace E := Lib.hid (Ext.trans E.out hb)
      replace Q := Lib.hid (Q.out.ext flR_stab hb)
      replace I := Lib.hid (I.out.ext ptR_stab hb)
      replace R0 := Lib.hid (R0.out.ext hb)
      have lR0 := R0.out.lt
      replace R4 := Lib.hid (R4.out.ext hb)
      have lR4 := R4.out.lt
      replace O := Lib.hid (own_ext O.out hb)
      replace R6 := Lib.hid (R6.out.ext hb)
      have lR6 := R6.out.lt
      clear hb
      have OD := Lib.hid (hod)
      clear hod
      have s0 := R0.out.cell_of (i := 0) rfl
      have s1 := R0.out.cell_of (i := 1) rfl
      have s2 := R0.out.cell_of (i := 2) rfl
      have r0 := R4.out.cell_of (i := 0) rfl
      have zr0 := R4.out.frozen 0
      have r1 := R4.out.cell_of (i := 1) rfl
      have zr1 := R4.out.frozen 1
      have r2 := R4.out.cell_of (i := 2) rfl
      have zr2 := R4.out.frozen 2
      replace OD := Lib.hid (OD.out.rebase HZ3.out)
      clear s0 s1 s2 r0 zr0 r1 zr1 r2 zr2
      go_wp2_with fail
      go_loopw [10] (fun i wr => ∃ (k : Nat) (A' : Option Addr) (cap' : Nat) (xs : List Bx4), k ≤ ds.length ∧ i = .int .i64 k ∧ xs = tpixD W H fs (ds.take k) (blankL n) ∧ xs.length = n ∧ Has wr w.heap.size 118 4 (.slice A' n cap') n (xs.flatMap bxC) ∧ Row wr w2.heap.size 37 [.int .i64 W, .int .i64 H, .slice A' n cap'] ∧ Row wr w.heap.size 42 [.int .i64 W, .int .i64 H, .slice As fs.length scap] ∧ Row wr (w.heap.size + 1) 37 [.int .i64 0, .int .i64 0, .slice none 0 0] ∧ Has wr w.heap.size 99 2 (.slice Ad ds.length dcap) ds.length (ds.flatMap ptC) ∧ Below w.heap.size w wr) (fun i _ => ds.length - (intOf i).toNat)
      case atStart => exact ⟨0, A2, n, blankL n, Nat.zero_le _, rfl, (tpixD_zero W H fs _ ds).symm, blankL_len n, O.out, R6.out, R0.out, R4.out, OD.out, E.out⟩
      case round =>
        obtain ⟨k, A', cap', xs, hk, rfl, hxs, hxl, hor, hr6, hr0, hr4, hod, hbw⟩ := hrel
        clear O E R0 R4 R6 OD
        have O := Lib.hid hor
        have E := Lib.hid hbw
        have R0 := Lib.hid hr0
        have R4 := Lib.hid hr4
        have R6 := Lib.hid hr6
        have OD := Lib.hid hod
        have Hxs := Lib.hid hxs
        have Hxl := Lib.hid hxl
        have hzr : w.heap.size ≤ wr.heap.size := hbw.size
        have hzw : w.heap.size ≤ w2.heap.size := HZ2.out
        have hzl := HZL.out
        have hne : w2.heap.size ≠ w.heap.size + 1 := by omega
        have hne0 : w2.heap.size ≠ w.heap.size := by omega
        clear hor hbw hr0 hr4 hr6 hxs hxl hod
        by_cases hlt : k < ds.length
        · have hltI : decide ((k : Int) < (ds.length : Int)) = true := by simp; omega
          have hkI : (k : Int) < (ds.length : Int) := by omega
          have hk0 : (0 : Int) ≤ (k : Int) := by omega
          obtain ⟨bi, oi, hAt, _, hc⟩ := (show Pts wr Ad ds from own_in (R := ptR) (enc := ptC) ptC_len (by decide) OD.out (fun _ => rfl)).pts (by omega)
          obtain ⟨_, ci⟩ := hc k hlt
          have KT : Hid (∀ Wd, Fls Wd As fs → Cos Wd A' xs → Calls Tryz.prog 33 #[frV W H A' n cap', .agg #[.int .i64 W, .int .i64 H, .slice As fs.length scap], .int .i64 ds[k].2] Wd fun e w' => ∃ A'' cap'', e = .returned (frV W H A'' n cap'') ∧ Has w' Wd.heap.size 118 4 (.slice A'' n cap'') n ((tpixD W H fs (ds.take (k + 1)) (blankL n)).flatMap bxC) ∧ Below Wd.heap.size Wd w') := Lib.hid (fun Wd h1 h2 => by
            have h := c_tilePixels W H A' cap' xs As scap fs ds[k].2 Wd h1 h2 (by rw [Hxl.out]; exact Hn.out.symm) HOK.out HL4 hW hH (Hall.out _ (List.getElem_mem hlt))
            rw [Hxl.out] at h
            rw [tpixD_take W H fs hlt, ← Hxs.out]
            exact h)
          have KC : Hid (Cos wr A' xs) := Lib.hid (by have h := O.out; rw [← Hxl.out] at h; exact cos_own h)
          have Hl2 : Hid ((tpixD W H fs (ds.take (k + 1)) (blankL n)).length = n) := Lib.hid (by rw [tpixD_len, blankL_len])
          generalize hS : tpixD W H fs (ds.take (k + 1)) (blankL n) = S at *
          have HS := Lib.hid hS
          generalize ds[k] = t at *
          clear hc hS
          obtain ⟨t1, t⟩ := t
          dsimp only at ci
          have Ci := Lib.hid ci
          have HAd := Lib.hid hAt
          subst hAt
          have s0 := R0.out.cell_of (i := 0) rfl
          have s1 := R0.out.cell_of (i := 1) rfl
          have s2 := R0.out.cell_of (i := 2) rfl
          have m0 := R6.out.cell_of (i := 0) rfl
          have m1 := R6.out.cell_of (i := 1) rfl
          have m2 := R6.out.cell_of (i := 2) rfl
          go_wp2_with fail
          refine wp_region_calm [0,1,2,3,4,5,6] [7,8] (by kernel_rfl) (by kernel_rfl) ?_
          iterate 7 ((refine calm_yes rfl rfl (fun w' hC => (by have s0 := hC.cell s0; have s1 := hC.cell s1; have s2 := hC.cell s2; have m0 := hC.cell m0; have m1 := hC.cell m1; have m2 := hC.cell m2; have ci := hC.cell ci; go_simp; rfl)) (fun K hK => ?_); go_simp; refine hK _ ?_; clear hK K))
          refine calm_nil (fun wa hCa => ?_)
          clear s0 s1 s2 m0 m1 m2
          clear ci
          have Ea := ext_cls hCa
          refine late_fn rfl rfl rfl Tryz.func33 (by kernel_rfl) rfl (by go_simp) (fun wb hxb K hK => (KT.out wb (QW.out.ext flR_stab (Ext.trans (Ext.trans E.out Ea) hxb)) (KC.out.ext coR_stab (Ext.trans Ea hxb))).mono ?_)
          rintro e wc ⟨A9, cap9, rfl, ho9, hb⟩
          refine ⟨_, rfl, hK _ _ ⟨fun _ => Cls.ext (Cls.ext hCa hxb) hb, ?_⟩⟩
          clear hK K
          refine late_free (by kernel_rfl) rfl rfl (fun wf hxf K hK => ?_)
          have Ex := Ext.trans (Ext.trans Ea hxb) (Ext.trans hb hxf)
          have Rf := R6.out.ext Ex
          have e0 := Rf.cell_of (i := 0) rfl
          have z0 := Rf.frozen 0
          have q1 := Rf.set_ 0 (.int .i64 W)
          have e1 := q1.cell_of (i := 1) rfl
          have z1 := q1.frozen 1
          have q2 := q1.set_ 1 (.int .i64 H)
          have e2 := q2.cell_of (i := 2) rfl
          have z2 := q2.frozen 2
          go_simp
          refine hK _ _ ?_
          clear hK K e0 e1 e2 z0 z1 z2
          refine late_nil (fun wz hxz => ?_)
          have hg := sets3 wf w2.heap.size 0 (.int .i64 W) (.int .i64 H) (.slice A9 n cap9)
          have O2 := Lib.hid (own_ext (((own_ext ho9 hxf).rebase (Nat.le_trans hzr (Ext.trans Ea hxb).size)).keptB Rf (by decide) hg) hxz)
          have R62 := Lib.hid ((q2.set_ 2 (.slice A9 n cap9)).ext hxz)
          have R02 := Lib.hid (((R0.out.ext Ex).keptG hg (Ne.symm hne0)).ext hxz)
          have R42 := Lib.hid (((R4.out.ext Ex).keptG hg (Ne.symm hne)).ext hxz)
          have OD2 := Lib.hid (own_ext ((own_ext OD.out Ex).keptB Rf (by decide) hg) hxz)
          have E2 := Lib.hid (Ext.trans (below_set (Ext.trans E.out Ex) hg hzw (Ext.trans E.out Ex).size) hxz)
          clear q1 q2 Rf hg ho9 hxz hxf hb hxb hCa Ea Ex
          go_wp2
          go_roundw
          case rel => exact ⟨k + 1, A9, cap9, S, by omega, by go_num, HS.out.symm, Hl2.out, O2.out, R62.out, R02.out, R42.out, OD2.out, E2.out⟩
          case measure => simp [intOf]; omega
        · obtain rfl : k = ds.length := by omega
          have hltI : decide ((ds.length : Int) < (ds.length : Int)) = false := by simp
          have Hf : Hid (M = ((W, H, xs), true)) := Lib.hid (by rw [Hz.out, Hxs.out, tpixD_all W H fs _ rfl])
          have hz := Hf.out
          subst hz
          clear Hz Hf HM HMn
          have m0 := R6.out.cell_of (i := 0) rfl
          have m1 := R6.out.cell_of (i := 1) rfl
          have m2 := R6.out.cell_of (i := 2) rfl
          have r0 := R4.out.cell_of (i := 0) rfl
          have zr0 := R4.out.frozen 0
          have r1 := R4.out.cell_of (i := 1) rfl
          have zr1 := R4.out.frozen 1
          have r2 := R4.out.cell_of (i := 2) rfl
          have zr2 := R4.out.frozen 2
          go_wp2
          clear m0 m1 m2 r0 zr0 r1 zr1 r2 zr2
          refine gen_post (fun Wd hW3 => ?_)
          have hg2 : wr.grownBy Wd (some (w.heap.size + 1)) := by rw [hW3]; exact sets3 wr _ 0 _ _ _
          have D := R4.out
          have D2 : Row Wd (w.heap.size + 1) 37 [.int .i64 W, .int .i64 H, .slice A' n cap'] := by
            rw [hW3]; exact ((D.set_ 0 _).set_ 1 _).set_ 2 _
          have y0 := D2.cell_of (i := 0) rfl
          have y1 := D2.cell_of (i := 1) rfl
          have y2 := D2.cell_of (i := 2) rfl
          have O9 := O.out.keptB D (by decide) hg2
          have E9 := below_set E.out hg2 (by omega) E.out.size
          refine bodyPost_ret (v := .tuple #[frV W H A' n cap', .bool true]) (by simp [results, Tryz.results19, go_sem, y0, y1, y2]) rfl ⟨A', cap', ?_, ?_, E9⟩
          · dsimp only; rw [Hxl.out]
          · dsimp only; rw [Hxl.out]; exact O9
set_option maxRecDepth 100000 in
set_option maxHeartbeats 8000000 in
theorem c_iDrawWorkers (W H : Int) (As : Option Addr) (scap : Nat) (fs : List FlD) (wk : Int) (At : Option Addr) (tcap : Nat) (sc : List Pt) (w : World) (hf : Fls w As fs) (hi : Pts w At sc) (hsm : flsSm fs) (htl : sc.length ≤ 1048576) :
    Calls Tryz.prog 21 #[.agg #[.int .i64 W, .int .i64 H, .slice As fs.length scap], .int .i64 wk, .slice At sc.length tcap] w fun e w' => RetFr w (dwR W H fs wk sc) e w' := by
  have Q := Lib.hid hf
  have QW := Lib.hid hf
  have I := Lib.hid hi
  have Hsm := Lib.hid hsm
  have E := Lib.hid (Below.refl w.heap.size w)
  obtain ⟨d1, hd1⟩ : ∃ d, scB W H fs = d := ⟨_, rfl⟩
  obtain ⟨d3, hd3⟩ : ∃ d, wvB wk sc = d := ⟨_, rfl⟩
  obtain ⟨M, hM⟩ : ∃ M, dwR W H fs wk sc = M := ⟨_, rfl⟩
  have HM : Hid (M = if d1 && d3 then ((W, H, tpixD W H fs (workL wk.toNat (tilesL W H).toNat sc) (blankL (W * H).toNat)), true) else noFr) := Lib.hid (by rw [← hM]; unfold dwR; rw [hd1, hd3])
  rw [hM]
  have H1 := Lib.hid hd1
  have H3 := Lib.hid hd3
  clear hf hi hsm hd1 hd3 hM
  go_enter Tryz.func21, Tryz.ntmps21
  go_wp2_with fail
  first | refine gen_calls ?_ | refine gen_code ?_ | refine gen_list ?_
  intro w0 hW
  obtain ⟨hb, hR0, hR4⟩ := new2 hW
  clear hW
  replace E := Lib.hid (Ext.trans E.out hb)
  replace Q := Lib.hid (Q.out.ext flR_stab hb)
  replace I := Lib.hid (I.out.ext ptR_stab hb)
  clear hb
  have R0 := Lib.hid hR0
  have lR0 := R0.out.lt
  clear hR0
  have R4 := Lib.hid hR4
  have lR4 := R4.out.lt
  clear hR4
  have s0 := R0.out.cell_of (i := 0) rfl
  have s1 := R0.out.cell_of (i := 1) rfl
  have s2 := R0.out.cell_of (i := 2) rfl
  have r0 := R4.out.cell_of (i := 0) rfl
  have zr0 := R4.out.frozen 0
  have r1 := R4.out.cell_of (i := 1) rfl
  have zr1 := R4.out.frozen 1
  have r2 := R4.out.cell_of (i := 2) rfl
  have zr2 := R4.out.frozen 2
  go_wp2_with fail
  clear s0 s1 s2 r0 zr0 r1 zr1 r2 zr2
  refine (c_iValidScene W H As scap fs _ Q.out Hsm.out).mono ?_
  rw [H1.out]
  rintro e w1 ⟨rfl, hb⟩
  replace E := Lib.hid (Ext.trans E.out hb)
  replace Q := Lib.hid (Q.out.ext flR_stab hb)
  replace I := Lib.hid (I.out.ext ptR_stab hb)
  replace R0 := Lib.hid (R0.out.ext hb)
  have lR0 := R0.out.lt
  replace R4 := Lib.hid (R4.out.ext hb)
  have lR4 := R4.out.lt
  clear hb
  have s0 := R0.out.cell_of (i := 0) rfl
  have s1 := R0.out.cell_of (i := 1) rfl
  have s2 := R0.out.cell_of (i := 2) rfl
  have r0 := R4.out.cell_of (i := 0) rfl
  have zr0 := R4.out.frozen 0
  have r1 := R4.out.cell_of (i := 1) rfl
  have zr1 := R4.out.frozen 1
  have r2 := R4.out.cell_of (i := 2) rfl
  have zr2 := R4.out.frozen 2
  cases d1
  · have hz : M = noFr := by rw [HM.out]; simp
    subst hz
    go_wp2
    exact bodyPost_ret (v := .tuple #[frV 0 0 none 0 0, .bool false]) (by simp [results, Tryz.results21, go_sem, r0, r1, r2]) rfl (RetFr.no (set3_below E.out (by omega) _ _ _))
  · obtain ⟨hW, hH⟩ := scB_sz H1.out
    have htb := tl_9 hW hH
    have hp := mul_12 hW hH
    obtain ⟨n, hn⟩ : ∃ n : Nat, W * H = (n : Int) := ⟨(W * H).toNat, by omega⟩
    obtain ⟨nt, hnt⟩ : ∃ nt : Nat, tilesL W H = (nt : Int) := ⟨(tilesL W H).toNat, by omega⟩
    have Hn := Lib.hid hn
    have Hnt := Lib.hid hnt
    have hn144 : n ≤ 144 := by omega
    have hnt9 : nt ≤ 9 := by omega
    have HMn : Hid (M = if d3 then ((W, H, tpixD W H fs (workL wk.toNat nt sc) (blankL n)), true) else noFr) := Lib.hid (by rw [HM.out, hn, hnt, Int.toNat_natCast, Int.toNat_natCast]; simp)
    have HOK := Lib.hid (scB_all H1.out)
    have HL4 := scB_le H1.out
    have KC := Lib.hid (fun Wd => c_TileCount W H Wd)
    have hsz2 : (inB W 1 12 && inB H 1 12) = true := by rw [inB_iff.2 hW, inB_iff.2 hH]; rfl
    rw [hsz2, if_pos rfl, hnt] at KC
    have KV := Lib.hid (fun A c Wd (h : Pts Wd A sc) => c_workValid (nt : Int) wk A c sc Wd h (by omega))
    have hvn : (inB (nt : Int) 0 16 && wvB wk sc) = d3 := by rw [inB_iff.2 (by omega), H3.out]; simp
    rw [hvn] at KV
    clear hsz2 hvn
    clear hn hp hnt htb
    go_wp2_with fail
    refine (KC.out _).mono ?_
    rintro e w' ⟨rfl, rfl⟩
    go_wp2_with fail
    clear s0 s1 s2 r0 zr0 r1 zr1 r2 zr2
    refine (KV.out At tcap _ I.out).mono ?_
    rintro e wv ⟨rfl, hb⟩
    replace E := Lib.hid (Ext.trans E.out hb)
    replace Q := Lib.hid (Q.out.ext flR_stab hb)
    replace I := Lib.hid (I.out.ext ptR_stab hb)
    replace R0 := Lib.hid (R0.out.ext hb)
    have lR0 := R0.out.lt
    replace R4 := Lib.hid (R4.out.ext hb)
    have lR4 := R4.out.lt
    clear hb
    have s0 := R0.out.cell_of (i := 0) rfl
    have s1 := R0.out.cell_of (i := 1) rfl
    have s2 := R0.out.cell_of (i := 2) rfl
    have r0 := R4.out.cell_of (i := 0) rfl
    have zr0 := R4.out.frozen 0
    have r1 := R4.out.cell_of (i := 1) rfl
    have zr1 := R4.out.frozen 1
    have r2 := R4.out.cell_of (i := 2) rfl
    have zr2 := R4.out.frozen 2
    cases d3
    · have hz : M = noFr := by rw [HMn.out]; simp
      subst hz
      go_wp2
      exact bodyPost_ret (v := .tuple #[frV 0 0 none 0 0, .bool false]) (by simp [results, Tryz.results21, go_sem, r0, r1, r2]) rfl (RetFr.no (set3_below E.out (by omega) _ _ _))
    · have Hz : Hid (M = ((W, H, tpixD W H fs (workL wk.toNat nt sc) (blankL n)), true)) := Lib.hid (by rw [HMn.out]; simp)
      obtain ⟨⟨hk1, hk4⟩, hs30, hsok⟩ := wvB_sc H3.out
      obtain ⟨wn, rfl⟩ : ∃ wn : Nat, wk = (wn : Int) := ⟨wk.toNat, by omega⟩
      rw [Int.toNat_natCast] at Hz hsok
      have Hall : Hid (∀ d ∈ workL wn nt sc, tlB W H d.2 = true) := Lib.hid (fun d hd => by
        have hp := workL_perm (W := wn) (n := nt) (sc := sc) (by omega) (by omega) (by omega) hsok hs30
        have h1 : d.2 ∈ (workL wn nt sc).map (·.2) := List.mem_map.2 ⟨d, hd, rfl⟩
        obtain ⟨j, hj, he⟩ := List.mem_map.1 ((hp.mem_iff).1 h1)
        have hj2 := List.mem_range.1 hj
        rw [tl_in hW hH, Hnt.out]
        exact inB_iff.2 (by omega))
      have Hok := Lib.hid hsok
      have KW := Lib.hid (fun A c Wd (h : Pts Wd A sc) => c_work nt wn A c sc Wd h (by omega) (by omega) (by omega) (by omega) hsok)
      have hdl : (workL wn nt sc).length ≤ 16 := by rw [workL_len (W := wn) (n := nt) (sc := sc) (by omega) (by omega) (by omega) hsok hs30]; omega
      obtain ⟨ds, hds⟩ : ∃ ds, workL wn nt sc = ds := ⟨_, rfl⟩
      rw [hds] at Hz Hall KW hdl
      clear hds hsok
      have hz1 : w.heap.size ≤ wv.heap.size := E.out.size
      go_wp2_with fail
      clear s0 s1 s2 r0 zr0 r1 zr1 r2 zr2
      refine (c_iBlankFrame W H n _ Hn.out hW hH).mono ?_
      rintro e w2 ⟨A2, rfl, ho2, hb⟩
      replace E := Lib.hid (Ext.trans E.out hb)
      replace Q := Lib.hid (Q.out.ext flR_stab hb)
      replace I := Lib.hid (I.out.ext ptR_stab hb)
      replace R0 := Lib.hid (R0.out.ext hb)
      have lR0 := R0.out.lt
      replace R4 := Lib.hid (R4.out.ext hb)
      have lR4 := R4.out.lt
      clear hb
      have O := Lib.hid (ho2)
      clear ho2
      have s0 := R0.out.cell_of (i := 0) rfl
      have s1 := R0.out.cell_of (i := 1) rfl
      have s2 := R0.out.cell_of (i := 2) rfl
      have r0 := R4.out.cell_of (i := 0) rfl
      have zr0 := R4.out.frozen 0
      have r1 := R4.out.cell_of (i := 1) rfl
      have zr1 := R4.out.frozen 1
      have r2 := R4.out.cell_of (i := 2) rfl
      have zr2 := R4.out.frozen 2
      have HZ2 := Lib.hid (E.out.size : w.heap.size ≤ w2.heap.size)
      have HZL := Lib.hid (show w.heap.size + 1 < w2.heap.size from R4.out.lt)
      go_wp2_with fail
      clear s0 s1 s2 r0 zr0 r1 zr1 r2 zr2
      first | refine gen_calls ?_ | refine gen_code ?_ | refine gen_list ?_
      intro w3 hW
      obtain ⟨hb, hR6⟩ := new1 hW
      clear hW
      replace E := Lib.hid (Ext.trans E.out hb)
      replace Q := Lib.hid (Q.out.ext flR_stab hb)
      replace I := Lib.hid (I.out.ext ptR_stab hb)
      replace R0 := Lib.hid (R0.out.ext hb)
      have lR0 := R0.out.lt
      replace R4 := Lib.hid (R4.out.ext hb)
      have lR4 := R4.out.lt
      replace O := Lib.hid (own_ext O.out hb)
      clear hb
      have R6 := Lib.hid hR6
      have lR6 := R6.out.lt
      clear hR6
      have s0 := R0.out.cell_of (i := 0) rfl
      have s1 := R0.out.cell_of (i := 1) rfl
      have s2 := R0.out.cell_of (i := 2) rfl
      have r0 := R4.out.cell_of (i := 0) rfl
      have zr0 := R4.out.frozen 0
      have r1 := R4.out.cell_of (i := 1) rfl
      have zr1 := R4.out.frozen 1
      have r2 := R4.out.cell_of (i := 2) rfl
      have zr2 := R4.out.frozen 2
      replace O := Lib.hid (O.out.rebase hz1)
      have HZ3 := Lib.hid (E.out.size : w.heap.size ≤ w3.heap.size)
      go_wp2_with fail
      refine (KC.out _).mono ?_
      rintro e w' ⟨rfl, rfl⟩
      go_wp2_with fail
      clear s0 s1 s2 r0 zr0 r1 zr1 r2 zr2
      refine (KW.out At tcap _ I.out).mono ?_
      rintro e wd ⟨Ad, dcap, rfl, hod, hb⟩
      replace E := Lib.hid (Ext.trans E.out hb)
      replace Q := Lib.hid (Q.out.ext flR_stab hb)
      replace I := Lib.hid (I.out.ext ptR_stab hb)
      replace R0 := Lib.hid (R0.out.ext hb)
      have lR0 := R0.out.lt
      replace R4 := Lib.hid (R4.out.ext hb)
      have lR4 := R4.out.lt
      replace O := Lib.hid (own_ext O.out hb)
      replace R6 := Lib.hid (R6.out.ext hb)
      have lR6 := R6.out.lt
      clear hb
      have OD := Lib.hid (hod)
      clear hod
      have s0 := R0.out.cell_of (i := 0) rfl
      have s1 := R0.out.cell_of (i := 1) rfl
      have s2 := R0.out.cell_of (i := 2) rfl
      have r0 := R4.out.cell_of (i := 0) rfl
      have zr0 := R4.out.frozen 0
      have r1 := R4.out.cell_of (i := 1) rfl
      have zr1 := R4.out.frozen 1
      have r2 := R4.out.cell_of (i := 2) rfl
      have zr2 := R4.out.frozen 2
      replace OD := Lib.hid (OD.out.rebase HZ3.out)
      clear s0 s1 s2 r0 zr0 r1 zr1 r2 zr2
      go_wp2_with fail
      go_loopw [10, 40] (fun _ i wr => ∃ (k : Nat) (xs : List Bx4), k ≤ ds.length ∧ i = .int .i64 k ∧ xs = tpixD W H fs (ds.take k) (blankL n) ∧ xs.length = n ∧ Has wr w.heap.size 118 4 (.slice A2 n n) n (xs.flatMap bxC) ∧ Row wr w2.heap.size 37 [.int .i64 W, .int .i64 H, .slice A2 n n] ∧ Row wr w.heap.size 42 [.int .i64 W, .int .i64 H, .slice As fs.length scap] ∧ Row wr (w.heap.size + 1) 37 [.int .i64 0, .int .i64 0, .slice none 0 0] ∧ Has wr w.heap.size 99 2 (.slice Ad ds.length dcap) ds.length (ds.flatMap ptC) ∧ Below w.heap.size w wr) (fun _ i _ => ds.length - (intOf i).toNat)
      case atStart => exact ⟨0, blankL n, Nat.zero_le _, rfl, (tpixD_zero W H fs _ ds).symm, blankL_len n, O.out, R6.out, R0.out, R4.out, OD.out, E.out⟩
      case round =>
        obtain ⟨k, xs, hk, rfl, hxs, hxl, hor, hr6, hr0, hr4, hod, hbw⟩ := hrel
        clear O E R0 R4 R6 OD
        have O := Lib.hid hor
        have E := Lib.hid hbw
        have R0 := Lib.hid hr0
        have R4 := Lib.hid hr4
        have R6 := Lib.hid hr6
        have OD := Lib.hid hod
        have Hxs := Lib.hid hxs
        have Hxl := Lib.hid hxl
        have hzr : w.heap.size ≤ wr.heap.size := hbw.size
        clear hor hbw hr0 hr4 hr6 hxs hxl hod
        by_cases hlt : k < ds.length
        · have hltI : decide ((k : Int) < (ds.length : Int)) = true := by simp; omega
          have hkI : (k : Int) < (ds.length : Int) := by omega
          have hk0 : (0 : Int) ≤ (k : Int) := by omega
          obtain ⟨bi, oi, hAt, _, hc⟩ := (show Pts wr Ad ds from own_in (R := ptR) (enc := ptC) ptC_len (by decide) OD.out (fun _ => rfl)).pts (by omega)
          obtain ⟨ci0, ci⟩ := hc k hlt
          have KT : Hid (∀ Wd, Below w.heap.size w Wd → Has Wd w.heap.size 118 4 (.slice A2 n n) n (xs.flatMap bxC) → Calls Tryz.prog 41 #[frV W H A2 n n, .agg #[.int .i64 W, .int .i64 H, .slice As fs.length scap], .int .i64 ds[k].2] Wd fun e w' => e = .returned (.bool true) ∧ Has w' w.heap.size 118 4 (.slice A2 n n) n ((tpixD W H fs (ds.take (k + 1)) (blankL n)).flatMap bxC) ∧ Wd.grownBy w' (Value.slice A2 n n).ownBlock) := Lib.hid (fun Wd h1 h2 => by
            have h := c_fdraw W H A2 n xs As scap fs ds[k].2 w.heap.size w Wd QW.out h1 (Nat.le_refl _) (by rw [Hxl.out]; exact h2) (by rw [Hxl.out]; exact Hn.out.symm) HOK.out HL4 hW hH
            rw [Hxl.out, Hall.out _ (List.getElem_mem hlt)] at h
            rw [tpixD_take W H fs hlt, ← Hxs.out]
            exact h)
          have Hl2 : Hid ((tpixD W H fs (ds.take (k + 1)) (blankL n)).length = n) := Lib.hid (by rw [tpixD_len, blankL_len])
          generalize hS : tpixD W H fs (ds.take (k + 1)) (blankL n) = S at *
          have HS := Lib.hid hS
          generalize ds[k] = t at *
          clear hc hS
          obtain ⟨t1, t⟩ := t
          dsimp only at ci ci0
          subst hAt
          have lR0 := R0.out.lt
          have lR4 := R4.out.lt
          have lR6 := R6.out.lt
          have s0 := R0.out.cell_of (i := 0) rfl
          have s1 := R0.out.cell_of (i := 1) rfl
          have s2 := R0.out.cell_of (i := 2) rfl
          have m0 := R6.out.cell_of (i := 0) rfl
          have m1 := R6.out.cell_of (i := 1) rfl
          have m2 := R6.out.cell_of (i := 2) rfl
          go_wp2_with fail
          clear s0 s1 s2 m0 m1 m2
          first | refine gen_calls ?_ | refine gen_code ?_ | refine gen_list ?_
          intro w4 hW
          obtain ⟨hb, hRD⟩ := new1 hW
          clear hW
          replace E := Lib.hid (Ext.trans E.out hb)
          replace O := Lib.hid (own_ext O.out hb)
          replace R0 := Lib.hid (R0.out.ext hb)
          have lR0 := R0.out.lt
          replace R4 := Lib.hid (R4.out.ext hb)
          have lR4 := R4.out.lt
          replace R6 := Lib.hid (R6.out.ext hb)
          have lR6 := R6.out.lt
          replace OD := Lib.hid (own_ext OD.out hb)
          clear hb
          have RD := Lib.hid hRD
          have lRD := RD.out.lt
          clear hRD
          have s0 := R0.out.cell_of (i := 0) rfl
          have s1 := R0.out.cell_of (i := 1) rfl
          have s2 := R0.out.cell_of (i := 2) rfl
          have m0 := R6.out.cell_of (i := 0) rfl
          have m1 := R6.out.cell_of (i := 1) rfl
          have m2 := R6.out.cell_of (i := 2) rfl
          clear s0 s1 s2 m0 m1 m2
          clear ci ci0
          refine (KT.out _ E.out O.out).mono ?_
          rintro e w5 ⟨rfl, ho5, hg5⟩
          have hz4 : w.heap.size ≤ w4.heap.size := E.out.size
          replace R0 := Lib.hid (R0.out.grownNe O.out (by decide) hg5)
          replace R4 := Lib.hid (R4.out.grownNe O.out (by decide) hg5)
          replace R6 := Lib.hid (R6.out.grownNe O.out (by decide) hg5)
          replace OD := Lib.hid (OD.out.grownNe O.out (by decide) hg5)
          replace E := Lib.hid (own_below E.out O.out hg5 hz4)
          replace O := Lib.hid ho5
          clear ho5 hg5
          go_wp2
          go_roundw
          case rel => exact ⟨k + 1, S, by omega, by go_num, HS.out.symm, Hl2.out, O.out, R6.out, R0.out, R4.out, OD.out, E.out⟩
          case measure => simp [intOf]; omega
        · obtain rfl : k = ds.length := by omega
          have hltI : decide ((ds.length : Int) < (ds.length : Int)) = false := by simp
          have Hf : Hid (M = ((W, H, xs), true)) := Lib.hid (by rw [Hz.out, Hxs.out, tpixD_all W H fs _ rfl])
          have hz := Hf.out
          subst hz
          clear Hz Hf HM HMn
          have m0 := R6.out.cell_of (i := 0) rfl
          have m1 := R6.out.cell_of (i := 1) rfl
          have m2 := R6.out.cell_of (i := 2) rfl
          have r0 := R4.out.cell_of (i := 0) rfl
          have zr0 := R4.out.frozen 0
          have r1 := R4.out.cell_of (i := 1) rfl
          have zr1 := R4.out.frozen 1
          have r2 := R4.out.cell_of (i := 2) rfl
          have zr2 := R4.out.frozen 2
          go_wp2
          clear m0 m1 m2 r0 zr0 r1 zr1 r2 zr2
          refine gen_post (fun Wd hW3 => ?_)
          have hg2 : wr.grownBy Wd (some (w.heap.size + 1)) := by rw [hW3]; exact sets3 wr _ 0 _ _ _
          have D := R4.out
          have D2 : Row Wd (w.heap.size + 1) 37 [.int .i64 W, .int .i64 H, .slice A2 n n] := by
            rw [hW3]; exact ((D.set_ 0 _).set_ 1 _).set_ 2 _
          have y0 := D2.cell_of (i := 0) rfl
          have y1 := D2.cell_of (i := 1) rfl
          have y2 := D2.cell_of (i := 2) rfl
          have O9 := O.out.keptB D (by decide) hg2
          have E9 := below_set E.out hg2 (by omega) E.out.size
          refine bodyPost_ret (v := .tuple #[frV W H A2 n n, .bool true]) (by simp [results, Tryz.results21, go_sem, y0, y1, y2]) rfl ⟨A2, n, ?_, ?_, E9⟩
          · dsimp only; rw [Hxl.out]
          · dsimp only; rw [Hxl.out]; exact O9
end Go.Proofs.YtagmnbphbakikaaGreat
