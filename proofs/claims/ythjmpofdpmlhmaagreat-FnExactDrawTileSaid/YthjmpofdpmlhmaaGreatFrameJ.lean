/-
  A drawn region that makes a picture of a call's colors: the call, the picture, its memory and the store, in any order that binds.
-/
import Derived.Test.YthjmpofdpmlhmaaGreatFrameE
import Derived.Test.YthjmpofdpmlhmaaGreatRegionJ
namespace Go.Proofs.YthjmpofdpmlhmaaGreat
open Go Go.RowKit Reg
attribute [local go_sem] calmAt calmUpon
theorem lst_ne {l : Array Bool} {i j : Nat} (h : i ≠ j) : (l.setIfInBounds i true).getD j false = l.getD j false := getD_set_ne false h
/-- What is listed of the call (c), the picture (p), its memory (m) and the store (s). -/
structure FrJ (c p m s : Nat) (B : Nat) (W H : Int) (n : Nat) (cells : List Value) (l : Array Bool) (vals : Nat → Value) (w : World) : Prop where
  call : l.getD c false = true → ∃ A cap, vals c = .slice A n cap ∧ Has w B 63 4 (.slice A n cap) n cells
  pic : l.getD p false = true → l.getD c false = true ∧ vals p = .agg #[.int .i64 W, .int .i64 H, vals c]
  mem : l.getD m false = true → ∃ g cs, vals m = .pointer (some ⟨g, 0, none⟩) ∧ B ≤ g ∧ Row w g 32 cs ∧ cs.length = 3 ∧ (l.getD s false = true → cs = [.int .i64 W, .int .i64 H, vals c])
  cl : l.getD s false = true → l.getD p false = true ∧ l.getD m false = true
theorem FrJ.start {c p m s : Nat} {B : Nat} {W H : Int} {n : Nat} {cells : List Value} {l : Array Bool} {vals : Nat → Value} {w : World} (h1 : l.getD c false = false) (h2 : l.getD p false = false) (h3 : l.getD m false = false) (h4 : l.getD s false = false) : FrJ c p m s B W H n cells l vals w :=
  ⟨fun h => (by rw [h1] at h; cases h), fun h => (by rw [h2] at h; cases h), fun h => (by rw [h3] at h; cases h), fun h => (by rw [h4] at h; cases h)⟩
section
variable {c p m s : Nat} {B : Nat} {W H : Int} {n : Nat} {cells : List Value} {l : Array Bool} {vals : Nat → Value} {w w' : World}
theorem FrJ.ext (h : FrJ c p m s B W H n cells l vals w) (hx : Ext w w') : FrJ c p m s B W H n cells l vals w' :=
  ⟨fun k => by obtain ⟨A, cap, h1, h2⟩ := h.call k; exact ⟨A, cap, h1, own_ext h2 hx⟩, h.pic, fun k => by
    obtain ⟨g, cs, h1, h2, h3, h4, h5⟩ := h.mem k
    exact ⟨g, cs, h1, h2, h3.ext hx, h4, h5⟩, h.cl⟩
theorem FrJ.called (h : FrJ c p m s B W H n cells l vals w) (hx : Ext w w') (hd : c ≠ p ∧ c ≠ m ∧ c ≠ s) (hc : l.getD c false = false) (A : Option Addr) (cap : Nat) (ho : Has w' B 63 4 (.slice A n cap) n cells) :
    FrJ c p m s B W H n cells (l.setIfInBounds c true) (upd vals c (.slice A n cap)) w' := by
  obtain ⟨d1, d2, d3⟩ := hd
  have h' := h.ext hx
  refine ⟨fun _ => ⟨A, cap, upd_same _ _ _, ho⟩, fun k => ?_, fun k => ?_, fun k => ?_⟩
  · rw [lst_ne d1] at k
    have := (h'.pic k).1
    rw [hc] at this; cases this
  · rw [lst_ne d2] at k
    obtain ⟨g, cs, h1, h2, h3, h4, h5⟩ := h'.mem k
    rw [upd_ne (Ne.symm d2), lst_ne d3]
    refine ⟨g, cs, h1, h2, h3, h4, fun a => ?_⟩
    have := (h'.pic (h'.cl a).1).1
    rw [hc] at this; cases this
  · rw [lst_ne d3] at k; rw [lst_ne d1, lst_ne d2]; exact h'.cl k
theorem FrJ.built (h : FrJ c p m s B W H n cells l vals w) (hd : p ≠ c ∧ p ≠ m ∧ p ≠ s) (hc : l.getD c false = true) (v : Value) (hv : v = .agg #[.int .i64 W, .int .i64 H, vals c]) :
    FrJ c p m s B W H n cells (l.setIfInBounds p true) (upd vals p v) w := by
  obtain ⟨d1, d2, d3⟩ := hd
  have e1 : upd vals p v c = vals c := upd_ne (Ne.symm d1)
  have e2 : upd vals p v m = vals m := upd_ne (Ne.symm d2)
  refine ⟨fun k => ?_, fun _ => ⟨by rw [lst_ne d1]; exact hc, by rw [upd_same, e1]; exact hv⟩, fun k => ?_, fun k => ?_⟩
  · rw [e1]; exact h.call hc
  · rw [lst_ne d2] at k
    rw [e1, e2, lst_ne d3]
    exact h.mem k
  · rw [lst_ne d3] at k
    have := h.cl k
    refine ⟨?_, by rw [lst_ne d2]; exact this.2⟩
    by_cases hp : p < l.size
    · rw [Array.getD_eq_getD_getElem?, Array.getElem?_setIfInBounds_self_of_lt hp]; rfl
    · have h1 := this.1
      rw [Array.getD_eq_getD_getElem?, Array.getElem?_eq_none (by omega)] at h1
      cases h1
theorem FrJ.allocd (h : FrJ c p m s B W H n cells l vals w) (hd : m ≠ c ∧ m ≠ p ∧ m ≠ s) (hm : l.getD m false = false) (hB : B ≤ w.heap.size) :
    FrJ c p m s B W H n cells (l.setIfInBounds m true) (upd vals m (.pointer (some ⟨w.heap.size, 0, none⟩))) (w.alloc (.cells #[.int .i64 0, .int .i64 0, .slice none 0 0] 32)) := by
  obtain ⟨d1, d2, d3⟩ := hd
  have h' := h.ext (ext_alloc w (.cells #[.int .i64 0, .int .i64 0, .slice none 0 0] 32))
  have e1 : upd vals m (.pointer (some ⟨w.heap.size, 0, none⟩)) c = vals c := upd_ne (Ne.symm d1)
  have e2 : upd vals m (.pointer (some ⟨w.heap.size, 0, none⟩)) p = vals p := upd_ne (Ne.symm d2)
  have hs : ∀ q : Prop, l.getD s false = true → q := fun q k => by
    have := (h.cl k).2
    rw [hm] at this; cases this
  refine ⟨fun k => ?_, fun k => ?_, fun _ => ⟨w.heap.size, _, upd_same _ _ _, hB, Row.new w 32 [.int .i64 0, .int .i64 0, .slice none 0 0], rfl, fun k => ?_⟩, fun k => ?_⟩
  · rw [lst_ne d1] at k; rw [e1]; exact h'.call k
  · rw [lst_ne d2] at k; rw [lst_ne d1, e1, e2]; exact h'.pic k
  · rw [lst_ne d3] at k; exact hs _ k
  · rw [lst_ne d3] at k; exact hs _ k
theorem FrJ.stored (h : FrJ c p m s B W H n cells l vals w) (hd : s ≠ c ∧ s ≠ p ∧ s ≠ m) (hc : l.getD c false = true) {g : Nat} (hm : l.getD m false = true) (hg : vals m = .pointer (some ⟨g, 0, none⟩)) (hp : l.getD p false = true) (v : Value) {cs : List Value} (hr : Row w g 32 cs) (hl : cs.length = 3) :
    FrJ c p m s B W H n cells (l.setIfInBounds s true) (upd vals s v) (((w.setCell ⟨g, 0, none⟩ (.int .i64 W)).setCell ⟨g, 1, none⟩ (.int .i64 H)).setCell ⟨g, 2, none⟩ (vals c)) := by
  obtain ⟨d1, d2, d3⟩ := hd
  have hg2 : w.grownBy (((w.setCell ⟨g, 0, none⟩ (.int .i64 W)).setCell ⟨g, 1, none⟩ (.int .i64 H)).setCell ⟨g, 2, none⟩ (vals c)) (some g) := sets3 w g 0 _ _ _
  have e1 : upd vals s v c = vals c := upd_ne (Ne.symm d1)
  have e2 : upd vals s v p = vals p := upd_ne (Ne.symm d2)
  have e3 : upd vals s v m = vals m := upd_ne (Ne.symm d3)
  refine ⟨fun _ => ?_, fun k => ?_, fun _ => ?_, fun _ => ⟨by rw [lst_ne d2]; exact hp, by rw [lst_ne d3]; exact hm⟩⟩
  · rw [e1]
    obtain ⟨A, cap, h1, h2⟩ := h.call hc
    exact ⟨A, cap, h1, h2.keptB hr (by decide) hg2⟩
  · rw [lst_ne d2] at k; rw [lst_ne d1, e1, e2]; exact h.pic k
  · rw [e1, e3]
    obtain ⟨g', _, h1, h2, _⟩ := h.mem hm
    rw [hg] at h1
    obtain rfl : g = g' := by injection h1 with h; injection h with h; injection h with h _ _
    match cs, hl with
    | [a, b, d], _ => exact ⟨g, _, hg, h2, ((hr.set_ 0 _).set_ 1 _).set_ 2 _, rfl, fun _ => rfl⟩
end
end Go.Proofs.YthjmpofdpmlhmaaGreat
