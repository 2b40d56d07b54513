/-
  Pictures and their tiles, plainly; an element of four numbers replaced in a row of one's own.
-/
import Derived.Test.YthjmpofdpmlhmaaGreatMg12
import Derived.Test.YthjmpofdpmlhmaaGreatTileL
namespace Go.Proofs.YthjmpofdpmlhmaaGreat
open Go Go.RowKit Reg
/-- Is it a picture? -/
def frB (W H : Int) (cs : List Bx4) : Bool := sizeB W H && (decide ((cs.length : Int) = W * H) && cs.all coB)
theorem mul_12 {W H : Int} (hW : 1 ≤ W ∧ W ≤ 12) (hH : 1 ≤ H ∧ H ≤ 12) : 1 ≤ W * H ∧ W * H ≤ 144 := by
  obtain ⟨a, rfl⟩ : ∃ a : Nat, W = a := ⟨W.toNat, by omega⟩
  obtain ⟨b, rfl⟩ : ∃ b : Nat, H = b := ⟨H.toNat, by omega⟩
  have h1 : a * b ≤ 12 * 12 := Nat.mul_le_mul (by omega) (by omega)
  have h2 : 1 * 1 ≤ a * b := Nat.mul_le_mul (by omega) (by omega)
  rw [← Int.natCast_mul]
  omega
theorem tl_9 {W H : Int} (hW : 1 ≤ W ∧ W ≤ 12) (hH : 1 ≤ H ∧ H ≤ 12) : 1 ≤ tilesL W H ∧ tilesL W H ≤ 9 := by
  have hm : (1 ≤ acrL W ∧ acrL W ≤ 3) ∧ (1 ≤ acrL H ∧ acrL H ≤ 3) := by unfold acrL; omega
  have h1 := Int.mul_le_mul hm.1.2 hm.2.2 (by omega) (by omega)
  have h2 : 0 < acrL W * acrL H := Int.mul_pos (by omega) (by omega)
  unfold tilesL
  omega
theorem set3_below {B b : Nat} {w w' : World} (h : Below B w w') (hb : B ≤ b) (v0 v1 v2 : Value) : Below B w (((w'.setCell ⟨b, 0, none⟩ v0).setCell ⟨b, 1, none⟩ v1).setCell ⟨b, 2, none⟩ v2) :=
  ((h.setCell hb v0).setCell hb v1).setCell hb v2
theorem only_trans {a b c : World} {row : Option Nat} (h : a.grownBy b row) (k : b.grownBy c row) : a.grownBy c row :=
  ⟨k.os.trans h.os, k.tape.trans h.tape, k.output.trans h.output, Nat.le_trans h.size k.size, fun i hi hn => (k.block i (Nat.lt_of_lt_of_le hi h.size) hn).trans (h.block i hi hn)⟩
theorem pix_at {wd ht r c : Nat} (hr : r < ht) (hc : c < wd) : r * wd + c < wd * ht := by
  have := Nat.mul_le_mul_right wd (show r + 1 ≤ ht by omega)
  rw [Nat.add_mul, Nat.one_mul, Nat.mul_comm ht] at this
  omega
/-- The pixels of a picture in which a tile of a scene is drawn. -/
def tpix (W H : Int) (fs : List FlD) (t : Int) (cs : List Bx4) : List Bx4 :=
  if tlB W H t then
    putRows (fun c r => pixL fs ((c : Nat) : Int) ((r : Nat) : Int)) W.toNat (tileL W H t).1.toNat ((tileL W H t).2.2.1 - (tileL W H t).1).toNat (tileL W H t).2.1.toNat ((tileL W H t).2.2.2 - (tileL W H t).2.1).toNat cs
  else cs
theorem tpix_no {W H : Int} {fs : List FlD} {t : Int} {cs : List Bx4} (h : tlB W H t = false) : tpix W H fs t cs = cs := by
  unfold tpix; rw [h]; rfl
/-- What a tile is made of: left, wide, top, high. -/
theorem tpix_any {W H : Int} (t : Int) (fs : List FlD) (hW : 1 ≤ W ∧ W ≤ 12) (hH : 1 ≤ H ∧ H ≤ 12) : ∃ wd ht l m tp n : Nat, W = (wd : Int) ∧ H = (ht : Int) ∧
    (if tlB W H t then tileL W H t else (0, 0, 0, 0)) = ((l : Int), (tp : Int), ((l + m : Nat) : Int), ((tp + n : Nat) : Int)) ∧ (wd ≤ 12 ∧ ht ≤ 12) ∧ (l + m ≤ wd ∧ tp + n ≤ ht) ∧
    ∀ cs, tpix W H fs t cs = putRows (fun c r => pixL fs ((c : Nat) : Int) ((r : Nat) : Int)) wd l m tp n cs := by
  cases h : tlB W H t with
  | false =>
    refine ⟨W.toNat, H.toNat, 0, 0, 0, 0, by omega, by omega, rfl, by omega, by omega, fun cs => ?_⟩
    rw [tpix_no h]; rfl
  | true =>
    obtain ⟨_, _, _, h1, h2, _, h3, h4⟩ := tile_bd h
    have he : ∀ cs, tpix W H fs t cs = putRows (fun c r => pixL fs ((c : Nat) : Int) ((r : Nat) : Int)) W.toNat (tileL W H t).1.toNat ((tileL W H t).2.2.1 - (tileL W H t).1).toNat (tileL W H t).2.1.toNat ((tileL W H t).2.2.2 - (tileL W H t).2.1).toNat cs := fun cs => by unfold tpix; rw [if_pos h]
    rw [if_pos rfl]
    generalize tileL W H t = T at *
    obtain ⟨a, b, c, d⟩ := T
    dsimp only at h3 h4 he
    exact ⟨W.toNat, H.toNat, a.toNat, (c - a).toNat, b.toNat, (d - b).toNat, by omega, by omega, by simp only [Prod.mk.injEq]; omega, by omega, by omega, he⟩
theorem tpix_len (W H : Int) (fs : List FlD) (t : Int) (cs : List Bx4) : (tpix W H fs t cs).length = cs.length := by
  unfold tpix
  split
  · rw [putRows_len]
  · rfl
/-- Several tiles, one after the other. -/
def tpixs (W H : Int) (fs : List FlD) (ts : List Int) (cs : List Bx4) : List Bx4 := ts.foldl (fun cs t => tpix W H fs t cs) cs
theorem tpixs_len (W H : Int) (fs : List FlD) : ∀ (ts : List Int) (cs : List Bx4), (tpixs W H fs ts cs).length = cs.length
  | [], _ => rfl
  | t :: ts, cs => by
    show (tpixs W H fs ts (tpix W H fs t cs)).length = _
    rw [tpixs_len W H fs ts, tpix_len]
theorem tpixs_take (W H : Int) (fs : List FlD) {ts : List Int} {k : Nat} (hk : k < ts.length) (cs : List Bx4) : tpixs W H fs (ts.take (k + 1)) cs = tpix W H fs ts[k] (tpixs W H fs (ts.take k) cs) := by
  unfold tpixs
  rw [List.take_succ_eq_append_getElem hk, List.foldl_append]; rfl
theorem putRow_at (f : Nat → Bx4) (j k : Nat) (xs : List Bx4) : (putRow f j k xs).set (j + k) (f k) = putRow f j (k + 1) xs := rfl
theorem putRows_at (g : Nat → Nat → Bx4) (wd l m t n : Nat) (xs : List Bx4) : putRow (fun c => g (l + c) (t + n)) ((t + n) * wd + l) m (putRows g wd l m t n xs) = putRows g wd l m t (n + 1) xs := rfl
/-- Nothing drawn. -/
def blankL (n : Nat) : List Bx4 := List.replicate n (0, 0, 0, 0)
/-! ### four numbers replaced -/
theorem flat_set4 (q : Bx4) : ∀ (cs : List Bx4) (k : Nat), ((((cs.flatMap bxC).set (k * 4) (.int .i64 q.1)).set (k * 4 + 1) (.int .i64 q.2.1)).set (k * 4 + 2) (.int .i64 q.2.2.1)).set (k * 4 + 3) (.int .i64 q.2.2.2) = (cs.set k q).flatMap bxC
  | [], k => by simp
  | c :: cs, 0 => by simp [bxC]
  | c :: cs, k + 1 => by
    have ih := flat_set4 q cs k
    rw [List.flatMap_cons, List.set_cons_succ, List.flatMap_cons, ← ih]
    have hl : (bxC c).length = 4 := rfl
    rw [List.set_append_right _ _ (by omega), List.set_append_right _ _ (by omega), List.set_append_right _ _ (by omega), List.set_append_right _ _ (by omega), hl]
    have e0 : (k + 1) * 4 - 4 = k * 4 := by omega
    have e1 : (k + 1) * 4 + 1 - 4 = k * 4 + 1 := by omega
    have e2 : (k + 1) * 4 + 2 - 4 = k * 4 + 2 := by omega
    have e3 : (k + 1) * 4 + 3 - 4 = k * 4 + 3 := by omega
    rw [e0, e1, e2, e3]
def setQ (w : World) (g k : Nat) (q : Bx4) : World := (((w.setCell ⟨g, k * 4, none⟩ (.int .i64 q.1)).setCell ⟨g, k * 4 + 1, none⟩ (.int .i64 q.2.1)).setCell ⟨g, k * 4 + 2, none⟩ (.int .i64 q.2.2.1)).setCell ⟨g, k * 4 + 3, none⟩ (.int .i64 q.2.2.2)
theorem Has.putQ {w : World} {B g n cap : Nat} {e : TypeId} {cs : List Bx4} (h : Has w B e 4 (.slice (some ⟨g, 0, none⟩) n cap) n (cs.flatMap bxC)) (k : Nat) (q : Bx4) :
    Has (setQ w g k q) B e 4 (.slice (some ⟨g, 0, none⟩) n cap) n ((cs.set k q).flatMap bxC) ∧ w.grownBy (setQ w g k q) (some g) := by
  rw [← flat_set4 q cs k]
  exact ⟨((((h.stored (k * 4) (.int .i64 q.1)).1.stored (k * 4 + 1) (.int .i64 q.2.1)).1.stored (k * 4 + 2) (.int .i64 q.2.2.1)).1.stored (k * 4 + 3) (.int .i64 q.2.2.2)).1,
    only_set (only_set (only_set (only_set (only_refl w (some g)) (k * 4) (.int .i64 q.1)) (k * 4 + 1) (.int .i64 q.2.1)) (k * 4 + 2) (.int .i64 q.2.2.1)) (k * 4 + 3) (.int .i64 q.2.2.2)⟩
end Go.Proofs.YthjmpofdpmlhmaaGreat
