/-
  Tiles, plainly: their boxes, the edges that touch them, windings by backdrops.
-/
import Derived.Test.YtagmnbphbakikaaGreatMg17
import Derived.Test.YtagmnbphbakikaaGreatCover
import Derived.Test.YtagmnbphbakikaaGreatMask
namespace Go.Proofs.YtagmnbphbakikaaGreat
open Go Go.RowKit Reg
def acrL (n : Int) : Int := (n + 3) / 4
def tilesL (w h : Int) : Int := acrL w * acrL h
def tlB (w h t : Int) : Bool := (inB w 1 12 && inB h 1 12) && inB t 0 (tilesL w h - 1)
/-- Left, top, right, bottom of a tile, in pixels. -/
def tileL (w h t : Int) : Int × Int × Int × Int := (t % acrL w * 4, t / acrL w * 4, min w (t % acrL w * 4 + 4), min h (t / acrL w * 4 + 4))
theorem tile_bd {w h t : Int} (hv : tlB w h t = true) : (1 ≤ acrL w ∧ acrL w ≤ 3) ∧ (1 ≤ acrL h ∧ acrL h ≤ 3) ∧ (1 ≤ tilesL w h ∧ tilesL w h ≤ 9) ∧ (1 ≤ w ∧ w ≤ 12) ∧ (1 ≤ h ∧ h ≤ 12) ∧ (0 ≤ t ∧ t ≤ 8) ∧
    (0 ≤ (tileL w h t).1 ∧ (tileL w h t).1 < (tileL w h t).2.2.1 ∧ (tileL w h t).2.2.1 ≤ w ∧ (tileL w h t).2.2.1 ≤ (tileL w h t).1 + 4) ∧ (0 ≤ (tileL w h t).2.1 ∧ (tileL w h t).2.1 < (tileL w h t).2.2.2 ∧ (tileL w h t).2.2.2 ≤ h ∧ (tileL w h t).2.2.2 ≤ (tileL w h t).2.1 + 4) := by
  unfold tlB at hv
  simp only [Bool.and_eq_true] at hv
  obtain ⟨⟨h1, h2⟩, h3⟩ := hv
  have h1 := inB_iff.1 h1
  have h2 := inB_iff.1 h2
  have h3 := inB_iff.1 h3
  have ha : 1 ≤ acrL w ∧ acrL w ≤ 3 ∧ 4 * acrL w ≤ w + 3 := by unfold acrL; omega
  have hb : 1 ≤ acrL h ∧ acrL h ≤ 3 ∧ 4 * acrL h ≤ h + 3 := by unfold acrL; omega
  unfold tilesL at h3 ⊢
  unfold tileL
  dsimp only
  generalize acrL w = a at *
  generalize acrL h = b at *
  obtain ⟨a1, a2, a3⟩ := ha
  obtain ⟨b1, b2, b3⟩ := hb
  have hac : a = 1 ∨ a = 2 ∨ a = 3 := by omega
  have hbc : b = 1 ∨ b = 2 ∨ b = 3 := by omega
  rcases hac with rfl | rfl | rfl <;> rcases hbc with rfl | rfl | rfl <;> simp only [Int.reduceMul, Int.reduceSub] at h3 <;> refine ⟨⟨by omega, by omega⟩, ⟨by omega, by omega⟩, ⟨by omega, by omega⟩, h1, h2, ⟨by omega, by omega⟩, ⟨by omega, by omega, by omega, by omega⟩, ⟨by omega, by omega, by omega, by omega⟩⟩
/-- Does an edge touch a box of pixels? -/
def tchB (bx : Int × Int × Int × Int) (a b : Pt) : Bool := decide (a.2 ≠ b.2) && (decide (16 * bx.1 ≤ max a.1 b.1) && (decide (min a.1 b.1 < 16 * bx.2.2.1) && (decide (16 * bx.2.1 < max a.2 b.2) && decide (min a.2 b.2 < 16 * bx.2.2.2))))
def touchL (rs : List Rg) (bx : Int × Int × Int × Int) : List Ed := (edgesS rs).filter fun e => tchB bx e.1 e.2
/-- What does not touch adds at a sample what it adds at the left. -/
theorem step_far {bx : Int × Int × Int × Int} {a b : Pt} {x y : Int} (h : tchB bx a b = false) (hx : 16 * bx.1 ≤ x ∧ x < 16 * bx.2.2.1) (hy : 16 * bx.2.1 ≤ y ∧ y < 16 * bx.2.2.2) : stepL x y a b = stepL (16 * bx.1 - 1) y a b := by
  unfold tchB at h
  simp only [Bool.and_eq_false_iff, decide_eq_false_iff_not, ne_eq, Decidable.not_not] at h
  unfold stepL
  rcases h with h | h | h | h | h
  · rw [if_neg (by omega), if_neg (by omega), if_neg (by omega), if_neg (by omega)]
  · by_cases c1 : a.2 ≤ y ∧ y < b.2
    · rw [if_pos ⟨c1.1, c1.2, side_right c1.1 c1.2 (by omega) (by omega)⟩, if_pos ⟨c1.1, c1.2, side_right c1.1 c1.2 (by omega) (by omega)⟩]
    · by_cases c2 : b.2 ≤ y ∧ y < a.2
      · rw [if_neg (by omega), if_pos ⟨c2.1, c2.2, side_right c2.1 c2.2 (by omega) (by omega)⟩, if_neg (by omega), if_pos ⟨c2.1, c2.2, side_right c2.1 c2.2 (by omega) (by omega)⟩]
      · rw [if_neg (by omega), if_neg (by omega), if_neg (by omega), if_neg (by omega)]
  · have n1 : ∀ x', x' < 16 * bx.2.2.1 → ¬ (a.2 ≤ y ∧ y < b.2 ∧ 0 ≤ sideL a b x' y) := fun x' hx' hh => by have := side_left hh.1 hh.2.1 (x := x') (by omega) (by omega); omega
    have n2 : ∀ x', x' < 16 * bx.2.2.1 → ¬ (b.2 ≤ y ∧ y < a.2 ∧ 0 ≤ sideL b a x' y) := fun x' hx' hh => by have := side_left hh.1 hh.2.1 (x := x') (by omega) (by omega); omega
    rw [if_neg (n1 _ hx.2), if_neg (n2 _ hx.2), if_neg (n1 _ (by omega)), if_neg (n2 _ (by omega))]
  · rw [if_neg (by omega), if_neg (by omega), if_neg (by omega), if_neg (by omega)]
  · rw [if_neg (by omega), if_neg (by omega), if_neg (by omega), if_neg (by omega)]
theorem sumI_filter (l : List Ed) (p : Ed → Bool) (f g : Ed → Int) (h : ∀ e ∈ l, p e = false → f e = g e) : sumI (l.map g) + sumI ((l.filter p).map fun e => f e - g e) = sumI (l.map f) := by
  induction l with
  | nil => rfl
  | cons e l ih =>
    have ih := ih (fun e he => h e (List.mem_cons_of_mem _ he))
    cases hp : p e with
    | true =>
      rw [List.filter_cons_of_pos hp]
      simp only [List.map_cons, sumI, List.foldr_cons] at ih ⊢
      omega
    | false =>
      have := h e List.mem_cons_self hp
      rw [List.filter_cons_of_neg (by simp [hp])]
      simp only [List.map_cons, sumI, List.foldr_cons] at ih ⊢
      omega
/-- The winding at a sample of a tile, from its backdrop and the edges that touch it. -/
theorem tile_wind (rs : List Rg) {bx : Int × Int × Int × Int} {x y : Int} (hx : 16 * bx.1 ≤ x ∧ x < 16 * bx.2.2.1) (hy : 16 * bx.2.1 ≤ y ∧ y < 16 * bx.2.2.2) :
    windL rs (16 * bx.1 - 1) y + sumI ((touchL rs bx).map fun e => stepL x y e.1 e.2 - stepL (16 * bx.1 - 1) y e.1 e.2) = windL rs x y := by
  unfold windL touchL
  rw [sumS_edges, sumS_edges]
  exact sumI_filter _ _ _ _ fun e _ hp => step_far hp hx hy
def tileF (rs : List Rg) (rule : Int) (bx : Int × Int × Int × Int) (i k : Nat) : Int := coverL rs rule (bx.1 + k) (bx.2.1 + i)
def tmaskR (rs : List Rg) (rule w h t : Int) : List Int := if rgsB rs && inB rule 0 1 && tlB w h t then cellsM (tileF rs rule (tileL w h t)) ((tileL w h t).2.2.1 - (tileL w h t).1).toNat ((tileL w h t).2.2.2 - (tileL w h t).2.1).toNat 0 else []
theorem tmaskR_len (rs : List Rg) (rule w h t : Int) : (tmaskR rs rule w h t).length ≤ 156 := by
  unfold tmaskR
  split
  · rename_i hh
    simp only [Bool.and_eq_true] at hh
    have := tile_bd hh.2
    exact cellsM_len _ (by omega) (by omega) (by omega)
  · simp
end Go.Proofs.YtagmnbphbakikaaGreat
