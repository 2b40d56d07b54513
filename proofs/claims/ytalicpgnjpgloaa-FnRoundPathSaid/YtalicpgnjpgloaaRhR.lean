/-
  The polygon of a rhomb's path, plainly.
-/
import Derived.Test.YtalicpgnjpgloaaRingsP
namespace Go.Proofs.Ytalicpgnjpgloaa
open Go Go.RowKit Reg
theorem flat2 (x y : Pt) : flatL 8 3 [x, y] = [y] := by
  unfold flatL
  rw [if_pos (show bendL [x, y] ≤ 8 from (show (0 : Int) ≤ 8 by decide))]
  rfl
theorem poly4 (a b c d : Pt) : polyV [a, b, c, d] ++ [(4, [])] = [(0, [a]), (1, [b]), (1, [c]), (1, [d]), (4, [])] := rfl
theorem rings4 (a b c d : Pt) : ringsL [(0, [a]), (1, [b]), (1, [c]), (1, [d]), (4, [])] = [[a, b, c, d]] := by
  simp [ringsL, ringsSt, flat2]
theorem path4 {a b c d : Pt} (h : psB [a, b, c, d] = true) : pathOk [(0, [a]), (1, [b]), (1, [c]), (1, [d]), (4, [])] = true := by
  simp only [psB, List.all_cons, List.all_nil, Bool.and_true, Bool.and_eq_true] at h
  obtain ⟨⟨ha, hb, hc, hd⟩, _⟩ := h
  have key : ∀ i, i < 5 → vbOk [(0, [a]), (1, [b]), (1, [c]), (1, [d]), (4, [])] i = true := by
    intro i hi
    match i, hi with
    | 0, _ => simp [vbOk, begB, inB, manyOf, psB, ha]
    | 1, _ => simp [vbOk, begB, inB, manyOf, psB, hb]
    | 2, _ => simp [vbOk, begB, inB, manyOf, psB, hc]
    | 3, _ => simp [vbOk, begB, inB, manyOf, psB, hd]
    | 4, _ => simp [vbOk, begB, inB, manyOf, psB]
  have hto : vbsTo [(0, [a]), (1, [b]), (1, [c]), (1, [d]), (4, [])] [(0, [a]), (1, [b]), (1, [c]), (1, [d]), ((4 : Int), ([] : List Pt))].length := fun i hi => key i hi
  rw [pathOk_all hto]
  simp [ptsTo]
theorem ringsV4 {a b c d : Pt} (h : psB [a, b, c, d] = true) : ringsV (polyV [a, b, c, d] ++ [(4, [])]) = [[a, b, c, d]] := by
  rw [poly4, ringsV_yes (path4 h), rings4]
theorem rgsB4 {a b c d : Pt} (h : psB [a, b, c, d] = true) : rgsB [[a, b, c, d]] = true := by
  simp [rgsB, rgB, h, corners]
end Go.Proofs.Ytalicpgnjpgloaa
