/-
  Points moved: the program's walks.
-/
import Derived.Test.YtalicpgnjpgloaaMg3
import Derived.Test.YtalicpgnjpgloaaMg8
namespace Go.Proofs.Ytalicpgnjpgloaa
open Go Go.RowKit Reg
attribute [local go_sem] calmAt calmUpon
def mvP (s t : Int) (p : Pt) : Pt := (p.1 + s, p.2 + t)
def moveL (s t : Int) (r : Rg) : Rg := r.map (mvP s t)
def movedB (s t : Int) (r : Rg) : Bool := psB r && inB s (-1000) 1000 && inB t (-1000) 1000 && psB (moveL s t r)
def movedP (s t : Int) (r : Rg) : Rg × Bool := if movedB s t r then (moveL s t r, true) else ([], false)
/-- The first k points are moved. -/
def mvTo (s t : Int) (r : Rg) (k : Nat) : Rg := moveL s t (r.take k) ++ r.drop k
theorem mvTo_zero (s t : Int) (r : Rg) : mvTo s t r 0 = r := by simp [mvTo, moveL]
theorem mvTo_all (s t : Int) (r : Rg) {k : Nat} (h : k = r.length) : mvTo s t r k = moveL s t r := by subst h; simp [mvTo]
theorem mvTo_len (s t : Int) (r : Rg) {k : Nat} (h : k ≤ r.length) : (mvTo s t r k).length = r.length := by simp [mvTo, moveL]; omega
theorem mvTo_get (s t : Int) {r : Rg} {k : Nat} (h : k < r.length) : (mvTo s t r k)[k]'(by rw [mvTo_len _ _ _ (by omega)]; exact h) = r[k] := by
  unfold mvTo
  rw [List.getElem_append_right (by simp [moveL]; omega)]
  simp only [moveL, List.length_map, List.length_take, List.getElem_drop]
  congr 1; omega
theorem mvTo_set (s t : Int) {r : Rg} {k : Nat} (h : k < r.length) : (mvTo s t r k).set k (mvP s t r[k]) = mvTo s t r (k + 1) := by
  unfold mvTo
  have hl : (moveL s t (r.take k)).length = k := by simp [moveL]; omega
  rw [List.set_append_right _ _ (by omega), hl, Nat.sub_self, List.drop_eq_getElem_cons h, List.set_cons_zero, List.take_succ_eq_append_getElem h]
  simp only [moveL, List.map_append, List.map_cons, List.map_nil, List.append_assoc, List.cons_append, List.nil_append]
theorem moveL_len (s t : Int) (r : Rg) : (moveL s t r).length = r.length := by simp [moveL]
end Go.Proofs.Ytalicpgnjpgloaa
