/-
  The reference's order and shares of work: the walks.
-/
import Derived.Test.YtagmnbphbakikaaGreatMg23
namespace Go.Proofs.YtagmnbphbakikaaGreat
open Go Go.RowKit Reg
attribute [local go_sem] calmAt calmUpon
/-- How many tiles each worker draws. -/
def shareL (W : Nat) (L : List Pt) : List Int := (List.range W).map fun r : Nat => ((L.countP (fun d => decide (d.1 = (r : Int))) : Nat) : Int)
def shareR (n W : Int) (ts : List Pt) : List Int := if inB n 0 16 && wvB W ts then shareL W.toNat (workL W.toNat n.toNat ts) else []
theorem shareL_len (W : Nat) (L : List Pt) : (shareL W L).length = W := by simp [shareL]
theorem shareL_get {W r : Nat} {L : List Pt} (h : r < W) : (shareL W L)[r]'(by rw [shareL_len]; exact h) = ((L.countP (fun d => decide (d.1 = (r : Int))) : Nat) : Int) := by simp [shareL]
theorem shareL_nil (W : Nat) : shareL W [] = List.replicate W 0 := by
  unfold shareL
  apply List.ext_getElem (by simp)
  intro i h1 h2
  simp
theorem shareL_snoc {W r : Nat} {L : List Pt} {d : Pt} (hr : d.1 = (r : Int)) (h : r < W) : shareL W (L ++ [d]) = (shareL W L).set r ((shareL W L)[r]'(by rw [shareL_len]; exact h) + 1) := by
  apply List.ext_getElem (by simp [shareL])
  intro i h1 h2
  have hi : i < W := by rw [shareL_len] at h1; exact h1
  rw [shareL_get hi, List.countP_append]
  by_cases hir : r = i
  · subst hir
    rw [List.getElem_set_self, shareL_get hi]
    simp [hr]
  · rw [List.getElem_set_ne hir, shareL_get hi]
    have : ¬ d.1 = (i : Int) := by omega
    simp [this]
theorem shareL_bd {W : Nat} {L : List Pt} : ∀ x ∈ shareL W L, 0 ≤ x ∧ x ≤ L.length := by
  intro x hx
  unfold shareL at hx
  obtain ⟨r, _, rfl⟩ := List.mem_map.1 hx
  have := List.countP_le_length (p := fun d : Pt => decide (d.1 = (r : Int))) (l := L)
  omega
/-- Numbers returned, in a row of their own. -/
def RetNs (w : World) (L : List Int) (e : Ending) (w' : World) : Prop := ∃ A cap, e = .returned (.slice A L.length cap) ∧ Has w' w.heap.size 3 1 (.slice A L.length cap) L.length (L.flatMap intC) ∧ Below w.heap.size w w'
theorem RetNs.none {w w' : World} {L : List Int} (h : L = []) (hb : Below w.heap.size w w') : RetNs w L (.returned (.slice Option.none 0 0)) w' := by subst h; exact ⟨Option.none, 0, rfl, own_nil _ _ _ _, hb⟩
theorem make_ints (W : Nat) (hW : W ≤ 1000) (w : World) : (Instr.makeSlice 75 (.int .i64 (W : Int)) (.int .i64 (W : Int))).run Tryz.prog w = .ok (.slice (some ⟨w.heap.size, 0, none⟩) W W) (w.alloc (.cells ((List.replicate W (0 : Int)).flatMap intC).toArray 3)) := by
  have := run_make_fill ei_int intC (List.replicate W (0 : Int)) (by simp; omega) w
  rw [fillC_zero] at this
  have e : (List.replicate (List.replicate W (0 : Int)).length [Value.int .i64 0]).flatten = (List.replicate W (0 : Int)).flatMap intC := by simp [List.flatMap_replicate, intC]
  rw [e] at this
  simpa using this
end Go.Proofs.YtagmnbphbakikaaGreat
