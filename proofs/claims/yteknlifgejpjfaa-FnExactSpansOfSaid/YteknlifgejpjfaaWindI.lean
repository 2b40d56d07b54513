/-
  The program's windings and areas: the walks.
-/
import Derived.Test.YteknlifgejpjfaaEdges
namespace Go.Proofs.Yteknlifgejpjfaa
open Go Go.RowKit Reg
attribute [local go_sem] calmAt calmUpon
def sumK (f : Pt → Pt → Int) (es : List Ed) (k : Nat) : Int := sumI ((es.take k).map fun e => f e.1 e.2)
theorem sumK_zero (f : Pt → Pt → Int) (es : List Ed) : sumK f es 0 = 0 := rfl
theorem sumK_succ (f : Pt → Pt → Int) {es : List Ed} {k : Nat} (h : k < es.length) : sumK f es (k + 1) = sumK f es k + f es[k].1 es[k].2 := by
  unfold sumK; rw [List.take_succ_eq_append_getElem h, List.map_append, sumI_append]; simp [sumI]
theorem sumK_all (f : Pt → Pt → Int) {es : List Ed} {k : Nat} (h : k = es.length) : sumK f es k = sumI (es.map fun e => f e.1 e.2) := by unfold sumK; rw [h, List.take_length]
theorem sumK_bd {f : Pt → Pt → Int} {es : List Ed} {B : Int} (h : ∀ e ∈ es, -B ≤ f e.1 e.2 ∧ f e.1 e.2 ≤ B) (hB : 0 ≤ B) {k N : Nat} (hk : k ≤ N) : -(N * B) ≤ sumK f es k ∧ sumK f es k ≤ N * B := by
  have := sumI_bd (l := (es.take k).map fun e => f e.1 e.2) (B := B) (by
    intro v hv
    obtain ⟨e, he, rfl⟩ := List.mem_map.1 hv
    exact h e (List.mem_of_mem_take he))
  rw [List.length_map] at this
  have h1 : (es.take k).length ≤ N := by rw [List.length_take]; omega
  have h2 : (((es.take k).length : Nat) : Int) * B ≤ (N : Int) * B := Int.mul_le_mul_of_nonneg_right (by omega) hB
  unfold sumK; omega
end Go.Proofs.Yteknlifgejpjfaa
