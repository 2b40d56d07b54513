/-
  The reference's windings and areas: the walks.
-/
import Derived.Test.YteknlifgejpjfaaStepW
namespace Go.Proofs.Yteknlifgejpjfaa
open Go Go.RowKit Reg
attribute [local go_sem] calmAt calmUpon
/-- A sum over the first edges of a polygon. -/
def sumEk (f : Pt → Pt → Int) (r : Rg) (k : Nat) : Int := sumI (((edgesL r).take k).map fun e => f e.1 e.2)
theorem sumEk_succ (f : Pt → Pt → Int) {r : Rg} {k m : Nat} (h : k < r.length) (hm : m = (k + 1) % r.length) (hml : m < r.length) : sumEk f r (k + 1) = sumEk f r k + f r[k] r[m] := by
  subst hm
  unfold sumEk
  rw [List.take_succ_eq_append_getElem (by rw [edgesL_len]; exact h), edgesL_get h, List.map_append, sumI_append]; simp [sumI]
theorem sumEk_all (f : Pt → Pt → Int) {r : Rg} {k : Nat} (h : k = r.length) : sumEk f r k = sumE f r := by
  unfold sumEk sumE; rw [List.take_of_length_le (by rw [edgesL_len]; omega)]
theorem sumEk_bd {f : Pt → Pt → Int} {r : Rg} {B : Int} (hf : ∀ a ∈ r, ∀ b ∈ r, -B ≤ f a b ∧ f a b ≤ B) (hB : 0 ≤ B) {k : Nat} (hk : k ≤ 40) : -(40 * B) ≤ sumEk f r k ∧ sumEk f r k ≤ 40 * B := by
  have := sumI_bd (l := ((edgesL r).take k).map fun e => f e.1 e.2) (B := B) (by
    intro v hv
    obtain ⟨⟨a, b⟩, he, rfl⟩ := List.mem_map.1 hv
    have he := List.mem_of_mem_take he
    have h1 := (List.of_mem_zip he).1
    have h2 := (List.of_mem_zip he).2
    refine hf a h1 b ?_
    rcases List.mem_append.1 h2 with h2 | h2
    · exact List.mem_of_mem_tail h2
    · exact List.mem_of_mem_take h2)
  rw [List.length_map] at this
  have h1 : ((edgesL r).take k).length ≤ 40 := by rw [List.length_take]; omega
  have h2 : ((((edgesL r).take k).length : Nat) : Int) * B ≤ (40 : Int) * B := Int.mul_le_mul_of_nonneg_right (by omega) hB
  unfold sumEk; omega
theorem sumS_take (f : Pt → Pt → Int) {rs : List Rg} {k : Nat} (h : k < rs.length) : sumS f (rs.take (k + 1)) = sumS f (rs.take k) + sumE f rs[k] := by
  rw [List.take_succ_eq_append_getElem h, sumS_snoc]
theorem sumS_bd {f : Pt → Pt → Int} {rs : List Rg} {B : Int} (h : ∀ r ∈ rs, -B ≤ sumE f r ∧ sumE f r ≤ B) (hB : 0 ≤ B) {k : Nat} (hk : k ≤ 8) : -(8 * B) ≤ sumS f (rs.take k) ∧ sumS f (rs.take k) ≤ 8 * B := by
  have := sumI_bd (l := (rs.take k).map (sumE f)) (B := B) (by
    intro v hv
    obtain ⟨r, hr, rfl⟩ := List.mem_map.1 hv
    exact h r (List.mem_of_mem_take hr))
  rw [List.length_map] at this
  have h1 : (rs.take k).length ≤ 8 := by rw [List.length_take]; omega
  have h2 : (((rs.take k).length : Nat) : Int) * B ≤ (8 : Int) * B := Int.mul_le_mul_of_nonneg_right (by omega) hB
  unfold sumS; omega
theorem sumE_bd40 {f : Pt → Pt → Int} {r : Rg} {B : Int} (hf : ∀ a ∈ r, ∀ b ∈ r, -B ≤ f a b ∧ f a b ≤ B) (hB : 0 ≤ B) (hr : psB r = true) : -(40 * B) ≤ sumE f r ∧ sumE f r ≤ 40 * B := by
  have := sumEk_bd hf hB (k := r.length) (psB_len hr)
  rwa [sumEk_all f rfl] at this
end Go.Proofs.Yteknlifgejpjfaa
