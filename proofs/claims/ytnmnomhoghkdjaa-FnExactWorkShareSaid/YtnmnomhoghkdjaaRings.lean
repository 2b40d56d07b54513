/-
  Polygons in memory: which are valid, and their edges.
-/
import Derived.Test.YtnmnomhoghkdjaaPts
import Derived.Test.YtnmnomhoghkdjaaWindL
import Derived.Test.YtnmnomhoghkdjaaOpen
import Derived.Test.YtnmnomhoghkdjaaStep
namespace Go.Proofs.Ytnmnomhoghkdjaa
open Go Go.RowKit Go.ChangeShapes Go.WideShapes Go.ChangeAt Go.Deep Reg
attribute [local go_sem] calmAt calmUpon
abbrev rgR : World → Rg → List Value → Prop := slR ptR 2
theorem rgR_stab : Stab rgR := slR_stab ptR_stab
abbrev Rgs (w : World) (A : Option Addr) (rs : List Rg) : Prop := In rgR 1 w A rs
theorem In.rgs {w : World} {A : Option Addr} {rs : List Rg} (h : Rgs w A rs) (hn : 0 < rs.length) : ∃ b off, A = some ⟨b, off, none⟩ ∧ b < w.heap.size ∧
    ∀ (k : Nat) (h : k < rs.length), ∃ A' cap', w.cell? ⟨b, off + k, none⟩ = some (.slice A' rs[k].length cap') ∧ Pts w A' rs[k] ∧ rs[k].length ≤ cap' ∧ cap' ≤ 9223372036854775807 := by
  have hlt := h.lt (by omega) hn
  obtain ⟨b, off, hA, hc⟩ := h hn
  refine ⟨b, off, hA, hlt b off hA, fun k hk => ?_⟩
  obtain ⟨us, ⟨A', cap', h1, h2, h4, h5, h6, _⟩, _, h3⟩ := hc k hk
  subst h1
  have := h3 0 _ rfl
  simp only [Nat.mul_one, Nat.add_zero] at this
  exact ⟨A', cap', this, h2, h5, by unfold maxLen at h6; exact h6⟩
theorem corners_take {rs : List Rg} {k : Nat} (hk : k < rs.length) : corners (rs.take (k + 1)) = corners (rs.take k) + rs[k].length := by
  rw [List.take_succ_eq_append_getElem hk, corners_snoc]
theorem corners_bd {rs : List Rg} (h : rs.all rgB = true) : corners rs ≤ 40 * rs.length := by
  induction rs with
  | nil => simp [corners]
  | cons r rs ih =>
    simp only [List.all_cons, Bool.and_eq_true, rgB] at h
    have := ih h.2
    have := psB_len h.1.2
    rw [corners_cons, List.length_cons]; omega
theorem rgsB_false {rs : List Rg} {k : Nat} (hk : k < rs.length) (h : rgB rs[k] = false) : rgsB rs = false := by
  unfold rgsB; rw [all_false_of hk h]; rfl
theorem rgsB_all {rs : List Rg} (h : rs.all rgB = true) : rgsB rs = (decide (rs.length ≤ 8) && decide (corners rs ≤ 200)) := by
  unfold rgsB; rw [h]; rfl
end Go.Proofs.Ytnmnomhoghkdjaa
