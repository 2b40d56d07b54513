/-
  Several texts in one: CurveS, BendS, SplitS, FlatS.
-/
import Derived.Test.YtalicpgnjpgloaaMg5
import Derived.Test.YtalicpgnjpgloaaMg3
import Derived.Test.YtalicpgnjpgloaaMg2
import Derived.Test.YtalicpgnjpgloaaMg8
namespace Go.Proofs.Ytalicpgnjpgloaa
open Go Go.RowKit Reg
attribute [local go_sem] calmAt calmUpon
theorem midP_eq (a b : Pt) : midL a b = midP a b := rfl
theorem crdP_of {p : Pt} (h : vpB p = true) : CrdP p := by rw [vpB_iff] at h; unfold CrdP Crd; omega
section
variable {w w' : World} {A : Option Addr} {xs : List Pt}
/-- Points in a block that is left alone. -/
theorem In.grownO {row : Option Nat} (h : Pts w A xs) (hg : w.grownBy w' row) (hne : ∀ b off, A = some ⟨b, off, none⟩ → 0 < xs.length → row ≠ some b) : Pts w' A xs := by
  intro h0
  obtain ⟨b, off, hA, hc⟩ := h h0
  refine ⟨b, off, hA, fun k hk => ?_⟩
  obtain ⟨us, q1, q2, q3⟩ := hc k hk
  refine ⟨us, q1, q2, fun j v hu => ?_⟩
  have := q3 j v hu
  have hlt := cell_lt this
  unfold World.cell? at this ⊢
  rw [hg.block b hlt (fun hh => hne b off hA h0 hh.symm)]
  exact this
theorem ne_own {B n : Nat} {v : Value} {cs : List Value} {e sz : Nat} (h : Has w B e sz v n cs) {k : Nat} (hk : k < B) : v.ownBlock ≠ some k := fun hh => by have := (h.lt k hh).1; omega
end
end Go.Proofs.Ytalicpgnjpgloaa
namespace Go.Proofs.Ytalicpgnjpgloaa
open Go Go.RowKit Reg
attribute [local go_sem] calmAt calmUpon
end Go.Proofs.Ytalicpgnjpgloaa
namespace Go.Proofs.Ytalicpgnjpgloaa
open Go Go.RowKit Reg
attribute [local go_sem] calmAt calmUpon
end Go.Proofs.Ytalicpgnjpgloaa
namespace Go.Proofs.Ytalicpgnjpgloaa
open Go Go.RowKit Reg
attribute [local go_sem] calmAt calmUpon
end Go.Proofs.Ytalicpgnjpgloaa
