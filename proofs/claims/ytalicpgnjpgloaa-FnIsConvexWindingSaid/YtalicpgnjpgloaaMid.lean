/-
  The point between two points: the walk.
-/
import Derived.Test.YtalicpgnjpgloaaNum
namespace Go.Proofs.Ytalicpgnjpgloaa
open Go Go.RowKit Reg
attribute [local go_sem] calmAt calmUpon
def CrdP (p : Pt) : Prop := Crd p.1 ∧ Crd p.2
/-- The point between. -/
def midL (a b : Pt) : Pt := ((a.1 + b.1) / 2, (a.2 + b.2) / 2)
theorem midL_crd {a b : Pt} (h1 : CrdP a) (h2 : CrdP b) : CrdP (midL a b) := by unfold CrdP Crd midL at *; dsimp only; omega
end Go.Proofs.Ytalicpgnjpgloaa
