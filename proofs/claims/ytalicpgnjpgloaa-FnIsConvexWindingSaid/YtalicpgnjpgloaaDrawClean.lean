/-
  Polygons drawn for CleanRing: the walk.
-/
import Derived.Test.YtalicpgnjpgloaaGen
namespace Go.Proofs.Ytalicpgnjpgloaa
open Go Go.RowKit Reg
attribute [local go_sem] calmAt calmUpon
/-- Points in a row of one's own. -/
def OwnPts (w w' : World) (e : Ending) (P : List Pt → Prop) : Prop := ∃ A cap, ∃ ps : List Pt, e = .returned (.slice A ps.length cap) ∧ P ps ∧ Has w' w.heap.size 31 2 (.slice A ps.length cap) ps.length (ps.flatMap ptC) ∧ Below w.heap.size w w'
end Go.Proofs.Ytalicpgnjpgloaa
