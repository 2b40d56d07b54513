/-
  impl.polygon, boxes and rhombs: the walks.
-/
import Derived.Test.YtmoobdohhnficaaClone
namespace Go.Proofs.Ytmoobdohhnficaa
open Go Go.RowKit Reg
attribute [local go_sem] calmAt calmUpon
end Go.Proofs.Ytmoobdohhnficaa
