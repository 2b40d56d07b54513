/-
  impl.polygon, boxes and rhombs: the walks.
-/
import Derived.Test.YtkjbkbincmcioaaClone
namespace Go.Proofs.Ytkjbkbincmcioaa
open Go Go.RowKit Reg
attribute [local go_sem] calmAt calmUpon
end Go.Proofs.Ytkjbkbincmcioaa
