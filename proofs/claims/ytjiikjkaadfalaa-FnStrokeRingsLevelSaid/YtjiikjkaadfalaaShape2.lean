/-
  impl.polygon, boxes and rhombs: the walks.
-/
import Derived.Test.YtjiikjkaadfalaaClone
namespace Go.Proofs.Ytjiikjkaadfalaa
open Go Go.RowKit Reg
attribute [local go_sem] calmAt calmUpon
end Go.Proofs.Ytjiikjkaadfalaa
