/-
  impl.polygon, boxes and rhombs: the walks.
-/
import Derived.Test.YteankmkhieckbaaClone
namespace Go.Proofs.Yteankmkhieckbaa
open Go Go.RowKit Reg
attribute [local go_sem] calmAt calmUpon
end Go.Proofs.Yteankmkhieckbaa
