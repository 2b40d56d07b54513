/-
  Paths of polygons: the walks of poly and polygon, BoxPath, RhombPath.
-/
import Derived.Test.YtjiikjkaadfalaaVerb
namespace Go.Proofs.Ytjiikjkaadfalaa
open Go Go.RowKit Reg
attribute [local go_sem] calmAt calmUpon
end Go.Proofs.Ytjiikjkaadfalaa
