/-
  Paths of polygons: the walks of poly and polygon, BoxPath, RhombPath.
-/
import Derived.Test.YtnmnomhoghkdjaaVerb
namespace Go.Proofs.Ytnmnomhoghkdjaa
open Go Go.RowKit Reg
attribute [local go_sem] calmAt calmUpon
end Go.Proofs.Ytnmnomhoghkdjaa
