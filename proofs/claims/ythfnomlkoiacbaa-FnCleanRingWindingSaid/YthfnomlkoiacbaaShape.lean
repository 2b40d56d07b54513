/-
  Paths of polygons: the walks of poly and polygon, BoxPath, RhombPath.
-/
import Derived.Test.YthfnomlkoiacbaaVerb
namespace Go.Proofs.Ythfnomlkoiacbaa
open Go Go.RowKit Reg
attribute [local go_sem] calmAt calmUpon
end Go.Proofs.Ythfnomlkoiacbaa
