/-
  Paths of polygons: the walks of poly and polygon, BoxPath, RhombPath.
-/
import Derived.Test.YteknlifgejpjfaaVerb
namespace Go.Proofs.Yteknlifgejpjfaa
open Go Go.RowKit Reg
attribute [local go_sem] calmAt calmUpon
end Go.Proofs.Yteknlifgejpjfaa
