/-
  The polygons of any path: the reference's walk.
-/
import Derived.Test.YtalicpgnjpgloaaRingsP
import Derived.Test.YtalicpgnjpgloaaRingsS
import Derived.Test.YtalicpgnjpgloaaPath2
namespace Go.Proofs.Ytalicpgnjpgloaa
open Go Go.RowKit Reg
attribute [local go_sem] calmAt calmUpon
end Go.Proofs.Ytalicpgnjpgloaa
