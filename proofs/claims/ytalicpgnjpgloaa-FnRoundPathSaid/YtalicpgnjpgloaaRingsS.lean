/-
  The polygons of a path: the reference's walk.
-/
import Derived.Test.YtalicpgnjpgloaaMg7
import Derived.Test.YtalicpgnjpgloaaMg5
import Derived.Test.YtalicpgnjpgloaaMg8
namespace Go.Proofs.Ytalicpgnjpgloaa
open Go Go.RowKit Reg
attribute [local go_sem] calmAt calmUpon
end Go.Proofs.Ytalicpgnjpgloaa
