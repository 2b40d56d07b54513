/-
  Which paths are valid: the walk of the reference.
-/
import Derived.Test.YtalicpgnjpgloaaPathL
import Derived.Test.YtalicpgnjpgloaaMg2
namespace Go.Proofs.Ytalicpgnjpgloaa
open Go Go.RowKit Reg
attribute [local go_sem] calmAt calmUpon
end Go.Proofs.Ytalicpgnjpgloaa
