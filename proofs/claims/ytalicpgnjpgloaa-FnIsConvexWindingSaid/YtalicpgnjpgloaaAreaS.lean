/-
  The reference's areas: the walk.
-/
import Derived.Test.YtalicpgnjpgloaaWindS
import Derived.Test.YtalicpgnjpgloaaWindI
namespace Go.Proofs.Ytalicpgnjpgloaa
open Go Go.RowKit Reg
attribute [local go_sem] calmAt calmUpon
end Go.Proofs.Ytalicpgnjpgloaa
