/-
  The reference's areas: the walk.
-/
import Derived.Test.YtalicpgnjpgloaaMg17
namespace Go.Proofs.Ytalicpgnjpgloaa
open Go Go.RowKit Reg
attribute [local go_sem] calmAt calmUpon
end Go.Proofs.Ytalicpgnjpgloaa
