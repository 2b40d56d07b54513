/-
  Points marked, and marks looked for.
-/
import Derived.Test.YtalicpgnjpgloaaPts
namespace Go.Proofs.Ytalicpgnjpgloaa
open Go Go.RowKit Reg
end Go.Proofs.Ytalicpgnjpgloaa
