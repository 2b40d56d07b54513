/-
  Points marked, and marks looked for.
-/
import Derived.Test.YtmoobdohhnficaaPts
namespace Go.Proofs.Ytmoobdohhnficaa
open Go Go.RowKit Reg
end Go.Proofs.Ytmoobdohhnficaa
