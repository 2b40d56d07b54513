/-
  Points marked, and marks looked for.
-/
import Derived.Test.YthfnomlkoiacbaaPts
namespace Go.Proofs.Ythfnomlkoiacbaa
open Go Go.RowKit Reg
end Go.Proofs.Ythfnomlkoiacbaa
