/-
  Verbs compared, marked, and marks looked for.
-/
import Derived.Test.YthfnomlkoiacbaaMark
namespace Go.Proofs.Ythfnomlkoiacbaa
open Go Go.RowKit Reg
attribute [local go_sem] calmAt calmUpon
end Go.Proofs.Ythfnomlkoiacbaa
