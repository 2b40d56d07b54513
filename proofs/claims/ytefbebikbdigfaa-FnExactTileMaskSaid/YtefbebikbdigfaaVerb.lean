/-
  Verbs compared, marked, and marks looked for.
-/
import Derived.Test.YtefbebikbdigfaaMark
namespace Go.Proofs.Ytefbebikbdigfaa
open Go Go.RowKit Reg
attribute [local go_sem] calmAt calmUpon
end Go.Proofs.Ytefbebikbdigfaa
