/-
  Verbs compared, marked, and marks looked for.
-/
import Derived.Test.YtmoobdohhnficaaMark
namespace Go.Proofs.Ytmoobdohhnficaa
open Go Go.RowKit Reg
attribute [local go_sem] calmAt calmUpon
theorem TP_ne_TV : (44 : TypeId) ≠ 64 := by decide
end Go.Proofs.Ytmoobdohhnficaa
