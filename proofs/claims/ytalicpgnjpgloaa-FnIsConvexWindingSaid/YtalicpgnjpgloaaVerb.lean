/-
  Verbs compared, marked, and marks looked for.
-/
import Derived.Test.YtalicpgnjpgloaaMark
namespace Go.Proofs.Ytalicpgnjpgloaa
open Go Go.RowKit Reg
attribute [local go_sem] calmAt calmUpon
theorem TP_ne_TV : (31 : TypeId) ≠ 62 := by decide
end Go.Proofs.Ytalicpgnjpgloaa
