/-
  Verbs compared, marked, and marks looked for.
-/
import Derived.Test.YteankmkhieckbaaMark
namespace Go.Proofs.Yteankmkhieckbaa
open Go Go.RowKit Reg
attribute [local go_sem] calmAt calmUpon
theorem TP_ne_TV : (40 : TypeId) ≠ 96 := by decide
end Go.Proofs.Yteankmkhieckbaa
