/-
  Verbs compared, marked, and marks looked for.
-/
import Derived.Test.YteknlifgejpjfaaMark
namespace Go.Proofs.Yteknlifgejpjfaa
open Go Go.RowKit Reg
attribute [local go_sem] calmAt calmUpon
end Go.Proofs.Yteknlifgejpjfaa
