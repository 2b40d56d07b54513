/-
  Verbs compared, marked, and marks looked for.
-/
import Derived.Test.YtnmnomhoghkdjaaMark
namespace Go.Proofs.Ytnmnomhoghkdjaa
open Go Go.RowKit Reg
attribute [local go_sem] calmAt calmUpon
end Go.Proofs.Ytnmnomhoghkdjaa
