/-
  Verbs compared, marked, and marks looked for.
-/
import Derived.Test.YtjiikjkaadfalaaMark
namespace Go.Proofs.Ytjiikjkaadfalaa
open Go Go.RowKit Reg
attribute [local go_sem] calmAt calmUpon
end Go.Proofs.Ytjiikjkaadfalaa
