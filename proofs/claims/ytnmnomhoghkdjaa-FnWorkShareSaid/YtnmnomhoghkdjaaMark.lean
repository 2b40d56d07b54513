/-
  Points marked, and marks looked for.
-/
import Derived.Test.YtnmnomhoghkdjaaPts
namespace Go.Proofs.Ytnmnomhoghkdjaa
open Go Go.RowKit Reg
end Go.Proofs.Ytnmnomhoghkdjaa
