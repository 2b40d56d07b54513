/-
  Points marked, and marks looked for.
-/
import Derived.Test.YtjjnfjnoagfajaaPts
namespace Go.Proofs.Ytjjnfjnoagfajaa
open Go Go.RowKit Reg
end Go.Proofs.Ytjjnfjnoagfajaa
