/-
  Boxes: the walks.
-/
import Derived.Test.YtjiikjkaadfalaaShape2
import Derived.Test.YtjiikjkaadfalaaOpen
namespace Go.Proofs.Ytjiikjkaadfalaa
open Go Go.RowKit Reg
attribute [local go_sem] calmAt calmUpon
abbrev bxV (b : Bx) : Value := .agg #[.int .i64 b.1, .int .i64 b.2.1, .int .i64 b.2.2.1, .int .i64 b.2.2.2]
def vbxB (b : Bx) : Bool := decide ((-1000 ≤ b.1 ∧ b.1 ≤ b.2.2.1 ∧ b.2.2.1 ≤ 1000) ∧ (-1000 ≤ b.2.1 ∧ b.2.1 ≤ b.2.2.2 ∧ b.2.2.2 ≤ 1000))
end Go.Proofs.Ytjiikjkaadfalaa
