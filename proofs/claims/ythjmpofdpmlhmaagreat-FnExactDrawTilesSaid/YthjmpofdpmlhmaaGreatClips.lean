/-
  Rows cut down to their lengths: the walks.
-/
import Derived.Test.YthjmpofdpmlhmaaGreatMg3
namespace Go.Proofs.YthjmpofdpmlhmaaGreat
open Go Go.RowKit Reg
end Go.Proofs.YthjmpofdpmlhmaaGreat
