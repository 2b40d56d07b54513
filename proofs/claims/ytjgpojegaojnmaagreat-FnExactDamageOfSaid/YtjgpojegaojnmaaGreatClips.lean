/-
  Rows cut down to their lengths: the walks.
-/
import Derived.Test.YtjgpojegaojnmaaGreatMg3
namespace Go.Proofs.YtjgpojegaojnmaaGreat
open Go Go.RowKit Reg
end Go.Proofs.YtjgpojegaojnmaaGreat
