/-
  The boxes of any fills: the walks.
-/
import Derived.Test.YtjgpojegaojnmaaGreatFillB
namespace Go.Proofs.YtjgpojegaojnmaaGreat
open Go Go.RowKit Reg
attribute [local go_sem] calmAt calmUpon
end Go.Proofs.YtjgpojegaojnmaaGreat
