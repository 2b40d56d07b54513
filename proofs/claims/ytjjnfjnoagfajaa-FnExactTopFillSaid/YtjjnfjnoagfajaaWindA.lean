/-
  Windings at points, and backdrops: the walks.
-/
import Derived.Test.YtjjnfjnoagfajaaWindS
import Derived.Test.YtjjnfjnoagfajaaWindI
namespace Go.Proofs.Ytjjnfjnoagfajaa
open Go Go.RowKit Reg
attribute [local go_sem] calmAt calmUpon
def backR (rs : List Rg) (c r : Int) : Int := if rgsB rs && inB c 0 12 && inB r 0 47 then windL rs (16 * c - 1) (4 * r + 2) else 0
end Go.Proofs.Ytjjnfjnoagfajaa
