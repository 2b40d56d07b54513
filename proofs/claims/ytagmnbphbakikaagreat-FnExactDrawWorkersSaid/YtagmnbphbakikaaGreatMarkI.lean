/-
  Numbers compared, marked, and marks looked for; polygons marked.
-/
import Derived.Test.YtagmnbphbakikaaGreatPtSS
import Derived.Test.YtagmnbphbakikaaGreatMg3
import Derived.Test.YtagmnbphbakikaaGreatMg1
namespace Go.Proofs.YtagmnbphbakikaaGreat
open Go Go.RowKit Reg
attribute [local go_sem] calmAt calmUpon
theorem intC_len (n : Int) : (intC n).length = 1 := rfl
theorem Row.keptI {w w' : World} {b g : Nat} {e : TypeId} {cs : List Value} (h : Row w b e cs) (hg : w.grownBy w' (some g)) (hne : b ≠ g) : Row w' b e cs := (hg.block b h.lt (fun hh => hne (by cases hh; rfl))).trans h
end Go.Proofs.YtagmnbphbakikaaGreat
