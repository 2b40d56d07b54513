/-
  Paths of polygons: the walks of poly and polygon, BoxPath, RhombPath.
-/
import Derived.Test.YtalicpgnjpgloaaVerb
namespace Go.Proofs.Ytalicpgnjpgloaa
open Go Go.RowKit Reg
attribute [local go_sem] calmAt calmUpon
theorem ei_vb : EI Try.prog 34 62 (.agg #[.int .i64 0, .slice none 0 0]) [.int .i64 0, .slice none 0 0] 32 := ei_mk Try.underlying34 (by kernel_rfl) rfl (by decide) (by decide)
end Go.Proofs.Ytalicpgnjpgloaa
