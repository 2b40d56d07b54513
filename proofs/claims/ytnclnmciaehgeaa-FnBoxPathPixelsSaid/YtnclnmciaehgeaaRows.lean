/-
  No cell of these rows narrows 'for every input' (looked for: loops, veiled, ifaces, maps, wideKeys, modest, calm, conditions, laid).
  DERIVED. THE GIVEN ROWS OF THIS SEAT. 13 by the template 'for every input the law returns true; each argument reads behind the call as it read before'; 0 by the template 'total and deterministic' (their statements: YtnclnmciaehgeaaTotals.lean).
  GIVEN WITH THE SEED: the statements are not yours to turn. If you find one false, say at which input.
  Laid BY PROGRAM, IN A SANDBOX (cutbox-rows.mjs): the forced cells as the released guide's own fill.sh prints them over the translation 9640c0ea41d01394… (all of the seat's roots in one cut). By AI agents, Wed Nov 11 2026. No macro, syntax, notation, axiom, sorry.
-/
import Derived.Test.YtnclnmciaehgeaaChecked
import GoSem.Claim
import GoSem.ClaimJoined
import GoSem.ClaimMapViews
import Derived.JoinedTies
import Derived.KernelRfl
namespace Go.Proofs.Ytnclnmciaehgeaa
/- THE CELL 'sum', in the pinned program and in every row, IS THE sha256 OF THE DUMP (.gsa) THAT YtnclnmciaehgeaaProg.lean LOADS. Nothing in Lean hashes anything: it is a label: what it is worth is what the hold of that sum in a sandbox is worth. -/
noncomputable def Try.pinned : Pinned := { name := "ytnclnmciaehgeaa", sum := "9640c0ea41d013948d5d51b6b0c83c30bced04c696cead9c842edaa49a7aa9d4", checked := Try.checked }
namespace Rows
def none {H : Type} : Left H := { results := [], args := [] }

/-- 'laws.FnRingsOf': WHATEVER THE INPUT: true; the input reads as it did. -/
def fnRingsOfSpec : ChangeSpec := { name := "fnRingsOf", fn := fun _ => fun
  | [d] => { results := [.lit (.bool true)], args := [d] }
  | _ => none }
def fnRingsOfRow : OpenClaim := { program := "ytnclnmciaehgeaa", sum := "9640c0ea41d013948d5d51b6b0c83c30bced04c696cead9c842edaa49a7aa9d4", func := "loop.example/vectorraster/laws.FnRingsOf", spec := "fnRingsOf", unfollowed := true, recurses := true, apart := false }
def FnRingsOfSaid : Prop := fnRingsOfRow.holds Try.pinned (OpenSpec.ofChange fnRingsOfSpec)

/-- ITS FALSE NEIGHBOUR: 'it returns false'. Refute it at one input. -/
def fnRingsOfWrong : ChangeSpec := { name := "fnRingsOf", fn := fun _ => fun
  | [d] => { results := [.lit (.bool false)], args := [d] }
  | _ => none }
def FnRingsOfWrongFalsely : Prop := fnRingsOfRow.holds Try.pinned (OpenSpec.ofChange fnRingsOfWrong)

/-- 'laws.FnRingsOfClose': WHATEVER THE INPUT: true; the input reads as it did. -/
def fnRingsOfCloseSpec : ChangeSpec := { name := "fnRingsOfClose", fn := fun _ => fun
  | [d] => { results := [.lit (.bool true)], args := [d] }
  | _ => none }
def fnRingsOfCloseRow : OpenClaim := { program := "ytnclnmciaehgeaa", sum := "9640c0ea41d013948d5d51b6b0c83c30bced04c696cead9c842edaa49a7aa9d4", func := "loop.example/vectorraster/laws.FnRingsOfClose", spec := "fnRingsOfClose", unfollowed := true, recurses := true, apart := false }
def FnRingsOfCloseSaid : Prop := fnRingsOfCloseRow.holds Try.pinned (OpenSpec.ofChange fnRingsOfCloseSpec)

/-- ITS FALSE NEIGHBOUR: 'it returns false'. Refute it at one input. -/
def fnRingsOfCloseWrong : ChangeSpec := { name := "fnRingsOfClose", fn := fun _ => fun
  | [d] => { results := [.lit (.bool false)], args := [d] }
  | _ => none }
def FnRingsOfCloseWrongFalsely : Prop := fnRingsOfCloseRow.holds Try.pinned (OpenSpec.ofChange fnRingsOfCloseWrong)

/-- 'laws.FnMovePath': WHATEVER THE INPUT: true; the input reads as it did. -/
def fnMovePathSpec : ChangeSpec := { name := "fnMovePath", fn := fun _ => fun
  | [d] => { results := [.lit (.bool true)], args := [d] }
  | _ => none }
def fnMovePathRow : OpenClaim := { program := "ytnclnmciaehgeaa", sum := "9640c0ea41d013948d5d51b6b0c83c30bced04c696cead9c842edaa49a7aa9d4", func := "loop.example/vectorraster/laws.FnMovePath", spec := "fnMovePath", unfollowed := true, recurses := true, apart := false }
def FnMovePathSaid : Prop := fnMovePathRow.holds Try.pinned (OpenSpec.ofChange fnMovePathSpec)

/-- ITS FALSE NEIGHBOUR: 'it returns false'. Refute it at one input. -/
def fnMovePathWrong : ChangeSpec := { name := "fnMovePath", fn := fun _ => fun
  | [d] => { results := [.lit (.bool false)], args := [d] }
  | _ => none }
def FnMovePathWrongFalsely : Prop := fnMovePathRow.holds Try.pinned (OpenSpec.ofChange fnMovePathWrong)

/-- 'laws.FnExactMovePath': WHATEVER THE INPUT: true; the input reads as it did. -/
def fnExactMovePathSpec : ChangeSpec := { name := "fnExactMovePath", fn := fun _ => fun
  | [d1, d2, d3] => { results := [.lit (.bool true)], args := [d1, d2, d3] }
  | _ => none }
def fnExactMovePathRow : OpenClaim := { program := "ytnclnmciaehgeaa", sum := "9640c0ea41d013948d5d51b6b0c83c30bced04c696cead9c842edaa49a7aa9d4", func := "loop.example/vectorraster/laws.FnExactMovePath", spec := "fnExactMovePath", unfollowed := true, recurses := true, apart := false }
def FnExactMovePathSaid : Prop := fnExactMovePathRow.holds Try.pinned (OpenSpec.ofChange fnExactMovePathSpec)

/-- ITS FALSE NEIGHBOUR: 'it returns false'. Refute it at one input. -/
def fnExactMovePathWrong : ChangeSpec := { name := "fnExactMovePath", fn := fun _ => fun
  | [d1, d2, d3] => { results := [.lit (.bool false)], args := [d1, d2, d3] }
  | _ => none }
def FnExactMovePathWrongFalsely : Prop := fnExactMovePathRow.holds Try.pinned (OpenSpec.ofChange fnExactMovePathWrong)

/-- 'laws.FnExactRingsOf': WHATEVER THE INPUT: true; the input reads as it did. -/
def fnExactRingsOfSpec : ChangeSpec := { name := "fnExactRingsOf", fn := fun _ => fun
  | [d] => { results := [.lit (.bool true)], args := [d] }
  | _ => none }
def fnExactRingsOfRow : OpenClaim := { program := "ytnclnmciaehgeaa", sum := "9640c0ea41d013948d5d51b6b0c83c30bced04c696cead9c842edaa49a7aa9d4", func := "loop.example/vectorraster/laws.FnExactRingsOf", spec := "fnExactRingsOf", unfollowed := true, recurses := true, apart := false }
def FnExactRingsOfSaid : Prop := fnExactRingsOfRow.holds Try.pinned (OpenSpec.ofChange fnExactRingsOfSpec)

/-- ITS FALSE NEIGHBOUR: 'it returns false'. Refute it at one input. -/
def fnExactRingsOfWrong : ChangeSpec := { name := "fnExactRingsOf", fn := fun _ => fun
  | [d] => { results := [.lit (.bool false)], args := [d] }
  | _ => none }
def FnExactRingsOfWrongFalsely : Prop := fnExactRingsOfRow.holds Try.pinned (OpenSpec.ofChange fnExactRingsOfWrong)

/-- 'laws.FnExactPathArea': WHATEVER THE INPUT: true; the input reads as it did. -/
def fnExactPathAreaSpec : ChangeSpec := { name := "fnExactPathArea", fn := fun _ => fun
  | [d] => { results := [.lit (.bool true)], args := [d] }
  | _ => none }
def fnExactPathAreaRow : OpenClaim := { program := "ytnclnmciaehgeaa", sum := "9640c0ea41d013948d5d51b6b0c83c30bced04c696cead9c842edaa49a7aa9d4", func := "loop.example/vectorraster/laws.FnExactPathArea", spec := "fnExactPathArea", unfollowed := true, recurses := true, apart := false }
def FnExactPathAreaSaid : Prop := fnExactPathAreaRow.holds Try.pinned (OpenSpec.ofChange fnExactPathAreaSpec)

/-- ITS FALSE NEIGHBOUR: 'it returns false'. Refute it at one input. -/
def fnExactPathAreaWrong : ChangeSpec := { name := "fnExactPathArea", fn := fun _ => fun
  | [d] => { results := [.lit (.bool false)], args := [d] }
  | _ => none }
def FnExactPathAreaWrongFalsely : Prop := fnExactPathAreaRow.holds Try.pinned (OpenSpec.ofChange fnExactPathAreaWrong)

/-- 'laws.FnExactReversePath': WHATEVER THE INPUT: true; the input reads as it did. -/
def fnExactReversePathSpec : ChangeSpec := { name := "fnExactReversePath", fn := fun _ => fun
  | [d] => { results := [.lit (.bool true)], args := [d] }
  | _ => none }
def fnExactReversePathRow : OpenClaim := { program := "ytnclnmciaehgeaa", sum := "9640c0ea41d013948d5d51b6b0c83c30bced04c696cead9c842edaa49a7aa9d4", func := "loop.example/vectorraster/laws.FnExactReversePath", spec := "fnExactReversePath", unfollowed := true, recurses := true, apart := false }
def FnExactReversePathSaid : Prop := fnExactReversePathRow.holds Try.pinned (OpenSpec.ofChange fnExactReversePathSpec)

/-- ITS FALSE NEIGHBOUR: 'it returns false'. Refute it at one input. -/
def fnExactReversePathWrong : ChangeSpec := { name := "fnExactReversePath", fn := fun _ => fun
  | [d] => { results := [.lit (.bool false)], args := [d] }
  | _ => none }
def FnExactReversePathWrongFalsely : Prop := fnExactReversePathRow.holds Try.pinned (OpenSpec.ofChange fnExactReversePathWrong)

/-- 'laws.FnRoundPath': WHATEVER THE INPUT: true; the input reads as it did. -/
def fnRoundPathSpec : ChangeSpec := { name := "fnRoundPath", fn := fun _ => fun
  | [d] => { results := [.lit (.bool true)], args := [d] }
  | _ => none }
def fnRoundPathRow : OpenClaim := { program := "ytnclnmciaehgeaa", sum := "9640c0ea41d013948d5d51b6b0c83c30bced04c696cead9c842edaa49a7aa9d4", func := "loop.example/vectorraster/laws.FnRoundPath", spec := "fnRoundPath", unfollowed := true, recurses := true, apart := false }
def FnRoundPathSaid : Prop := fnRoundPathRow.holds Try.pinned (OpenSpec.ofChange fnRoundPathSpec)

/-- ITS FALSE NEIGHBOUR: 'it returns false'. Refute it at one input. -/
def fnRoundPathWrong : ChangeSpec := { name := "fnRoundPath", fn := fun _ => fun
  | [d] => { results := [.lit (.bool false)], args := [d] }
  | _ => none }
def FnRoundPathWrongFalsely : Prop := fnRoundPathRow.holds Try.pinned (OpenSpec.ofChange fnRoundPathWrong)

/-- 'laws.FnRhombPath': WHATEVER THE INPUT: true; the input reads as it did. -/
def fnRhombPathSpec : ChangeSpec := { name := "fnRhombPath", fn := fun _ => fun
  | [d] => { results := [.lit (.bool true)], args := [d] }
  | _ => none }
def fnRhombPathRow : OpenClaim := { program := "ytnclnmciaehgeaa", sum := "9640c0ea41d013948d5d51b6b0c83c30bced04c696cead9c842edaa49a7aa9d4", func := "loop.example/vectorraster/laws.FnRhombPath", spec := "fnRhombPath", unfollowed := true, recurses := true, apart := false }
def FnRhombPathSaid : Prop := fnRhombPathRow.holds Try.pinned (OpenSpec.ofChange fnRhombPathSpec)

/-- ITS FALSE NEIGHBOUR: 'it returns false'. Refute it at one input. -/
def fnRhombPathWrong : ChangeSpec := { name := "fnRhombPath", fn := fun _ => fun
  | [d] => { results := [.lit (.bool false)], args := [d] }
  | _ => none }
def FnRhombPathWrongFalsely : Prop := fnRhombPathRow.holds Try.pinned (OpenSpec.ofChange fnRhombPathWrong)

/-- 'laws.FnRhombPathConvex': WHATEVER THE INPUT: true; the input reads as it did. -/
def fnRhombPathConvexSpec : ChangeSpec := { name := "fnRhombPathConvex", fn := fun _ => fun
  | [d] => { results := [.lit (.bool true)], args := [d] }
  | _ => none }
def fnRhombPathConvexRow : OpenClaim := { program := "ytnclnmciaehgeaa", sum := "9640c0ea41d013948d5d51b6b0c83c30bced04c696cead9c842edaa49a7aa9d4", func := "loop.example/vectorraster/laws.FnRhombPathConvex", spec := "fnRhombPathConvex", unfollowed := true, recurses := true, apart := false }
def FnRhombPathConvexSaid : Prop := fnRhombPathConvexRow.holds Try.pinned (OpenSpec.ofChange fnRhombPathConvexSpec)

/-- ITS FALSE NEIGHBOUR: 'it returns false'. Refute it at one input. -/
def fnRhombPathConvexWrong : ChangeSpec := { name := "fnRhombPathConvex", fn := fun _ => fun
  | [d] => { results := [.lit (.bool false)], args := [d] }
  | _ => none }
def FnRhombPathConvexWrongFalsely : Prop := fnRhombPathConvexRow.holds Try.pinned (OpenSpec.ofChange fnRhombPathConvexWrong)

/-- 'laws.FnBoxPath': WHATEVER THE INPUT: true; the input reads as it did. -/
def fnBoxPathSpec : ChangeSpec := { name := "fnBoxPath", fn := fun _ => fun
  | [d] => { results := [.lit (.bool true)], args := [d] }
  | _ => none }
def fnBoxPathRow : OpenClaim := { program := "ytnclnmciaehgeaa", sum := "9640c0ea41d013948d5d51b6b0c83c30bced04c696cead9c842edaa49a7aa9d4", func := "loop.example/vectorraster/laws.FnBoxPath", spec := "fnBoxPath", unfollowed := true, recurses := true, apart := false }
def FnBoxPathSaid : Prop := fnBoxPathRow.holds Try.pinned (OpenSpec.ofChange fnBoxPathSpec)

/-- ITS FALSE NEIGHBOUR: 'it returns false'. Refute it at one input. -/
def fnBoxPathWrong : ChangeSpec := { name := "fnBoxPath", fn := fun _ => fun
  | [d] => { results := [.lit (.bool false)], args := [d] }
  | _ => none }
def FnBoxPathWrongFalsely : Prop := fnBoxPathRow.holds Try.pinned (OpenSpec.ofChange fnBoxPathWrong)

/-- 'laws.FnBoxPathPixels': WHATEVER THE INPUT: true; the input reads as it did. -/
def fnBoxPathPixelsSpec : ChangeSpec := { name := "fnBoxPathPixels", fn := fun _ => fun
  | [d] => { results := [.lit (.bool true)], args := [d] }
  | _ => none }
def fnBoxPathPixelsRow : OpenClaim := { program := "ytnclnmciaehgeaa", sum := "9640c0ea41d013948d5d51b6b0c83c30bced04c696cead9c842edaa49a7aa9d4", func := "loop.example/vectorraster/laws.FnBoxPathPixels", spec := "fnBoxPathPixels", unfollowed := true, recurses := true, apart := false }
def FnBoxPathPixelsSaid : Prop := fnBoxPathPixelsRow.holds Try.pinned (OpenSpec.ofChange fnBoxPathPixelsSpec)

/-- ITS FALSE NEIGHBOUR: 'it returns false'. Refute it at one input. -/
def fnBoxPathPixelsWrong : ChangeSpec := { name := "fnBoxPathPixels", fn := fun _ => fun
  | [d] => { results := [.lit (.bool false)], args := [d] }
  | _ => none }
def FnBoxPathPixelsWrongFalsely : Prop := fnBoxPathPixelsRow.holds Try.pinned (OpenSpec.ofChange fnBoxPathPixelsWrong)

/-- 'laws.FnExactPaintAt': WHATEVER THE INPUT: true; the input reads as it did. -/
def fnExactPaintAtSpec : ChangeSpec := { name := "fnExactPaintAt", fn := fun _ => fun
  | [d1, d2, d3] => { results := [.lit (.bool true)], args := [d1, d2, d3] }
  | _ => none }
def fnExactPaintAtRow : OpenClaim := { program := "ytnclnmciaehgeaa", sum := "9640c0ea41d013948d5d51b6b0c83c30bced04c696cead9c842edaa49a7aa9d4", func := "loop.example/vectorraster/laws.FnExactPaintAt", spec := "fnExactPaintAt", unfollowed := true, recurses := true, apart := false }
def FnExactPaintAtSaid : Prop := fnExactPaintAtRow.holds Try.pinned (OpenSpec.ofChange fnExactPaintAtSpec)

/-- ITS FALSE NEIGHBOUR: 'it returns false'. Refute it at one input. -/
def fnExactPaintAtWrong : ChangeSpec := { name := "fnExactPaintAt", fn := fun _ => fun
  | [d1, d2, d3] => { results := [.lit (.bool false)], args := [d1, d2, d3] }
  | _ => none }
def FnExactPaintAtWrongFalsely : Prop := fnExactPaintAtRow.holds Try.pinned (OpenSpec.ofChange fnExactPaintAtWrong)

/- THE SECOND FORM. 'bulk': how many values and letters a reading holds, each counted each time it is reached (what is shared counts as often as it is met; a slice's spare places count too). A statement '..UptoSaid' is the law's where the arguments, and the package variables that the reading takes, are together of bulk at most 1048576: NARROWER than '..Said'. Prove '..Said' where nothing that the law and all that it calls make is longer than what came in: it says more and counts as full. Else prove '..UptoSaid'. A law counts once. -/
mutual
def uptoBulk {H : Type} : DataW H → Nat
  | .lit (.string bytes) => bytes.length + 1
  | .lit _ => 1
  | .nil => 1
  | .ptr d => uptoBulk d + 1
  | .slice elems spare => uptoBulkAll elems + uptoBulkAll spare + 1
  | .agg parts => uptoBulkAll parts + 1
  | .iface _ d => uptoBulk d + 1
  | .map entries => uptoBulkEntries entries + 1
  | .held _ => 1
def uptoBulkAll {H : Type} : List (DataW H) → Nat
  | [] => 0
  | d :: r => uptoBulk d + uptoBulkAll r
def uptoBulkEntries {H : Type} : List (Lit × DataW H) → Nat
  | [] => 0
  | x :: r => uptoBulkEntry x + uptoBulkEntries r
def uptoBulkEntry {H : Type} : Lit × DataW H → Nat
  | (.string bytes, d) => bytes.length + uptoBulk d + 1
  | (_, d) => uptoBulk d + 1
 end
def uptoSmall : (H : Type) → List (DataW H) → Bool := fun _ ds => decide (uptoBulkAll ds ≤ 1048576)
def OpenSpec.upto (s : _root_.Go.ChangeSpec) : _root_.Go.OpenSpec := { _root_.Go.OpenSpec.ofChange s with cond := some uptoSmall }

/-- 'laws.FnRingsOf', WHERE WHAT IT READS IS OF BULK AT MOST 1048576: true; the input reads as it did. -/
def fnRingsOfUptoRow : OpenClaim := { program := "ytnclnmciaehgeaa", sum := "9640c0ea41d013948d5d51b6b0c83c30bced04c696cead9c842edaa49a7aa9d4", func := "loop.example/vectorraster/laws.FnRingsOf", spec := "fnRingsOf", unfollowed := true, recurses := true, apart := false, narrowed := true }
def FnRingsOfUptoSaid : Prop := fnRingsOfUptoRow.holds Try.pinned (OpenSpec.upto fnRingsOfSpec)

/-- 'laws.FnRingsOfClose', WHERE WHAT IT READS IS OF BULK AT MOST 1048576: true; the input reads as it did. -/
def fnRingsOfCloseUptoRow : OpenClaim := { program := "ytnclnmciaehgeaa", sum := "9640c0ea41d013948d5d51b6b0c83c30bced04c696cead9c842edaa49a7aa9d4", func := "loop.example/vectorraster/laws.FnRingsOfClose", spec := "fnRingsOfClose", unfollowed := true, recurses := true, apart := false, narrowed := true }
def FnRingsOfCloseUptoSaid : Prop := fnRingsOfCloseUptoRow.holds Try.pinned (OpenSpec.upto fnRingsOfCloseSpec)

/-- 'laws.FnMovePath', WHERE WHAT IT READS IS OF BULK AT MOST 1048576: true; the input reads as it did. -/
def fnMovePathUptoRow : OpenClaim := { program := "ytnclnmciaehgeaa", sum := "9640c0ea41d013948d5d51b6b0c83c30bced04c696cead9c842edaa49a7aa9d4", func := "loop.example/vectorraster/laws.FnMovePath", spec := "fnMovePath", unfollowed := true, recurses := true, apart := false, narrowed := true }
def FnMovePathUptoSaid : Prop := fnMovePathUptoRow.holds Try.pinned (OpenSpec.upto fnMovePathSpec)

/-- 'laws.FnExactMovePath', WHERE WHAT IT READS IS OF BULK AT MOST 1048576: true; the input reads as it did. -/
def fnExactMovePathUptoRow : OpenClaim := { program := "ytnclnmciaehgeaa", sum := "9640c0ea41d013948d5d51b6b0c83c30bced04c696cead9c842edaa49a7aa9d4", func := "loop.example/vectorraster/laws.FnExactMovePath", spec := "fnExactMovePath", unfollowed := true, recurses := true, apart := false, narrowed := true }
def FnExactMovePathUptoSaid : Prop := fnExactMovePathUptoRow.holds Try.pinned (OpenSpec.upto fnExactMovePathSpec)

/-- 'laws.FnExactRingsOf', WHERE WHAT IT READS IS OF BULK AT MOST 1048576: true; the input reads as it did. -/
def fnExactRingsOfUptoRow : OpenClaim := { program := "ytnclnmciaehgeaa", sum := "9640c0ea41d013948d5d51b6b0c83c30bced04c696cead9c842edaa49a7aa9d4", func := "loop.example/vectorraster/laws.FnExactRingsOf", spec := "fnExactRingsOf", unfollowed := true, recurses := true, apart := false, narrowed := true }
def FnExactRingsOfUptoSaid : Prop := fnExactRingsOfUptoRow.holds Try.pinned (OpenSpec.upto fnExactRingsOfSpec)

/-- 'laws.FnExactPathArea', WHERE WHAT IT READS IS OF BULK AT MOST 1048576: true; the input reads as it did. -/
def fnExactPathAreaUptoRow : OpenClaim := { program := "ytnclnmciaehgeaa", sum := "9640c0ea41d013948d5d51b6b0c83c30bced04c696cead9c842edaa49a7aa9d4", func := "loop.example/vectorraster/laws.FnExactPathArea", spec := "fnExactPathArea", unfollowed := true, recurses := true, apart := false, narrowed := true }
def FnExactPathAreaUptoSaid : Prop := fnExactPathAreaUptoRow.holds Try.pinned (OpenSpec.upto fnExactPathAreaSpec)

/-- 'laws.FnExactReversePath', WHERE WHAT IT READS IS OF BULK AT MOST 1048576: true; the input reads as it did. -/
def fnExactReversePathUptoRow : OpenClaim := { program := "ytnclnmciaehgeaa", sum := "9640c0ea41d013948d5d51b6b0c83c30bced04c696cead9c842edaa49a7aa9d4", func := "loop.example/vectorraster/laws.FnExactReversePath", spec := "fnExactReversePath", unfollowed := true, recurses := true, apart := false, narrowed := true }
def FnExactReversePathUptoSaid : Prop := fnExactReversePathUptoRow.holds Try.pinned (OpenSpec.upto fnExactReversePathSpec)

/-- 'laws.FnRoundPath', WHERE WHAT IT READS IS OF BULK AT MOST 1048576: true; the input reads as it did. -/
def fnRoundPathUptoRow : OpenClaim := { program := "ytnclnmciaehgeaa", sum := "9640c0ea41d013948d5d51b6b0c83c30bced04c696cead9c842edaa49a7aa9d4", func := "loop.example/vectorraster/laws.FnRoundPath", spec := "fnRoundPath", unfollowed := true, recurses := true, apart := false, narrowed := true }
def FnRoundPathUptoSaid : Prop := fnRoundPathUptoRow.holds Try.pinned (OpenSpec.upto fnRoundPathSpec)

/-- 'laws.FnRhombPath', WHERE WHAT IT READS IS OF BULK AT MOST 1048576: true; the input reads as it did. -/
def fnRhombPathUptoRow : OpenClaim := { program := "ytnclnmciaehgeaa", sum := "9640c0ea41d013948d5d51b6b0c83c30bced04c696cead9c842edaa49a7aa9d4", func := "loop.example/vectorraster/laws.FnRhombPath", spec := "fnRhombPath", unfollowed := true, recurses := true, apart := false, narrowed := true }
def FnRhombPathUptoSaid : Prop := fnRhombPathUptoRow.holds Try.pinned (OpenSpec.upto fnRhombPathSpec)

/-- 'laws.FnRhombPathConvex', WHERE WHAT IT READS IS OF BULK AT MOST 1048576: true; the input reads as it did. -/
def fnRhombPathConvexUptoRow : OpenClaim := { program := "ytnclnmciaehgeaa", sum := "9640c0ea41d013948d5d51b6b0c83c30bced04c696cead9c842edaa49a7aa9d4", func := "loop.example/vectorraster/laws.FnRhombPathConvex", spec := "fnRhombPathConvex", unfollowed := true, recurses := true, apart := false, narrowed := true }
def FnRhombPathConvexUptoSaid : Prop := fnRhombPathConvexUptoRow.holds Try.pinned (OpenSpec.upto fnRhombPathConvexSpec)

/-- 'laws.FnBoxPath', WHERE WHAT IT READS IS OF BULK AT MOST 1048576: true; the input reads as it did. -/
def fnBoxPathUptoRow : OpenClaim := { program := "ytnclnmciaehgeaa", sum := "9640c0ea41d013948d5d51b6b0c83c30bced04c696cead9c842edaa49a7aa9d4", func := "loop.example/vectorraster/laws.FnBoxPath", spec := "fnBoxPath", unfollowed := true, recurses := true, apart := false, narrowed := true }
def FnBoxPathUptoSaid : Prop := fnBoxPathUptoRow.holds Try.pinned (OpenSpec.upto fnBoxPathSpec)

/-- 'laws.FnBoxPathPixels', WHERE WHAT IT READS IS OF BULK AT MOST 1048576: true; the input reads as it did. -/
def fnBoxPathPixelsUptoRow : OpenClaim := { program := "ytnclnmciaehgeaa", sum := "9640c0ea41d013948d5d51b6b0c83c30bced04c696cead9c842edaa49a7aa9d4", func := "loop.example/vectorraster/laws.FnBoxPathPixels", spec := "fnBoxPathPixels", unfollowed := true, recurses := true, apart := false, narrowed := true }
def FnBoxPathPixelsUptoSaid : Prop := fnBoxPathPixelsUptoRow.holds Try.pinned (OpenSpec.upto fnBoxPathPixelsSpec)

/-- 'laws.FnExactPaintAt', WHERE WHAT IT READS IS OF BULK AT MOST 1048576: true; the input reads as it did. -/
def fnExactPaintAtUptoRow : OpenClaim := { program := "ytnclnmciaehgeaa", sum := "9640c0ea41d013948d5d51b6b0c83c30bced04c696cead9c842edaa49a7aa9d4", func := "loop.example/vectorraster/laws.FnExactPaintAt", spec := "fnExactPaintAt", unfollowed := true, recurses := true, apart := false, narrowed := true }
def FnExactPaintAtUptoSaid : Prop := fnExactPaintAtUptoRow.holds Try.pinned (OpenSpec.upto fnExactPaintAtSpec)

end Rows
end Go.Proofs.Ytnclnmciaehgeaa
