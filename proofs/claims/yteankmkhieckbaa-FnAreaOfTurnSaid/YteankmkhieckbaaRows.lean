/-
  No cell of these rows narrows 'for every input' (looked for: loops, veiled, ifaces, maps, wideKeys, modest, calm, conditions, laid).
  DERIVED. THE GIVEN ROWS OF THIS SEAT. 12 by the template 'for every input the law returns true; each argument reads behind the call as it read before'; 0 by the template 'total and deterministic' (their statements: YteankmkhieckbaaTotals.lean).
  GIVEN WITH THE SEED: the statements are not yours to turn. If you find one false, say at which input.
  Laid BY PROGRAM, IN A SANDBOX (cutbox-rows.mjs): the forced cells as the released guide's own fill.sh prints them over the translation c7d5d235363e809c… (all of the seat's roots in one cut). By AI agents, Wed Nov 11 2026. No macro, syntax, notation, axiom, sorry.
-/
import Derived.Test.YteankmkhieckbaaChecked
import GoSem.Claim
import GoSem.ClaimJoined
import GoSem.ClaimMapViews
import Derived.JoinedTies
import Derived.KernelRfl
namespace Go.Proofs.Yteankmkhieckbaa
/- THE CELL 'sum', in the pinned program and in every row, IS THE sha256 OF THE DUMP (.gsa) THAT YteankmkhieckbaaProg.lean LOADS. Nothing in Lean hashes anything: it is a label: what it is worth is what the hold of that sum in a sandbox is worth. -/
noncomputable def Try.pinned : Pinned := { name := "yteankmkhieckbaa", sum := "c7d5d235363e809cf6ee07df382c0f6ec28d04076871000d581c17186f1453ff", checked := Try.checked }
namespace Rows
def none {H : Type} : Left H := { results := [], args := [] }

/-- 'laws.FnExactCoverOf': WHATEVER THE INPUT: true; the input reads as it did. -/
def fnExactCoverOfSpec : ChangeSpec := { name := "fnExactCoverOf", fn := fun _ => fun
  | [d1, d2, d3, d4] => { results := [.lit (.bool true)], args := [d1, d2, d3, d4] }
  | _ => none }
def fnExactCoverOfRow : OpenClaim := { program := "yteankmkhieckbaa", sum := "c7d5d235363e809cf6ee07df382c0f6ec28d04076871000d581c17186f1453ff", func := "loop.example/vectorraster/laws.FnExactCoverOf", spec := "fnExactCoverOf", unfollowed := true, recurses := true, apart := false }
def FnExactCoverOfSaid : Prop := fnExactCoverOfRow.holds Try.pinned (OpenSpec.ofChange fnExactCoverOfSpec)

/-- ITS FALSE NEIGHBOUR: 'it returns false'. Refute it at one input. -/
def fnExactCoverOfWrong : ChangeSpec := { name := "fnExactCoverOf", fn := fun _ => fun
  | [d1, d2, d3, d4] => { results := [.lit (.bool false)], args := [d1, d2, d3, d4] }
  | _ => none }
def FnExactCoverOfWrongFalsely : Prop := fnExactCoverOfRow.holds Try.pinned (OpenSpec.ofChange fnExactCoverOfWrong)

/-- 'laws.FnExactMaskOf': WHATEVER THE INPUT: true; the input reads as it did. -/
def fnExactMaskOfSpec : ChangeSpec := { name := "fnExactMaskOf", fn := fun _ => fun
  | [d1, d2, d3, d4] => { results := [.lit (.bool true)], args := [d1, d2, d3, d4] }
  | _ => none }
def fnExactMaskOfRow : OpenClaim := { program := "yteankmkhieckbaa", sum := "c7d5d235363e809cf6ee07df382c0f6ec28d04076871000d581c17186f1453ff", func := "loop.example/vectorraster/laws.FnExactMaskOf", spec := "fnExactMaskOf", unfollowed := true, recurses := true, apart := false }
def FnExactMaskOfSaid : Prop := fnExactMaskOfRow.holds Try.pinned (OpenSpec.ofChange fnExactMaskOfSpec)

/-- ITS FALSE NEIGHBOUR: 'it returns false'. Refute it at one input. -/
def fnExactMaskOfWrong : ChangeSpec := { name := "fnExactMaskOf", fn := fun _ => fun
  | [d1, d2, d3, d4] => { results := [.lit (.bool false)], args := [d1, d2, d3, d4] }
  | _ => none }
def FnExactMaskOfWrongFalsely : Prop := fnExactMaskOfRow.holds Try.pinned (OpenSpec.ofChange fnExactMaskOfWrong)

/-- 'laws.FnAreaOfTurn': WHATEVER THE INPUT: true; the input reads as it did. -/
def fnAreaOfTurnSpec : ChangeSpec := { name := "fnAreaOfTurn", fn := fun _ => fun
  | [d] => { results := [.lit (.bool true)], args := [d] }
  | _ => none }
def fnAreaOfTurnRow : OpenClaim := { program := "yteankmkhieckbaa", sum := "c7d5d235363e809cf6ee07df382c0f6ec28d04076871000d581c17186f1453ff", func := "loop.example/vectorraster/laws.FnAreaOfTurn", spec := "fnAreaOfTurn", unfollowed := true, recurses := true, apart := false }
def FnAreaOfTurnSaid : Prop := fnAreaOfTurnRow.holds Try.pinned (OpenSpec.ofChange fnAreaOfTurnSpec)

/-- ITS FALSE NEIGHBOUR: 'it returns false'. Refute it at one input. -/
def fnAreaOfTurnWrong : ChangeSpec := { name := "fnAreaOfTurn", fn := fun _ => fun
  | [d] => { results := [.lit (.bool false)], args := [d] }
  | _ => none }
def FnAreaOfTurnWrongFalsely : Prop := fnAreaOfTurnRow.holds Try.pinned (OpenSpec.ofChange fnAreaOfTurnWrong)

/-- 'laws.FnAreaOf': WHATEVER THE INPUT: true; the input reads as it did. -/
def fnAreaOfSpec : ChangeSpec := { name := "fnAreaOf", fn := fun _ => fun
  | [d] => { results := [.lit (.bool true)], args := [d] }
  | _ => none }
def fnAreaOfRow : OpenClaim := { program := "yteankmkhieckbaa", sum := "c7d5d235363e809cf6ee07df382c0f6ec28d04076871000d581c17186f1453ff", func := "loop.example/vectorraster/laws.FnAreaOf", spec := "fnAreaOf", unfollowed := true, recurses := true, apart := false }
def FnAreaOfSaid : Prop := fnAreaOfRow.holds Try.pinned (OpenSpec.ofChange fnAreaOfSpec)

/-- ITS FALSE NEIGHBOUR: 'it returns false'. Refute it at one input. -/
def fnAreaOfWrong : ChangeSpec := { name := "fnAreaOf", fn := fun _ => fun
  | [d] => { results := [.lit (.bool false)], args := [d] }
  | _ => none }
def FnAreaOfWrongFalsely : Prop := fnAreaOfRow.holds Try.pinned (OpenSpec.ofChange fnAreaOfWrong)

/-- 'laws.FnAreaOfMove': WHATEVER THE INPUT: true; the input reads as it did. -/
def fnAreaOfMoveSpec : ChangeSpec := { name := "fnAreaOfMove", fn := fun _ => fun
  | [d] => { results := [.lit (.bool true)], args := [d] }
  | _ => none }
def fnAreaOfMoveRow : OpenClaim := { program := "yteankmkhieckbaa", sum := "c7d5d235363e809cf6ee07df382c0f6ec28d04076871000d581c17186f1453ff", func := "loop.example/vectorraster/laws.FnAreaOfMove", spec := "fnAreaOfMove", unfollowed := true, recurses := true, apart := false }
def FnAreaOfMoveSaid : Prop := fnAreaOfMoveRow.holds Try.pinned (OpenSpec.ofChange fnAreaOfMoveSpec)

/-- ITS FALSE NEIGHBOUR: 'it returns false'. Refute it at one input. -/
def fnAreaOfMoveWrong : ChangeSpec := { name := "fnAreaOfMove", fn := fun _ => fun
  | [d] => { results := [.lit (.bool false)], args := [d] }
  | _ => none }
def FnAreaOfMoveWrongFalsely : Prop := fnAreaOfMoveRow.holds Try.pinned (OpenSpec.ofChange fnAreaOfMoveWrong)

/-- 'laws.FnWindingAt': WHATEVER THE INPUT: true; the input reads as it did. -/
def fnWindingAtSpec : ChangeSpec := { name := "fnWindingAt", fn := fun _ => fun
  | [d] => { results := [.lit (.bool true)], args := [d] }
  | _ => none }
def fnWindingAtRow : OpenClaim := { program := "yteankmkhieckbaa", sum := "c7d5d235363e809cf6ee07df382c0f6ec28d04076871000d581c17186f1453ff", func := "loop.example/vectorraster/laws.FnWindingAt", spec := "fnWindingAt", unfollowed := true, recurses := true, apart := false }
def FnWindingAtSaid : Prop := fnWindingAtRow.holds Try.pinned (OpenSpec.ofChange fnWindingAtSpec)

/-- ITS FALSE NEIGHBOUR: 'it returns false'. Refute it at one input. -/
def fnWindingAtWrong : ChangeSpec := { name := "fnWindingAt", fn := fun _ => fun
  | [d] => { results := [.lit (.bool false)], args := [d] }
  | _ => none }
def FnWindingAtWrongFalsely : Prop := fnWindingAtRow.holds Try.pinned (OpenSpec.ofChange fnWindingAtWrong)

/-- 'laws.FnWindingAtTurn': WHATEVER THE INPUT: true; the input reads as it did. -/
def fnWindingAtTurnSpec : ChangeSpec := { name := "fnWindingAtTurn", fn := fun _ => fun
  | [d] => { results := [.lit (.bool true)], args := [d] }
  | _ => none }
def fnWindingAtTurnRow : OpenClaim := { program := "yteankmkhieckbaa", sum := "c7d5d235363e809cf6ee07df382c0f6ec28d04076871000d581c17186f1453ff", func := "loop.example/vectorraster/laws.FnWindingAtTurn", spec := "fnWindingAtTurn", unfollowed := true, recurses := true, apart := false }
def FnWindingAtTurnSaid : Prop := fnWindingAtTurnRow.holds Try.pinned (OpenSpec.ofChange fnWindingAtTurnSpec)

/-- ITS FALSE NEIGHBOUR: 'it returns false'. Refute it at one input. -/
def fnWindingAtTurnWrong : ChangeSpec := { name := "fnWindingAtTurn", fn := fun _ => fun
  | [d] => { results := [.lit (.bool false)], args := [d] }
  | _ => none }
def FnWindingAtTurnWrongFalsely : Prop := fnWindingAtTurnRow.holds Try.pinned (OpenSpec.ofChange fnWindingAtTurnWrong)

/-- 'laws.FnWindingAtTwice': WHATEVER THE INPUT: true; the input reads as it did. -/
def fnWindingAtTwiceSpec : ChangeSpec := { name := "fnWindingAtTwice", fn := fun _ => fun
  | [d] => { results := [.lit (.bool true)], args := [d] }
  | _ => none }
def fnWindingAtTwiceRow : OpenClaim := { program := "yteankmkhieckbaa", sum := "c7d5d235363e809cf6ee07df382c0f6ec28d04076871000d581c17186f1453ff", func := "loop.example/vectorraster/laws.FnWindingAtTwice", spec := "fnWindingAtTwice", unfollowed := true, recurses := true, apart := false }
def FnWindingAtTwiceSaid : Prop := fnWindingAtTwiceRow.holds Try.pinned (OpenSpec.ofChange fnWindingAtTwiceSpec)

/-- ITS FALSE NEIGHBOUR: 'it returns false'. Refute it at one input. -/
def fnWindingAtTwiceWrong : ChangeSpec := { name := "fnWindingAtTwice", fn := fun _ => fun
  | [d] => { results := [.lit (.bool false)], args := [d] }
  | _ => none }
def FnWindingAtTwiceWrongFalsely : Prop := fnWindingAtTwiceRow.holds Try.pinned (OpenSpec.ofChange fnWindingAtTwiceWrong)

/-- 'laws.FnWindingAtReverse': WHATEVER THE INPUT: true; the input reads as it did. -/
def fnWindingAtReverseSpec : ChangeSpec := { name := "fnWindingAtReverse", fn := fun _ => fun
  | [d] => { results := [.lit (.bool true)], args := [d] }
  | _ => none }
def fnWindingAtReverseRow : OpenClaim := { program := "yteankmkhieckbaa", sum := "c7d5d235363e809cf6ee07df382c0f6ec28d04076871000d581c17186f1453ff", func := "loop.example/vectorraster/laws.FnWindingAtReverse", spec := "fnWindingAtReverse", unfollowed := true, recurses := true, apart := false }
def FnWindingAtReverseSaid : Prop := fnWindingAtReverseRow.holds Try.pinned (OpenSpec.ofChange fnWindingAtReverseSpec)

/-- ITS FALSE NEIGHBOUR: 'it returns false'. Refute it at one input. -/
def fnWindingAtReverseWrong : ChangeSpec := { name := "fnWindingAtReverse", fn := fun _ => fun
  | [d] => { results := [.lit (.bool false)], args := [d] }
  | _ => none }
def FnWindingAtReverseWrongFalsely : Prop := fnWindingAtReverseRow.holds Try.pinned (OpenSpec.ofChange fnWindingAtReverseWrong)

/-- 'laws.FnWindingAtOutside': WHATEVER THE INPUT: true; the input reads as it did. -/
def fnWindingAtOutsideSpec : ChangeSpec := { name := "fnWindingAtOutside", fn := fun _ => fun
  | [d] => { results := [.lit (.bool true)], args := [d] }
  | _ => none }
def fnWindingAtOutsideRow : OpenClaim := { program := "yteankmkhieckbaa", sum := "c7d5d235363e809cf6ee07df382c0f6ec28d04076871000d581c17186f1453ff", func := "loop.example/vectorraster/laws.FnWindingAtOutside", spec := "fnWindingAtOutside", unfollowed := true, recurses := true, apart := false }
def FnWindingAtOutsideSaid : Prop := fnWindingAtOutsideRow.holds Try.pinned (OpenSpec.ofChange fnWindingAtOutsideSpec)

/-- ITS FALSE NEIGHBOUR: 'it returns false'. Refute it at one input. -/
def fnWindingAtOutsideWrong : ChangeSpec := { name := "fnWindingAtOutside", fn := fun _ => fun
  | [d] => { results := [.lit (.bool false)], args := [d] }
  | _ => none }
def FnWindingAtOutsideWrongFalsely : Prop := fnWindingAtOutsideRow.holds Try.pinned (OpenSpec.ofChange fnWindingAtOutsideWrong)

/-- 'laws.FnBackdropOf': WHATEVER THE INPUT: true; the input reads as it did. -/
def fnBackdropOfSpec : ChangeSpec := { name := "fnBackdropOf", fn := fun _ => fun
  | [d] => { results := [.lit (.bool true)], args := [d] }
  | _ => none }
def fnBackdropOfRow : OpenClaim := { program := "yteankmkhieckbaa", sum := "c7d5d235363e809cf6ee07df382c0f6ec28d04076871000d581c17186f1453ff", func := "loop.example/vectorraster/laws.FnBackdropOf", spec := "fnBackdropOf", unfollowed := true, recurses := true, apart := false }
def FnBackdropOfSaid : Prop := fnBackdropOfRow.holds Try.pinned (OpenSpec.ofChange fnBackdropOfSpec)

/-- ITS FALSE NEIGHBOUR: 'it returns false'. Refute it at one input. -/
def fnBackdropOfWrong : ChangeSpec := { name := "fnBackdropOf", fn := fun _ => fun
  | [d] => { results := [.lit (.bool false)], args := [d] }
  | _ => none }
def FnBackdropOfWrongFalsely : Prop := fnBackdropOfRow.holds Try.pinned (OpenSpec.ofChange fnBackdropOfWrong)

/-- 'laws.FnBackdropOfReverse': WHATEVER THE INPUT: true; the input reads as it did. -/
def fnBackdropOfReverseSpec : ChangeSpec := { name := "fnBackdropOfReverse", fn := fun _ => fun
  | [d] => { results := [.lit (.bool true)], args := [d] }
  | _ => none }
def fnBackdropOfReverseRow : OpenClaim := { program := "yteankmkhieckbaa", sum := "c7d5d235363e809cf6ee07df382c0f6ec28d04076871000d581c17186f1453ff", func := "loop.example/vectorraster/laws.FnBackdropOfReverse", spec := "fnBackdropOfReverse", unfollowed := true, recurses := true, apart := false }
def FnBackdropOfReverseSaid : Prop := fnBackdropOfReverseRow.holds Try.pinned (OpenSpec.ofChange fnBackdropOfReverseSpec)

/-- ITS FALSE NEIGHBOUR: 'it returns false'. Refute it at one input. -/
def fnBackdropOfReverseWrong : ChangeSpec := { name := "fnBackdropOfReverse", fn := fun _ => fun
  | [d] => { results := [.lit (.bool false)], args := [d] }
  | _ => none }
def FnBackdropOfReverseWrongFalsely : Prop := fnBackdropOfReverseRow.holds Try.pinned (OpenSpec.ofChange fnBackdropOfReverseWrong)

/- THE SECOND FORM. 'bulk': how many values and letters a reading holds, each counted each time it is reached (what is shared counts as often as it is met; a slice's spare places count too). A statement '..UptoSaid' is the law's where the arguments, and the package variables that the reading takes, are together of bulk at most 1048576: NARROWER than '..Said'. Prove '..Said' where nothing that the law and all that it calls make is longer than what came in: it says more and counts as full. Else prove '..UptoSaid'. A law counts once. -/
mutual
def uptoBulk {H : Type} : DataW H → Nat
  | .lit (.string bytes) => bytes.length + 1
  | .lit _ => 1
  | .nil => 1
  | .ptr d => uptoBulk d + 1
  | .slice elems spare => uptoBulkAll elems + uptoBulkAll spare + 1
  | .agg parts => uptoBulkAll parts + 1
  | .iface _ d => uptoBulk d + 1
  | .map entries => uptoBulkEntries entries + 1
  | .held _ => 1
def uptoBulkAll {H : Type} : List (DataW H) → Nat
  | [] => 0
  | d :: r => uptoBulk d + uptoBulkAll r
def uptoBulkEntries {H : Type} : List (Lit × DataW H) → Nat
  | [] => 0
  | x :: r => uptoBulkEntry x + uptoBulkEntries r
def uptoBulkEntry {H : Type} : Lit × DataW H → Nat
  | (.string bytes, d) => bytes.length + uptoBulk d + 1
  | (_, d) => uptoBulk d + 1
 end
def uptoSmall : (H : Type) → List (DataW H) → Bool := fun _ ds => decide (uptoBulkAll ds ≤ 1048576)
def OpenSpec.upto (s : _root_.Go.ChangeSpec) : _root_.Go.OpenSpec := { _root_.Go.OpenSpec.ofChange s with cond := some uptoSmall }

/-- 'laws.FnExactCoverOf', WHERE WHAT IT READS IS OF BULK AT MOST 1048576: true; the input reads as it did. -/
def fnExactCoverOfUptoRow : OpenClaim := { program := "yteankmkhieckbaa", sum := "c7d5d235363e809cf6ee07df382c0f6ec28d04076871000d581c17186f1453ff", func := "loop.example/vectorraster/laws.FnExactCoverOf", spec := "fnExactCoverOf", unfollowed := true, recurses := true, apart := false, narrowed := true }
def FnExactCoverOfUptoSaid : Prop := fnExactCoverOfUptoRow.holds Try.pinned (OpenSpec.upto fnExactCoverOfSpec)

/-- 'laws.FnExactMaskOf', WHERE WHAT IT READS IS OF BULK AT MOST 1048576: true; the input reads as it did. -/
def fnExactMaskOfUptoRow : OpenClaim := { program := "yteankmkhieckbaa", sum := "c7d5d235363e809cf6ee07df382c0f6ec28d04076871000d581c17186f1453ff", func := "loop.example/vectorraster/laws.FnExactMaskOf", spec := "fnExactMaskOf", unfollowed := true, recurses := true, apart := false, narrowed := true }
def FnExactMaskOfUptoSaid : Prop := fnExactMaskOfUptoRow.holds Try.pinned (OpenSpec.upto fnExactMaskOfSpec)

/-- 'laws.FnAreaOfTurn', WHERE WHAT IT READS IS OF BULK AT MOST 1048576: true; the input reads as it did. -/
def fnAreaOfTurnUptoRow : OpenClaim := { program := "yteankmkhieckbaa", sum := "c7d5d235363e809cf6ee07df382c0f6ec28d04076871000d581c17186f1453ff", func := "loop.example/vectorraster/laws.FnAreaOfTurn", spec := "fnAreaOfTurn", unfollowed := true, recurses := true, apart := false, narrowed := true }
def FnAreaOfTurnUptoSaid : Prop := fnAreaOfTurnUptoRow.holds Try.pinned (OpenSpec.upto fnAreaOfTurnSpec)

/-- 'laws.FnAreaOf', WHERE WHAT IT READS IS OF BULK AT MOST 1048576: true; the input reads as it did. -/
def fnAreaOfUptoRow : OpenClaim := { program := "yteankmkhieckbaa", sum := "c7d5d235363e809cf6ee07df382c0f6ec28d04076871000d581c17186f1453ff", func := "loop.example/vectorraster/laws.FnAreaOf", spec := "fnAreaOf", unfollowed := true, recurses := true, apart := false, narrowed := true }
def FnAreaOfUptoSaid : Prop := fnAreaOfUptoRow.holds Try.pinned (OpenSpec.upto fnAreaOfSpec)

/-- 'laws.FnAreaOfMove', WHERE WHAT IT READS IS OF BULK AT MOST 1048576: true; the input reads as it did. -/
def fnAreaOfMoveUptoRow : OpenClaim := { program := "yteankmkhieckbaa", sum := "c7d5d235363e809cf6ee07df382c0f6ec28d04076871000d581c17186f1453ff", func := "loop.example/vectorraster/laws.FnAreaOfMove", spec := "fnAreaOfMove", unfollowed := true, recurses := true, apart := false, narrowed := true }
def FnAreaOfMoveUptoSaid : Prop := fnAreaOfMoveUptoRow.holds Try.pinned (OpenSpec.upto fnAreaOfMoveSpec)

/-- 'laws.FnWindingAt', WHERE WHAT IT READS IS OF BULK AT MOST 1048576: true; the input reads as it did. -/
def fnWindingAtUptoRow : OpenClaim := { program := "yteankmkhieckbaa", sum := "c7d5d235363e809cf6ee07df382c0f6ec28d04076871000d581c17186f1453ff", func := "loop.example/vectorraster/laws.FnWindingAt", spec := "fnWindingAt", unfollowed := true, recurses := true, apart := false, narrowed := true }
def FnWindingAtUptoSaid : Prop := fnWindingAtUptoRow.holds Try.pinned (OpenSpec.upto fnWindingAtSpec)

/-- 'laws.FnWindingAtTurn', WHERE WHAT IT READS IS OF BULK AT MOST 1048576: true; the input reads as it did. -/
def fnWindingAtTurnUptoRow : OpenClaim := { program := "yteankmkhieckbaa", sum := "c7d5d235363e809cf6ee07df382c0f6ec28d04076871000d581c17186f1453ff", func := "loop.example/vectorraster/laws.FnWindingAtTurn", spec := "fnWindingAtTurn", unfollowed := true, recurses := true, apart := false, narrowed := true }
def FnWindingAtTurnUptoSaid : Prop := fnWindingAtTurnUptoRow.holds Try.pinned (OpenSpec.upto fnWindingAtTurnSpec)

/-- 'laws.FnWindingAtTwice', WHERE WHAT IT READS IS OF BULK AT MOST 1048576: true; the input reads as it did. -/
def fnWindingAtTwiceUptoRow : OpenClaim := { program := "yteankmkhieckbaa", sum := "c7d5d235363e809cf6ee07df382c0f6ec28d04076871000d581c17186f1453ff", func := "loop.example/vectorraster/laws.FnWindingAtTwice", spec := "fnWindingAtTwice", unfollowed := true, recurses := true, apart := false, narrowed := true }
def FnWindingAtTwiceUptoSaid : Prop := fnWindingAtTwiceUptoRow.holds Try.pinned (OpenSpec.upto fnWindingAtTwiceSpec)

/-- 'laws.FnWindingAtReverse', WHERE WHAT IT READS IS OF BULK AT MOST 1048576: true; the input reads as it did. -/
def fnWindingAtReverseUptoRow : OpenClaim := { program := "yteankmkhieckbaa", sum := "c7d5d235363e809cf6ee07df382c0f6ec28d04076871000d581c17186f1453ff", func := "loop.example/vectorraster/laws.FnWindingAtReverse", spec := "fnWindingAtReverse", unfollowed := true, recurses := true, apart := false, narrowed := true }
def FnWindingAtReverseUptoSaid : Prop := fnWindingAtReverseUptoRow.holds Try.pinned (OpenSpec.upto fnWindingAtReverseSpec)

/-- 'laws.FnWindingAtOutside', WHERE WHAT IT READS IS OF BULK AT MOST 1048576: true; the input reads as it did. -/
def fnWindingAtOutsideUptoRow : OpenClaim := { program := "yteankmkhieckbaa", sum := "c7d5d235363e809cf6ee07df382c0f6ec28d04076871000d581c17186f1453ff", func := "loop.example/vectorraster/laws.FnWindingAtOutside", spec := "fnWindingAtOutside", unfollowed := true, recurses := true, apart := false, narrowed := true }
def FnWindingAtOutsideUptoSaid : Prop := fnWindingAtOutsideUptoRow.holds Try.pinned (OpenSpec.upto fnWindingAtOutsideSpec)

/-- 'laws.FnBackdropOf', WHERE WHAT IT READS IS OF BULK AT MOST 1048576: true; the input reads as it did. -/
def fnBackdropOfUptoRow : OpenClaim := { program := "yteankmkhieckbaa", sum := "c7d5d235363e809cf6ee07df382c0f6ec28d04076871000d581c17186f1453ff", func := "loop.example/vectorraster/laws.FnBackdropOf", spec := "fnBackdropOf", unfollowed := true, recurses := true, apart := false, narrowed := true }
def FnBackdropOfUptoSaid : Prop := fnBackdropOfUptoRow.holds Try.pinned (OpenSpec.upto fnBackdropOfSpec)

/-- 'laws.FnBackdropOfReverse', WHERE WHAT IT READS IS OF BULK AT MOST 1048576: true; the input reads as it did. -/
def fnBackdropOfReverseUptoRow : OpenClaim := { program := "yteankmkhieckbaa", sum := "c7d5d235363e809cf6ee07df382c0f6ec28d04076871000d581c17186f1453ff", func := "loop.example/vectorraster/laws.FnBackdropOfReverse", spec := "fnBackdropOfReverse", unfollowed := true, recurses := true, apart := false, narrowed := true }
def FnBackdropOfReverseUptoSaid : Prop := fnBackdropOfReverseUptoRow.holds Try.pinned (OpenSpec.upto fnBackdropOfReverseSpec)

end Rows
end Go.Proofs.Yteankmkhieckbaa
