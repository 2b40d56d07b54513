/-
  No cell of these rows narrows 'for every input' (looked for: loops, veiled, ifaces, maps, wideKeys, modest, calm, conditions, laid).
  DERIVED. THE GIVEN ROWS OF THIS SEAT. 12 by the template 'for every input the law returns true; each argument reads behind the call as it read before'; 0 by the template 'total and deterministic' (their statements: YtonilmpodijgeaaTotals.lean).
  GIVEN WITH THE SEED: the statements are not yours to turn. If you find one false, say at which input.
  Laid BY PROGRAM, IN A SANDBOX (cutbox-rows.mjs): the forced cells as the released guide's own fill.sh prints them over the translation 68b3f39e2bc271e5… (all of the seat's roots in one cut). By AI agents, Wed Nov 11 2026. No macro, syntax, notation, axiom, sorry.
-/
import Derived.Test.YtonilmpodijgeaaChecked
import GoSem.Claim
import GoSem.ClaimJoined
import GoSem.ClaimMapViews
import Derived.JoinedTies
import Derived.KernelRfl
namespace Go.Proofs.Ytonilmpodijgeaa
/- THE CELL 'sum', in the pinned program and in every row, IS THE sha256 OF THE DUMP (.gsa) THAT YtonilmpodijgeaaProg.lean LOADS. Nothing in Lean hashes anything: it is a label: what it is worth is what the hold of that sum in a sandbox is worth. -/
noncomputable def Try.pinned : Pinned := { name := "ytonilmpodijgeaa", sum := "68b3f39e2bc271e5493c5dc8b6994cd990bfad15c19281613600a00d076f18c7", checked := Try.checked }
namespace Rows
def none {H : Type} : Left H := { results := [], args := [] }

/-- 'laws.FnExactIsConvex': WHATEVER THE INPUT: true; the input reads as it did. -/
def fnExactIsConvexSpec : ChangeSpec := { name := "fnExactIsConvex", fn := fun _ => fun
  | [d] => { results := [.lit (.bool true)], args := [d] }
  | _ => none }
def fnExactIsConvexRow : OpenClaim := { program := "ytonilmpodijgeaa", sum := "68b3f39e2bc271e5493c5dc8b6994cd990bfad15c19281613600a00d076f18c7", func := "loop.example/vectorraster/laws.FnExactIsConvex", spec := "fnExactIsConvex", unfollowed := true, recurses := true, apart := false }
def FnExactIsConvexSaid : Prop := fnExactIsConvexRow.holds Try.pinned (OpenSpec.ofChange fnExactIsConvexSpec)

/-- ITS FALSE NEIGHBOUR: 'it returns false'. Refute it at one input. -/
def fnExactIsConvexWrong : ChangeSpec := { name := "fnExactIsConvex", fn := fun _ => fun
  | [d] => { results := [.lit (.bool false)], args := [d] }
  | _ => none }
def FnExactIsConvexWrongFalsely : Prop := fnExactIsConvexRow.holds Try.pinned (OpenSpec.ofChange fnExactIsConvexWrong)

/-- 'laws.FnExactBoxPath': WHATEVER THE INPUT: true; the input reads as it did. -/
def fnExactBoxPathSpec : ChangeSpec := { name := "fnExactBoxPath", fn := fun _ => fun
  | [d] => { results := [.lit (.bool true)], args := [d] }
  | _ => none }
def fnExactBoxPathRow : OpenClaim := { program := "ytonilmpodijgeaa", sum := "68b3f39e2bc271e5493c5dc8b6994cd990bfad15c19281613600a00d076f18c7", func := "loop.example/vectorraster/laws.FnExactBoxPath", spec := "fnExactBoxPath", apart := false }
def FnExactBoxPathSaid : Prop := fnExactBoxPathRow.holds Try.pinned (OpenSpec.ofChange fnExactBoxPathSpec)

/-- ITS FALSE NEIGHBOUR: 'it returns false'. Refute it at one input. -/
def fnExactBoxPathWrong : ChangeSpec := { name := "fnExactBoxPath", fn := fun _ => fun
  | [d] => { results := [.lit (.bool false)], args := [d] }
  | _ => none }
def FnExactBoxPathWrongFalsely : Prop := fnExactBoxPathRow.holds Try.pinned (OpenSpec.ofChange fnExactBoxPathWrong)

/-- 'laws.FnExactRoundPath': WHATEVER THE INPUT: true; the input reads as it did. -/
def fnExactRoundPathSpec : ChangeSpec := { name := "fnExactRoundPath", fn := fun _ => fun
  | [d1, d2] => { results := [.lit (.bool true)], args := [d1, d2] }
  | _ => none }
def fnExactRoundPathRow : OpenClaim := { program := "ytonilmpodijgeaa", sum := "68b3f39e2bc271e5493c5dc8b6994cd990bfad15c19281613600a00d076f18c7", func := "loop.example/vectorraster/laws.FnExactRoundPath", spec := "fnExactRoundPath", unfollowed := true, recurses := true, apart := false }
def FnExactRoundPathSaid : Prop := fnExactRoundPathRow.holds Try.pinned (OpenSpec.ofChange fnExactRoundPathSpec)

/-- ITS FALSE NEIGHBOUR: 'it returns false'. Refute it at one input. -/
def fnExactRoundPathWrong : ChangeSpec := { name := "fnExactRoundPath", fn := fun _ => fun
  | [d1, d2] => { results := [.lit (.bool false)], args := [d1, d2] }
  | _ => none }
def FnExactRoundPathWrongFalsely : Prop := fnExactRoundPathRow.holds Try.pinned (OpenSpec.ofChange fnExactRoundPathWrong)

/-- 'laws.FnExactCleanRing': WHATEVER THE INPUT: true; the input reads as it did. -/
def fnExactCleanRingSpec : ChangeSpec := { name := "fnExactCleanRing", fn := fun _ => fun
  | [d] => { results := [.lit (.bool true)], args := [d] }
  | _ => none }
def fnExactCleanRingRow : OpenClaim := { program := "ytonilmpodijgeaa", sum := "68b3f39e2bc271e5493c5dc8b6994cd990bfad15c19281613600a00d076f18c7", func := "loop.example/vectorraster/laws.FnExactCleanRing", spec := "fnExactCleanRing", unfollowed := true, recurses := true, apart := false }
def FnExactCleanRingSaid : Prop := fnExactCleanRingRow.holds Try.pinned (OpenSpec.ofChange fnExactCleanRingSpec)

/-- ITS FALSE NEIGHBOUR: 'it returns false'. Refute it at one input. -/
def fnExactCleanRingWrong : ChangeSpec := { name := "fnExactCleanRing", fn := fun _ => fun
  | [d] => { results := [.lit (.bool false)], args := [d] }
  | _ => none }
def FnExactCleanRingWrongFalsely : Prop := fnExactCleanRingRow.holds Try.pinned (OpenSpec.ofChange fnExactCleanRingWrong)

/-- 'laws.FnExactRhombPath': WHATEVER THE INPUT: true; the input reads as it did. -/
def fnExactRhombPathSpec : ChangeSpec := { name := "fnExactRhombPath", fn := fun _ => fun
  | [d1, d2] => { results := [.lit (.bool true)], args := [d1, d2] }
  | _ => none }
def fnExactRhombPathRow : OpenClaim := { program := "ytonilmpodijgeaa", sum := "68b3f39e2bc271e5493c5dc8b6994cd990bfad15c19281613600a00d076f18c7", func := "loop.example/vectorraster/laws.FnExactRhombPath", spec := "fnExactRhombPath", unfollowed := true, recurses := true, apart := false }
def FnExactRhombPathSaid : Prop := fnExactRhombPathRow.holds Try.pinned (OpenSpec.ofChange fnExactRhombPathSpec)

/-- ITS FALSE NEIGHBOUR: 'it returns false'. Refute it at one input. -/
def fnExactRhombPathWrong : ChangeSpec := { name := "fnExactRhombPath", fn := fun _ => fun
  | [d1, d2] => { results := [.lit (.bool false)], args := [d1, d2] }
  | _ => none }
def FnExactRhombPathWrongFalsely : Prop := fnExactRhombPathRow.holds Try.pinned (OpenSpec.ofChange fnExactRhombPathWrong)

/-- 'laws.FnCleanRingAgain': WHATEVER THE INPUT: true; the input reads as it did. -/
def fnCleanRingAgainSpec : ChangeSpec := { name := "fnCleanRingAgain", fn := fun _ => fun
  | [d] => { results := [.lit (.bool true)], args := [d] }
  | _ => none }
def fnCleanRingAgainRow : OpenClaim := { program := "ytonilmpodijgeaa", sum := "68b3f39e2bc271e5493c5dc8b6994cd990bfad15c19281613600a00d076f18c7", func := "loop.example/vectorraster/laws.FnCleanRingAgain", spec := "fnCleanRingAgain", unfollowed := true, recurses := true, apart := false }
def FnCleanRingAgainSaid : Prop := fnCleanRingAgainRow.holds Try.pinned (OpenSpec.ofChange fnCleanRingAgainSpec)

/-- ITS FALSE NEIGHBOUR: 'it returns false'. Refute it at one input. -/
def fnCleanRingAgainWrong : ChangeSpec := { name := "fnCleanRingAgain", fn := fun _ => fun
  | [d] => { results := [.lit (.bool false)], args := [d] }
  | _ => none }
def FnCleanRingAgainWrongFalsely : Prop := fnCleanRingAgainRow.holds Try.pinned (OpenSpec.ofChange fnCleanRingAgainWrong)

/-- 'laws.FnValidPath': WHATEVER THE INPUT: true; the input reads as it did. -/
def fnValidPathSpec : ChangeSpec := { name := "fnValidPath", fn := fun _ => fun
  | [d] => { results := [.lit (.bool true)], args := [d] }
  | _ => none }
def fnValidPathRow : OpenClaim := { program := "ytonilmpodijgeaa", sum := "68b3f39e2bc271e5493c5dc8b6994cd990bfad15c19281613600a00d076f18c7", func := "loop.example/vectorraster/laws.FnValidPath", spec := "fnValidPath", unfollowed := true, recurses := true, apart := false }
def FnValidPathSaid : Prop := fnValidPathRow.holds Try.pinned (OpenSpec.ofChange fnValidPathSpec)

/-- ITS FALSE NEIGHBOUR: 'it returns false'. Refute it at one input. -/
def fnValidPathWrong : ChangeSpec := { name := "fnValidPath", fn := fun _ => fun
  | [d] => { results := [.lit (.bool false)], args := [d] }
  | _ => none }
def FnValidPathWrongFalsely : Prop := fnValidPathRow.holds Try.pinned (OpenSpec.ofChange fnValidPathWrong)

/-- 'laws.FnCleanRingBox': WHATEVER THE INPUT: true; the input reads as it did. -/
def fnCleanRingBoxSpec : ChangeSpec := { name := "fnCleanRingBox", fn := fun _ => fun
  | [d] => { results := [.lit (.bool true)], args := [d] }
  | _ => none }
def fnCleanRingBoxRow : OpenClaim := { program := "ytonilmpodijgeaa", sum := "68b3f39e2bc271e5493c5dc8b6994cd990bfad15c19281613600a00d076f18c7", func := "loop.example/vectorraster/laws.FnCleanRingBox", spec := "fnCleanRingBox", unfollowed := true, recurses := true, apart := false }
def FnCleanRingBoxSaid : Prop := fnCleanRingBoxRow.holds Try.pinned (OpenSpec.ofChange fnCleanRingBoxSpec)

/-- ITS FALSE NEIGHBOUR: 'it returns false'. Refute it at one input. -/
def fnCleanRingBoxWrong : ChangeSpec := { name := "fnCleanRingBox", fn := fun _ => fun
  | [d] => { results := [.lit (.bool false)], args := [d] }
  | _ => none }
def FnCleanRingBoxWrongFalsely : Prop := fnCleanRingBoxRow.holds Try.pinned (OpenSpec.ofChange fnCleanRingBoxWrong)

/-- 'laws.FnPaintAtOne': WHATEVER THE INPUT: true; the input reads as it did. -/
def fnPaintAtOneSpec : ChangeSpec := { name := "fnPaintAtOne", fn := fun _ => fun
  | [d] => { results := [.lit (.bool true)], args := [d] }
  | _ => none }
def fnPaintAtOneRow : OpenClaim := { program := "ytonilmpodijgeaa", sum := "68b3f39e2bc271e5493c5dc8b6994cd990bfad15c19281613600a00d076f18c7", func := "loop.example/vectorraster/laws.FnPaintAtOne", spec := "fnPaintAtOne", unfollowed := true, recurses := true, apart := false }
def FnPaintAtOneSaid : Prop := fnPaintAtOneRow.holds Try.pinned (OpenSpec.ofChange fnPaintAtOneSpec)

/-- ITS FALSE NEIGHBOUR: 'it returns false'. Refute it at one input. -/
def fnPaintAtOneWrong : ChangeSpec := { name := "fnPaintAtOne", fn := fun _ => fun
  | [d] => { results := [.lit (.bool false)], args := [d] }
  | _ => none }
def FnPaintAtOneWrongFalsely : Prop := fnPaintAtOneRow.holds Try.pinned (OpenSpec.ofChange fnPaintAtOneWrong)

/-- 'laws.FnIsConvex': WHATEVER THE INPUT: true; the input reads as it did. -/
def fnIsConvexSpec : ChangeSpec := { name := "fnIsConvex", fn := fun _ => fun
  | [d] => { results := [.lit (.bool true)], args := [d] }
  | _ => none }
def fnIsConvexRow : OpenClaim := { program := "ytonilmpodijgeaa", sum := "68b3f39e2bc271e5493c5dc8b6994cd990bfad15c19281613600a00d076f18c7", func := "loop.example/vectorraster/laws.FnIsConvex", spec := "fnIsConvex", unfollowed := true, recurses := true, apart := false }
def FnIsConvexSaid : Prop := fnIsConvexRow.holds Try.pinned (OpenSpec.ofChange fnIsConvexSpec)

/-- ITS FALSE NEIGHBOUR: 'it returns false'. Refute it at one input. -/
def fnIsConvexWrong : ChangeSpec := { name := "fnIsConvex", fn := fun _ => fun
  | [d] => { results := [.lit (.bool false)], args := [d] }
  | _ => none }
def FnIsConvexWrongFalsely : Prop := fnIsConvexRow.holds Try.pinned (OpenSpec.ofChange fnIsConvexWrong)

/-- 'laws.FnWorkOrder': WHATEVER THE INPUT: true; the input reads as it did. -/
def fnWorkOrderSpec : ChangeSpec := { name := "fnWorkOrder", fn := fun _ => fun
  | [d] => { results := [.lit (.bool true)], args := [d] }
  | _ => none }
def fnWorkOrderRow : OpenClaim := { program := "ytonilmpodijgeaa", sum := "68b3f39e2bc271e5493c5dc8b6994cd990bfad15c19281613600a00d076f18c7", func := "loop.example/vectorraster/laws.FnWorkOrder", spec := "fnWorkOrder", unfollowed := true, recurses := true, apart := false }
def FnWorkOrderSaid : Prop := fnWorkOrderRow.holds Try.pinned (OpenSpec.ofChange fnWorkOrderSpec)

/-- ITS FALSE NEIGHBOUR: 'it returns false'. Refute it at one input. -/
def fnWorkOrderWrong : ChangeSpec := { name := "fnWorkOrder", fn := fun _ => fun
  | [d] => { results := [.lit (.bool false)], args := [d] }
  | _ => none }
def FnWorkOrderWrongFalsely : Prop := fnWorkOrderRow.holds Try.pinned (OpenSpec.ofChange fnWorkOrderWrong)

/-- 'laws.FnPaintAt': WHATEVER THE INPUT: true; the input reads as it did. -/
def fnPaintAtSpec : ChangeSpec := { name := "fnPaintAt", fn := fun _ => fun
  | [d] => { results := [.lit (.bool true)], args := [d] }
  | _ => none }
def fnPaintAtRow : OpenClaim := { program := "ytonilmpodijgeaa", sum := "68b3f39e2bc271e5493c5dc8b6994cd990bfad15c19281613600a00d076f18c7", func := "loop.example/vectorraster/laws.FnPaintAt", spec := "fnPaintAt", unfollowed := true, recurses := true, apart := false }
def FnPaintAtSaid : Prop := fnPaintAtRow.holds Try.pinned (OpenSpec.ofChange fnPaintAtSpec)

/-- ITS FALSE NEIGHBOUR: 'it returns false'. Refute it at one input. -/
def fnPaintAtWrong : ChangeSpec := { name := "fnPaintAt", fn := fun _ => fun
  | [d] => { results := [.lit (.bool false)], args := [d] }
  | _ => none }
def FnPaintAtWrongFalsely : Prop := fnPaintAtRow.holds Try.pinned (OpenSpec.ofChange fnPaintAtWrong)

/- THE SECOND FORM. 'bulk': how many values and letters a reading holds, each counted each time it is reached (what is shared counts as often as it is met; a slice's spare places count too). A statement '..UptoSaid' is the law's where the arguments, and the package variables that the reading takes, are together of bulk at most 1048576: NARROWER than '..Said'. Prove '..Said' where nothing that the law and all that it calls make is longer than what came in: it says more and counts as full. Else prove '..UptoSaid'. A law counts once. -/
mutual
def uptoBulk {H : Type} : DataW H → Nat
  | .lit (.string bytes) => bytes.length + 1
  | .lit _ => 1
  | .nil => 1
  | .ptr d => uptoBulk d + 1
  | .slice elems spare => uptoBulkAll elems + uptoBulkAll spare + 1
  | .agg parts => uptoBulkAll parts + 1
  | .iface _ d => uptoBulk d + 1
  | .map entries => uptoBulkEntries entries + 1
  | .held _ => 1
def uptoBulkAll {H : Type} : List (DataW H) → Nat
  | [] => 0
  | d :: r => uptoBulk d + uptoBulkAll r
def uptoBulkEntries {H : Type} : List (Lit × DataW H) → Nat
  | [] => 0
  | x :: r => uptoBulkEntry x + uptoBulkEntries r
def uptoBulkEntry {H : Type} : Lit × DataW H → Nat
  | (.string bytes, d) => bytes.length + uptoBulk d + 1
  | (_, d) => uptoBulk d + 1
 end
def uptoSmall : (H : Type) → List (DataW H) → Bool := fun _ ds => decide (uptoBulkAll ds ≤ 1048576)
def OpenSpec.upto (s : _root_.Go.ChangeSpec) : _root_.Go.OpenSpec := { _root_.Go.OpenSpec.ofChange s with cond := some uptoSmall }

/-- 'laws.FnExactIsConvex', WHERE WHAT IT READS IS OF BULK AT MOST 1048576: true; the input reads as it did. -/
def fnExactIsConvexUptoRow : OpenClaim := { program := "ytonilmpodijgeaa", sum := "68b3f39e2bc271e5493c5dc8b6994cd990bfad15c19281613600a00d076f18c7", func := "loop.example/vectorraster/laws.FnExactIsConvex", spec := "fnExactIsConvex", unfollowed := true, recurses := true, apart := false, narrowed := true }
def FnExactIsConvexUptoSaid : Prop := fnExactIsConvexUptoRow.holds Try.pinned (OpenSpec.upto fnExactIsConvexSpec)

/-- 'laws.FnExactBoxPath', WHERE WHAT IT READS IS OF BULK AT MOST 1048576: true; the input reads as it did. -/
def fnExactBoxPathUptoRow : OpenClaim := { program := "ytonilmpodijgeaa", sum := "68b3f39e2bc271e5493c5dc8b6994cd990bfad15c19281613600a00d076f18c7", func := "loop.example/vectorraster/laws.FnExactBoxPath", spec := "fnExactBoxPath", apart := false, narrowed := true }
def FnExactBoxPathUptoSaid : Prop := fnExactBoxPathUptoRow.holds Try.pinned (OpenSpec.upto fnExactBoxPathSpec)

/-- 'laws.FnExactRoundPath', WHERE WHAT IT READS IS OF BULK AT MOST 1048576: true; the input reads as it did. -/
def fnExactRoundPathUptoRow : OpenClaim := { program := "ytonilmpodijgeaa", sum := "68b3f39e2bc271e5493c5dc8b6994cd990bfad15c19281613600a00d076f18c7", func := "loop.example/vectorraster/laws.FnExactRoundPath", spec := "fnExactRoundPath", unfollowed := true, recurses := true, apart := false, narrowed := true }
def FnExactRoundPathUptoSaid : Prop := fnExactRoundPathUptoRow.holds Try.pinned (OpenSpec.upto fnExactRoundPathSpec)

/-- 'laws.FnExactCleanRing', WHERE WHAT IT READS IS OF BULK AT MOST 1048576: true; the input reads as it did. -/
def fnExactCleanRingUptoRow : OpenClaim := { program := "ytonilmpodijgeaa", sum := "68b3f39e2bc271e5493c5dc8b6994cd990bfad15c19281613600a00d076f18c7", func := "loop.example/vectorraster/laws.FnExactCleanRing", spec := "fnExactCleanRing", unfollowed := true, recurses := true, apart := false, narrowed := true }
def FnExactCleanRingUptoSaid : Prop := fnExactCleanRingUptoRow.holds Try.pinned (OpenSpec.upto fnExactCleanRingSpec)

/-- 'laws.FnExactRhombPath', WHERE WHAT IT READS IS OF BULK AT MOST 1048576: true; the input reads as it did. -/
def fnExactRhombPathUptoRow : OpenClaim := { program := "ytonilmpodijgeaa", sum := "68b3f39e2bc271e5493c5dc8b6994cd990bfad15c19281613600a00d076f18c7", func := "loop.example/vectorraster/laws.FnExactRhombPath", spec := "fnExactRhombPath", unfollowed := true, recurses := true, apart := false, narrowed := true }
def FnExactRhombPathUptoSaid : Prop := fnExactRhombPathUptoRow.holds Try.pinned (OpenSpec.upto fnExactRhombPathSpec)

/-- 'laws.FnCleanRingAgain', WHERE WHAT IT READS IS OF BULK AT MOST 1048576: true; the input reads as it did. -/
def fnCleanRingAgainUptoRow : OpenClaim := { program := "ytonilmpodijgeaa", sum := "68b3f39e2bc271e5493c5dc8b6994cd990bfad15c19281613600a00d076f18c7", func := "loop.example/vectorraster/laws.FnCleanRingAgain", spec := "fnCleanRingAgain", unfollowed := true, recurses := true, apart := false, narrowed := true }
def FnCleanRingAgainUptoSaid : Prop := fnCleanRingAgainUptoRow.holds Try.pinned (OpenSpec.upto fnCleanRingAgainSpec)

/-- 'laws.FnValidPath', WHERE WHAT IT READS IS OF BULK AT MOST 1048576: true; the input reads as it did. -/
def fnValidPathUptoRow : OpenClaim := { program := "ytonilmpodijgeaa", sum := "68b3f39e2bc271e5493c5dc8b6994cd990bfad15c19281613600a00d076f18c7", func := "loop.example/vectorraster/laws.FnValidPath", spec := "fnValidPath", unfollowed := true, recurses := true, apart := false, narrowed := true }
def FnValidPathUptoSaid : Prop := fnValidPathUptoRow.holds Try.pinned (OpenSpec.upto fnValidPathSpec)

/-- 'laws.FnCleanRingBox', WHERE WHAT IT READS IS OF BULK AT MOST 1048576: true; the input reads as it did. -/
def fnCleanRingBoxUptoRow : OpenClaim := { program := "ytonilmpodijgeaa", sum := "68b3f39e2bc271e5493c5dc8b6994cd990bfad15c19281613600a00d076f18c7", func := "loop.example/vectorraster/laws.FnCleanRingBox", spec := "fnCleanRingBox", unfollowed := true, recurses := true, apart := false, narrowed := true }
def FnCleanRingBoxUptoSaid : Prop := fnCleanRingBoxUptoRow.holds Try.pinned (OpenSpec.upto fnCleanRingBoxSpec)

/-- 'laws.FnPaintAtOne', WHERE WHAT IT READS IS OF BULK AT MOST 1048576: true; the input reads as it did. -/
def fnPaintAtOneUptoRow : OpenClaim := { program := "ytonilmpodijgeaa", sum := "68b3f39e2bc271e5493c5dc8b6994cd990bfad15c19281613600a00d076f18c7", func := "loop.example/vectorraster/laws.FnPaintAtOne", spec := "fnPaintAtOne", unfollowed := true, recurses := true, apart := false, narrowed := true }
def FnPaintAtOneUptoSaid : Prop := fnPaintAtOneUptoRow.holds Try.pinned (OpenSpec.upto fnPaintAtOneSpec)

/-- 'laws.FnIsConvex', WHERE WHAT IT READS IS OF BULK AT MOST 1048576: true; the input reads as it did. -/
def fnIsConvexUptoRow : OpenClaim := { program := "ytonilmpodijgeaa", sum := "68b3f39e2bc271e5493c5dc8b6994cd990bfad15c19281613600a00d076f18c7", func := "loop.example/vectorraster/laws.FnIsConvex", spec := "fnIsConvex", unfollowed := true, recurses := true, apart := false, narrowed := true }
def FnIsConvexUptoSaid : Prop := fnIsConvexUptoRow.holds Try.pinned (OpenSpec.upto fnIsConvexSpec)

/-- 'laws.FnWorkOrder', WHERE WHAT IT READS IS OF BULK AT MOST 1048576: true; the input reads as it did. -/
def fnWorkOrderUptoRow : OpenClaim := { program := "ytonilmpodijgeaa", sum := "68b3f39e2bc271e5493c5dc8b6994cd990bfad15c19281613600a00d076f18c7", func := "loop.example/vectorraster/laws.FnWorkOrder", spec := "fnWorkOrder", unfollowed := true, recurses := true, apart := false, narrowed := true }
def FnWorkOrderUptoSaid : Prop := fnWorkOrderUptoRow.holds Try.pinned (OpenSpec.upto fnWorkOrderSpec)

/-- 'laws.FnPaintAt', WHERE WHAT IT READS IS OF BULK AT MOST 1048576: true; the input reads as it did. -/
def fnPaintAtUptoRow : OpenClaim := { program := "ytonilmpodijgeaa", sum := "68b3f39e2bc271e5493c5dc8b6994cd990bfad15c19281613600a00d076f18c7", func := "loop.example/vectorraster/laws.FnPaintAt", spec := "fnPaintAt", unfollowed := true, recurses := true, apart := false, narrowed := true }
def FnPaintAtUptoSaid : Prop := fnPaintAtUptoRow.holds Try.pinned (OpenSpec.upto fnPaintAtSpec)

end Rows
end Go.Proofs.Ytonilmpodijgeaa
