/-
  No cell of these rows narrows 'for every input' (looked for: loops, veiled, ifaces, maps, wideKeys, modest, calm, conditions, laid).
  DERIVED. THE GIVEN ROWS OF THIS SEAT. 4 by the template 'for every input the law returns true; each argument reads behind the call as it read before'; 0 by the template 'total and deterministic' (their statements: YtjiikjkaadfalaaTotals.lean).
  GIVEN WITH THE SEED: the statements are not yours to turn. If you find one false, say at which input.
  Laid BY PROGRAM, IN A SANDBOX (cutbox-rows.mjs): the forced cells as the released guide's own fill.sh prints them over the translation 83490b1b2b2fd7e8… (all of the seat's roots in one cut). By AI agents, Wed Nov 11 2026. No macro, syntax, notation, axiom, sorry.
-/
import Derived.Test.YtjiikjkaadfalaaChecked
import GoSem.Claim
import GoSem.ClaimJoined
import GoSem.ClaimMapViews
import Derived.JoinedTies
import Derived.KernelRfl
namespace Go.Proofs.Ytjiikjkaadfalaa
/- THE CELL 'sum', in the pinned program and in every row, IS THE sha256 OF THE DUMP (.gsa) THAT YtjiikjkaadfalaaProg.lean LOADS. Nothing in Lean hashes anything: it is a label: what it is worth is what the hold of that sum in a sandbox is worth. -/
noncomputable def Try.pinned : Pinned := { name := "ytjiikjkaadfalaa", sum := "83490b1b2b2fd7e89db67b12b8ef4ee2742f355706f9af5498959634a08be727", checked := Try.checked }
namespace Rows
def none {H : Type} : Left H := { results := [], args := [] }

/-- 'laws.FnIsConvexWinding': WHATEVER THE INPUT: true; the input reads as it did. -/
def fnIsConvexWindingSpec : ChangeSpec := { name := "fnIsConvexWinding", fn := fun _ => fun
  | [d] => { results := [.lit (.bool true)], args := [d] }
  | _ => none }
def fnIsConvexWindingRow : OpenClaim := { program := "ytjiikjkaadfalaa", sum := "83490b1b2b2fd7e89db67b12b8ef4ee2742f355706f9af5498959634a08be727", func := "loop.example/vectorraster/laws.FnIsConvexWinding", spec := "fnIsConvexWinding", unfollowed := true, recurses := true, apart := false }
def FnIsConvexWindingSaid : Prop := fnIsConvexWindingRow.holds Try.pinned (OpenSpec.ofChange fnIsConvexWindingSpec)

/-- ITS FALSE NEIGHBOUR: 'it returns false'. Refute it at one input. -/
def fnIsConvexWindingWrong : ChangeSpec := { name := "fnIsConvexWinding", fn := fun _ => fun
  | [d] => { results := [.lit (.bool false)], args := [d] }
  | _ => none }
def FnIsConvexWindingWrongFalsely : Prop := fnIsConvexWindingRow.holds Try.pinned (OpenSpec.ofChange fnIsConvexWindingWrong)

/-- 'laws.FnStrokeRingsLevel': WHATEVER THE INPUT: true; the input reads as it did. -/
def fnStrokeRingsLevelSpec : ChangeSpec := { name := "fnStrokeRingsLevel", fn := fun _ => fun
  | [d] => { results := [.lit (.bool true)], args := [d] }
  | _ => none }
def fnStrokeRingsLevelRow : OpenClaim := { program := "ytjiikjkaadfalaa", sum := "83490b1b2b2fd7e89db67b12b8ef4ee2742f355706f9af5498959634a08be727", func := "loop.example/vectorraster/laws.FnStrokeRingsLevel", spec := "fnStrokeRingsLevel", unfollowed := true, recurses := true, apart := false }
def FnStrokeRingsLevelSaid : Prop := fnStrokeRingsLevelRow.holds Try.pinned (OpenSpec.ofChange fnStrokeRingsLevelSpec)

/-- ITS FALSE NEIGHBOUR: 'it returns false'. Refute it at one input. -/
def fnStrokeRingsLevelWrong : ChangeSpec := { name := "fnStrokeRingsLevel", fn := fun _ => fun
  | [d] => { results := [.lit (.bool false)], args := [d] }
  | _ => none }
def FnStrokeRingsLevelWrongFalsely : Prop := fnStrokeRingsLevelRow.holds Try.pinned (OpenSpec.ofChange fnStrokeRingsLevelWrong)

/-- 'laws.FnStrokeRingsMove': WHATEVER THE INPUT: true; the input reads as it did. -/
def fnStrokeRingsMoveSpec : ChangeSpec := { name := "fnStrokeRingsMove", fn := fun _ => fun
  | [d] => { results := [.lit (.bool true)], args := [d] }
  | _ => none }
def fnStrokeRingsMoveRow : OpenClaim := { program := "ytjiikjkaadfalaa", sum := "83490b1b2b2fd7e89db67b12b8ef4ee2742f355706f9af5498959634a08be727", func := "loop.example/vectorraster/laws.FnStrokeRingsMove", spec := "fnStrokeRingsMove", unfollowed := true, recurses := true, apart := false }
def FnStrokeRingsMoveSaid : Prop := fnStrokeRingsMoveRow.holds Try.pinned (OpenSpec.ofChange fnStrokeRingsMoveSpec)

/-- ITS FALSE NEIGHBOUR: 'it returns false'. Refute it at one input. -/
def fnStrokeRingsMoveWrong : ChangeSpec := { name := "fnStrokeRingsMove", fn := fun _ => fun
  | [d] => { results := [.lit (.bool false)], args := [d] }
  | _ => none }
def FnStrokeRingsMoveWrongFalsely : Prop := fnStrokeRingsMoveRow.holds Try.pinned (OpenSpec.ofChange fnStrokeRingsMoveWrong)

/-- 'laws.FnExactEdgesIn': WHATEVER THE INPUT: true; the input reads as it did. -/
def fnExactEdgesInSpec : ChangeSpec := { name := "fnExactEdgesIn", fn := fun _ => fun
  | [d1, d2, d3, d4] => { results := [.lit (.bool true)], args := [d1, d2, d3, d4] }
  | _ => none }
def fnExactEdgesInRow : OpenClaim := { program := "ytjiikjkaadfalaa", sum := "83490b1b2b2fd7e89db67b12b8ef4ee2742f355706f9af5498959634a08be727", func := "loop.example/vectorraster/laws.FnExactEdgesIn", spec := "fnExactEdgesIn", unfollowed := true, recurses := true, apart := false }
def FnExactEdgesInSaid : Prop := fnExactEdgesInRow.holds Try.pinned (OpenSpec.ofChange fnExactEdgesInSpec)

/-- ITS FALSE NEIGHBOUR: 'it returns false'. Refute it at one input. -/
def fnExactEdgesInWrong : ChangeSpec := { name := "fnExactEdgesIn", fn := fun _ => fun
  | [d1, d2, d3, d4] => { results := [.lit (.bool false)], args := [d1, d2, d3, d4] }
  | _ => none }
def FnExactEdgesInWrongFalsely : Prop := fnExactEdgesInRow.holds Try.pinned (OpenSpec.ofChange fnExactEdgesInWrong)

/- THE SECOND FORM. 'bulk': how many values and letters a reading holds, each counted each time it is reached (what is shared counts as often as it is met; a slice's spare places count too). A statement '..UptoSaid' is the law's where the arguments, and the package variables that the reading takes, are together of bulk at most 1048576: NARROWER than '..Said'. Prove '..Said' where nothing that the law and all that it calls make is longer than what came in: it says more and counts as full. Else prove '..UptoSaid'. A law counts once. -/
mutual
def uptoBulk {H : Type} : DataW H → Nat
  | .lit (.string bytes) => bytes.length + 1
  | .lit _ => 1
  | .nil => 1
  | .ptr d => uptoBulk d + 1
  | .slice elems spare => uptoBulkAll elems + uptoBulkAll spare + 1
  | .agg parts => uptoBulkAll parts + 1
  | .iface _ d => uptoBulk d + 1
  | .map entries => uptoBulkEntries entries + 1
  | .held _ => 1
def uptoBulkAll {H : Type} : List (DataW H) → Nat
  | [] => 0
  | d :: r => uptoBulk d + uptoBulkAll r
def uptoBulkEntries {H : Type} : List (Lit × DataW H) → Nat
  | [] => 0
  | x :: r => uptoBulkEntry x + uptoBulkEntries r
def uptoBulkEntry {H : Type} : Lit × DataW H → Nat
  | (.string bytes, d) => bytes.length + uptoBulk d + 1
  | (_, d) => uptoBulk d + 1
 end
def uptoSmall : (H : Type) → List (DataW H) → Bool := fun _ ds => decide (uptoBulkAll ds ≤ 1048576)
def OpenSpec.upto (s : _root_.Go.ChangeSpec) : _root_.Go.OpenSpec := { _root_.Go.OpenSpec.ofChange s with cond := some uptoSmall }

/-- 'laws.FnIsConvexWinding', WHERE WHAT IT READS IS OF BULK AT MOST 1048576: true; the input reads as it did. -/
def fnIsConvexWindingUptoRow : OpenClaim := { program := "ytjiikjkaadfalaa", sum := "83490b1b2b2fd7e89db67b12b8ef4ee2742f355706f9af5498959634a08be727", func := "loop.example/vectorraster/laws.FnIsConvexWinding", spec := "fnIsConvexWinding", unfollowed := true, recurses := true, apart := false, narrowed := true }
def FnIsConvexWindingUptoSaid : Prop := fnIsConvexWindingUptoRow.holds Try.pinned (OpenSpec.upto fnIsConvexWindingSpec)

/-- 'laws.FnStrokeRingsLevel', WHERE WHAT IT READS IS OF BULK AT MOST 1048576: true; the input reads as it did. -/
def fnStrokeRingsLevelUptoRow : OpenClaim := { program := "ytjiikjkaadfalaa", sum := "83490b1b2b2fd7e89db67b12b8ef4ee2742f355706f9af5498959634a08be727", func := "loop.example/vectorraster/laws.FnStrokeRingsLevel", spec := "fnStrokeRingsLevel", unfollowed := true, recurses := true, apart := false, narrowed := true }
def FnStrokeRingsLevelUptoSaid : Prop := fnStrokeRingsLevelUptoRow.holds Try.pinned (OpenSpec.upto fnStrokeRingsLevelSpec)

/-- 'laws.FnStrokeRingsMove', WHERE WHAT IT READS IS OF BULK AT MOST 1048576: true; the input reads as it did. -/
def fnStrokeRingsMoveUptoRow : OpenClaim := { program := "ytjiikjkaadfalaa", sum := "83490b1b2b2fd7e89db67b12b8ef4ee2742f355706f9af5498959634a08be727", func := "loop.example/vectorraster/laws.FnStrokeRingsMove", spec := "fnStrokeRingsMove", unfollowed := true, recurses := true, apart := false, narrowed := true }
def FnStrokeRingsMoveUptoSaid : Prop := fnStrokeRingsMoveUptoRow.holds Try.pinned (OpenSpec.upto fnStrokeRingsMoveSpec)

/-- 'laws.FnExactEdgesIn', WHERE WHAT IT READS IS OF BULK AT MOST 1048576: true; the input reads as it did. -/
def fnExactEdgesInUptoRow : OpenClaim := { program := "ytjiikjkaadfalaa", sum := "83490b1b2b2fd7e89db67b12b8ef4ee2742f355706f9af5498959634a08be727", func := "loop.example/vectorraster/laws.FnExactEdgesIn", spec := "fnExactEdgesIn", unfollowed := true, recurses := true, apart := false, narrowed := true }
def FnExactEdgesInUptoSaid : Prop := fnExactEdgesInUptoRow.holds Try.pinned (OpenSpec.upto fnExactEdgesInSpec)

end Rows
end Go.Proofs.Ytjiikjkaadfalaa
