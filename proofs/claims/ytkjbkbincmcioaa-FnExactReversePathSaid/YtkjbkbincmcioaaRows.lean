/-
  No cell of these rows narrows 'for every input' (looked for: loops, veiled, ifaces, maps, wideKeys, modest, calm, conditions, laid).
  DERIVED. THE GIVEN ROWS OF THIS SEAT. 3 by the template 'for every input the law returns true; each argument reads behind the call as it read before'; 0 by the template 'total and deterministic' (their statements: YtkjbkbincmcioaaTotals.lean).
  GIVEN WITH THE SEED: the statements are not yours to turn. If you find one false, say at which input.
  Laid BY PROGRAM, IN A SANDBOX (cutbox-rows.mjs): the forced cells as the released guide's own fill.sh prints them over the translation 4aa350ca106d58ee… (all of the seat's roots in one cut). By AI agents, Wed Nov 11 2026. No macro, syntax, notation, axiom, sorry.
-/
import Derived.Test.YtkjbkbincmcioaaChecked
import GoSem.Claim
import GoSem.ClaimJoined
import GoSem.ClaimMapViews
import Derived.JoinedTies
import Derived.KernelRfl
namespace Go.Proofs.Ytkjbkbincmcioaa
/- THE CELL 'sum', in the pinned program and in every row, IS THE sha256 OF THE DUMP (.gsa) THAT YtkjbkbincmcioaaProg.lean LOADS. Nothing in Lean hashes anything: it is a label: what it is worth is what the hold of that sum in a sandbox is worth. -/
noncomputable def Try.pinned : Pinned := { name := "ytkjbkbincmcioaa", sum := "4aa350ca106d58ee967853830ff19d1e08b50d654395dc35f4ec920efff02086", checked := Try.checked }
namespace Rows
def none {H : Type} : Left H := { results := [], args := [] }

/-- 'laws.FnExactRoundPath': WHATEVER THE INPUT: true; the input reads as it did. -/
def fnExactRoundPathSpec : ChangeSpec := { name := "fnExactRoundPath", fn := fun _ => fun
  | [d1, d2] => { results := [.lit (.bool true)], args := [d1, d2] }
  | _ => none }
def fnExactRoundPathRow : OpenClaim := { program := "ytkjbkbincmcioaa", sum := "4aa350ca106d58ee967853830ff19d1e08b50d654395dc35f4ec920efff02086", func := "loop.example/vectorraster/laws.FnExactRoundPath", spec := "fnExactRoundPath", unfollowed := true, recurses := true, apart := false }
def FnExactRoundPathSaid : Prop := fnExactRoundPathRow.holds Try.pinned (OpenSpec.ofChange fnExactRoundPathSpec)

/-- ITS FALSE NEIGHBOUR: 'it returns false'. Refute it at one input. -/
def fnExactRoundPathWrong : ChangeSpec := { name := "fnExactRoundPath", fn := fun _ => fun
  | [d1, d2] => { results := [.lit (.bool false)], args := [d1, d2] }
  | _ => none }
def FnExactRoundPathWrongFalsely : Prop := fnExactRoundPathRow.holds Try.pinned (OpenSpec.ofChange fnExactRoundPathWrong)

/-- 'laws.FnRoundPath': WHATEVER THE INPUT: true; the input reads as it did. -/
def fnRoundPathSpec : ChangeSpec := { name := "fnRoundPath", fn := fun _ => fun
  | [d] => { results := [.lit (.bool true)], args := [d] }
  | _ => none }
def fnRoundPathRow : OpenClaim := { program := "ytkjbkbincmcioaa", sum := "4aa350ca106d58ee967853830ff19d1e08b50d654395dc35f4ec920efff02086", func := "loop.example/vectorraster/laws.FnRoundPath", spec := "fnRoundPath", unfollowed := true, recurses := true, apart := false }
def FnRoundPathSaid : Prop := fnRoundPathRow.holds Try.pinned (OpenSpec.ofChange fnRoundPathSpec)

/-- ITS FALSE NEIGHBOUR: 'it returns false'. Refute it at one input. -/
def fnRoundPathWrong : ChangeSpec := { name := "fnRoundPath", fn := fun _ => fun
  | [d] => { results := [.lit (.bool false)], args := [d] }
  | _ => none }
def FnRoundPathWrongFalsely : Prop := fnRoundPathRow.holds Try.pinned (OpenSpec.ofChange fnRoundPathWrong)

/-- 'laws.FnExactReversePath': WHATEVER THE INPUT: true; the input reads as it did. -/
def fnExactReversePathSpec : ChangeSpec := { name := "fnExactReversePath", fn := fun _ => fun
  | [d] => { results := [.lit (.bool true)], args := [d] }
  | _ => none }
def fnExactReversePathRow : OpenClaim := { program := "ytkjbkbincmcioaa", sum := "4aa350ca106d58ee967853830ff19d1e08b50d654395dc35f4ec920efff02086", func := "loop.example/vectorraster/laws.FnExactReversePath", spec := "fnExactReversePath", unfollowed := true, recurses := true, apart := false }
def FnExactReversePathSaid : Prop := fnExactReversePathRow.holds Try.pinned (OpenSpec.ofChange fnExactReversePathSpec)

/-- ITS FALSE NEIGHBOUR: 'it returns false'. Refute it at one input. -/
def fnExactReversePathWrong : ChangeSpec := { name := "fnExactReversePath", fn := fun _ => fun
  | [d] => { results := [.lit (.bool false)], args := [d] }
  | _ => none }
def FnExactReversePathWrongFalsely : Prop := fnExactReversePathRow.holds Try.pinned (OpenSpec.ofChange fnExactReversePathWrong)

/- THE SECOND FORM. 'bulk': how many values and letters a reading holds, each counted each time it is reached (what is shared counts as often as it is met; a slice's spare places count too). A statement '..UptoSaid' is the law's where the arguments, and the package variables that the reading takes, are together of bulk at most 1048576: NARROWER than '..Said'. Prove '..Said' where nothing that the law and all that it calls make is longer than what came in: it says more and counts as full. Else prove '..UptoSaid'. A law counts once. -/
mutual
def uptoBulk {H : Type} : DataW H → Nat
  | .lit (.string bytes) => bytes.length + 1
  | .lit _ => 1
  | .nil => 1
  | .ptr d => uptoBulk d + 1
  | .slice elems spare => uptoBulkAll elems + uptoBulkAll spare + 1
  | .agg parts => uptoBulkAll parts + 1
  | .iface _ d => uptoBulk d + 1
  | .map entries => uptoBulkEntries entries + 1
  | .held _ => 1
def uptoBulkAll {H : Type} : List (DataW H) → Nat
  | [] => 0
  | d :: r => uptoBulk d + uptoBulkAll r
def uptoBulkEntries {H : Type} : List (Lit × DataW H) → Nat
  | [] => 0
  | x :: r => uptoBulkEntry x + uptoBulkEntries r
def uptoBulkEntry {H : Type} : Lit × DataW H → Nat
  | (.string bytes, d) => bytes.length + uptoBulk d + 1
  | (_, d) => uptoBulk d + 1
 end
def uptoSmall : (H : Type) → List (DataW H) → Bool := fun _ ds => decide (uptoBulkAll ds ≤ 1048576)
def OpenSpec.upto (s : _root_.Go.ChangeSpec) : _root_.Go.OpenSpec := { _root_.Go.OpenSpec.ofChange s with cond := some uptoSmall }

/-- 'laws.FnExactRoundPath', WHERE WHAT IT READS IS OF BULK AT MOST 1048576: true; the input reads as it did. -/
def fnExactRoundPathUptoRow : OpenClaim := { program := "ytkjbkbincmcioaa", sum := "4aa350ca106d58ee967853830ff19d1e08b50d654395dc35f4ec920efff02086", func := "loop.example/vectorraster/laws.FnExactRoundPath", spec := "fnExactRoundPath", unfollowed := true, recurses := true, apart := false, narrowed := true }
def FnExactRoundPathUptoSaid : Prop := fnExactRoundPathUptoRow.holds Try.pinned (OpenSpec.upto fnExactRoundPathSpec)

/-- 'laws.FnRoundPath', WHERE WHAT IT READS IS OF BULK AT MOST 1048576: true; the input reads as it did. -/
def fnRoundPathUptoRow : OpenClaim := { program := "ytkjbkbincmcioaa", sum := "4aa350ca106d58ee967853830ff19d1e08b50d654395dc35f4ec920efff02086", func := "loop.example/vectorraster/laws.FnRoundPath", spec := "fnRoundPath", unfollowed := true, recurses := true, apart := false, narrowed := true }
def FnRoundPathUptoSaid : Prop := fnRoundPathUptoRow.holds Try.pinned (OpenSpec.upto fnRoundPathSpec)

/-- 'laws.FnExactReversePath', WHERE WHAT IT READS IS OF BULK AT MOST 1048576: true; the input reads as it did. -/
def fnExactReversePathUptoRow : OpenClaim := { program := "ytkjbkbincmcioaa", sum := "4aa350ca106d58ee967853830ff19d1e08b50d654395dc35f4ec920efff02086", func := "loop.example/vectorraster/laws.FnExactReversePath", spec := "fnExactReversePath", unfollowed := true, recurses := true, apart := false, narrowed := true }
def FnExactReversePathUptoSaid : Prop := fnExactReversePathUptoRow.holds Try.pinned (OpenSpec.upto fnExactReversePathSpec)

end Rows
end Go.Proofs.Ytkjbkbincmcioaa
