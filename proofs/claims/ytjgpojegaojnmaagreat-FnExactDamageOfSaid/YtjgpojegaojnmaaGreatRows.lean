/-
  No cell of these rows narrows 'for every input' (looked for: loops, veiled, ifaces, maps, wideKeys, modest, calm, conditions, laid).
  DERIVED. THE GIVEN ROWS OF THIS SEAT. 3 by the template 'for every input the law returns true; each argument reads behind the call as it read before'; 0 by the template 'total and deterministic' (their statements: YtjgpojegaojnmaaGreatTotals.lean).
  GIVEN WITH THE SEED: the statements are not yours to turn. If you find one false, say at which input.
  Laid BY PROGRAM, IN A SANDBOX (cutbox-rows.mjs): the forced cells as the released guide's own fill.sh prints them over the translation da5618e0abb09f9c… (all of the seat's roots in one cut). By AI agents, Wed Nov 11 2026. No macro, syntax, notation, axiom, sorry.
-/
import Derived.Test.YtjgpojegaojnmaaGreatChecked
import GoSem.Claim
import GoSem.ClaimJoined
import GoSem.ClaimMapViews
import Derived.JoinedTies
import Derived.KernelRfl
namespace Go.Proofs.YtjgpojegaojnmaaGreat
/- THE CELL 'sum', in the pinned program and in every row, IS THE sha256 OF THE DUMP (.gsa) THAT YtjgpojegaojnmaaGreatProg.lean LOADS. Nothing in Lean hashes anything: it is a label: what it is worth is what the hold of that sum in a sandbox is worth. -/
noncomputable def Tryz.pinned : Pinned := { name := "ytjgpojegaojnmaagreat", sum := "da5618e0abb09f9cc63753a6f863a4deb8f63cc6ecd144e47fc9f02b8f28c826", checked := Tryz.checked }
namespace Rows
def none {H : Type} : Left H := { results := [], args := [] }

/-- 'laws.FnExactPixelOf': WHATEVER THE INPUT: true; the input reads as it did. -/
def fnExactPixelOfSpec : ChangeSpec := { name := "fnExactPixelOf", fn := fun _ => fun
  | [d1, d2, d3] => { results := [.lit (.bool true)], args := [d1, d2, d3] }
  | _ => none }
def fnExactPixelOfRow : OpenClaim := { program := "ytjgpojegaojnmaagreat", sum := "da5618e0abb09f9cc63753a6f863a4deb8f63cc6ecd144e47fc9f02b8f28c826", func := "loop.example/vectorraster/laws.FnExactPixelOf", spec := "fnExactPixelOf", unfollowed := true, recurses := true, apart := false }
def FnExactPixelOfSaid : Prop := fnExactPixelOfRow.holds Tryz.pinned (OpenSpec.ofChange fnExactPixelOfSpec)

/-- ITS FALSE NEIGHBOUR: 'it returns false'. Refute it at one input. -/
def fnExactPixelOfWrong : ChangeSpec := { name := "fnExactPixelOf", fn := fun _ => fun
  | [d1, d2, d3] => { results := [.lit (.bool false)], args := [d1, d2, d3] }
  | _ => none }
def FnExactPixelOfWrongFalsely : Prop := fnExactPixelOfRow.holds Tryz.pinned (OpenSpec.ofChange fnExactPixelOfWrong)

/-- 'laws.FnExactDrawScene': WHATEVER THE INPUT: true; the input reads as it did. -/
def fnExactDrawSceneSpec : ChangeSpec := { name := "fnExactDrawScene", fn := fun _ => fun
  | [d] => { results := [.lit (.bool true)], args := [d] }
  | _ => none }
def fnExactDrawSceneRow : OpenClaim := { program := "ytjgpojegaojnmaagreat", sum := "da5618e0abb09f9cc63753a6f863a4deb8f63cc6ecd144e47fc9f02b8f28c826", func := "loop.example/vectorraster/laws.FnExactDrawScene", spec := "fnExactDrawScene", unfollowed := true, recurses := true, apart := false }
def FnExactDrawSceneSaid : Prop := fnExactDrawSceneRow.holds Tryz.pinned (OpenSpec.ofChange fnExactDrawSceneSpec)

/-- ITS FALSE NEIGHBOUR: 'it returns false'. Refute it at one input. -/
def fnExactDrawSceneWrong : ChangeSpec := { name := "fnExactDrawScene", fn := fun _ => fun
  | [d] => { results := [.lit (.bool false)], args := [d] }
  | _ => none }
def FnExactDrawSceneWrongFalsely : Prop := fnExactDrawSceneRow.holds Tryz.pinned (OpenSpec.ofChange fnExactDrawSceneWrong)

/-- 'laws.FnExactDamageOf': WHATEVER THE INPUT: true; the input reads as it did. -/
def fnExactDamageOfSpec : ChangeSpec := { name := "fnExactDamageOf", fn := fun _ => fun
  | [d1, d2, d3] => { results := [.lit (.bool true)], args := [d1, d2, d3] }
  | _ => none }
def fnExactDamageOfRow : OpenClaim := { program := "ytjgpojegaojnmaagreat", sum := "da5618e0abb09f9cc63753a6f863a4deb8f63cc6ecd144e47fc9f02b8f28c826", func := "loop.example/vectorraster/laws.FnExactDamageOf", spec := "fnExactDamageOf", unfollowed := true, recurses := true, apart := false }
def FnExactDamageOfSaid : Prop := fnExactDamageOfRow.holds Tryz.pinned (OpenSpec.ofChange fnExactDamageOfSpec)

/-- ITS FALSE NEIGHBOUR: 'it returns false'. Refute it at one input. -/
def fnExactDamageOfWrong : ChangeSpec := { name := "fnExactDamageOf", fn := fun _ => fun
  | [d1, d2, d3] => { results := [.lit (.bool false)], args := [d1, d2, d3] }
  | _ => none }
def FnExactDamageOfWrongFalsely : Prop := fnExactDamageOfRow.holds Tryz.pinned (OpenSpec.ofChange fnExactDamageOfWrong)

/- THE SECOND FORM. 'bulk': how many values and letters a reading holds, each counted each time it is reached (what is shared counts as often as it is met; a slice's spare places count too). A statement '..UptoSaid' is the law's where the arguments, and the package variables that the reading takes, are together of bulk at most 1048576: NARROWER than '..Said'. Prove '..Said' where nothing that the law and all that it calls make is longer than what came in: it says more and counts as full. Else prove '..UptoSaid'. A law counts once. -/
mutual
def uptoBulk {H : Type} : DataW H → Nat
  | .lit (.string bytes) => bytes.length + 1
  | .lit _ => 1
  | .nil => 1
  | .ptr d => uptoBulk d + 1
  | .slice elems spare => uptoBulkAll elems + uptoBulkAll spare + 1
  | .agg parts => uptoBulkAll parts + 1
  | .iface _ d => uptoBulk d + 1
  | .map entries => uptoBulkEntries entries + 1
  | .held _ => 1
def uptoBulkAll {H : Type} : List (DataW H) → Nat
  | [] => 0
  | d :: r => uptoBulk d + uptoBulkAll r
def uptoBulkEntries {H : Type} : List (Lit × DataW H) → Nat
  | [] => 0
  | x :: r => uptoBulkEntry x + uptoBulkEntries r
def uptoBulkEntry {H : Type} : Lit × DataW H → Nat
  | (.string bytes, d) => bytes.length + uptoBulk d + 1
  | (_, d) => uptoBulk d + 1
 end
def uptoSmall : (H : Type) → List (DataW H) → Bool := fun _ ds => decide (uptoBulkAll ds ≤ 1048576)
def OpenSpec.upto (s : _root_.Go.ChangeSpec) : _root_.Go.OpenSpec := { _root_.Go.OpenSpec.ofChange s with cond := some uptoSmall }

/-- 'laws.FnExactPixelOf', WHERE WHAT IT READS IS OF BULK AT MOST 1048576: true; the input reads as it did. -/
def fnExactPixelOfUptoRow : OpenClaim := { program := "ytjgpojegaojnmaagreat", sum := "da5618e0abb09f9cc63753a6f863a4deb8f63cc6ecd144e47fc9f02b8f28c826", func := "loop.example/vectorraster/laws.FnExactPixelOf", spec := "fnExactPixelOf", unfollowed := true, recurses := true, apart := false, narrowed := true }
def FnExactPixelOfUptoSaid : Prop := fnExactPixelOfUptoRow.holds Tryz.pinned (OpenSpec.upto fnExactPixelOfSpec)

/-- 'laws.FnExactDrawScene', WHERE WHAT IT READS IS OF BULK AT MOST 1048576: true; the input reads as it did. -/
def fnExactDrawSceneUptoRow : OpenClaim := { program := "ytjgpojegaojnmaagreat", sum := "da5618e0abb09f9cc63753a6f863a4deb8f63cc6ecd144e47fc9f02b8f28c826", func := "loop.example/vectorraster/laws.FnExactDrawScene", spec := "fnExactDrawScene", unfollowed := true, recurses := true, apart := false, narrowed := true }
def FnExactDrawSceneUptoSaid : Prop := fnExactDrawSceneUptoRow.holds Tryz.pinned (OpenSpec.upto fnExactDrawSceneSpec)

/-- 'laws.FnExactDamageOf', WHERE WHAT IT READS IS OF BULK AT MOST 1048576: true; the input reads as it did. -/
def fnExactDamageOfUptoRow : OpenClaim := { program := "ytjgpojegaojnmaagreat", sum := "da5618e0abb09f9cc63753a6f863a4deb8f63cc6ecd144e47fc9f02b8f28c826", func := "loop.example/vectorraster/laws.FnExactDamageOf", spec := "fnExactDamageOf", unfollowed := true, recurses := true, apart := false, narrowed := true }
def FnExactDamageOfUptoSaid : Prop := fnExactDamageOfUptoRow.holds Tryz.pinned (OpenSpec.upto fnExactDamageOfSpec)

end Rows
end Go.Proofs.YtjgpojegaojnmaaGreat
