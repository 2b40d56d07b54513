/-
  No cell of these rows narrows 'for every input' (looked for: loops, veiled, ifaces, maps, wideKeys, modest, calm, conditions, laid).
  DERIVED. THE GIVEN ROWS OF THIS SEAT. 3 by the template 'for every input the law returns true; each argument reads behind the call as it read before'; 0 by the template 'total and deterministic' (their statements: YtjjnfjnoagfajaaTotals.lean).
  GIVEN WITH THE SEED: the statements are not yours to turn. If you find one false, say at which input.
  Laid BY PROGRAM, IN A SANDBOX (cutbox-rows.mjs): the forced cells as the released guide's own fill.sh prints them over the translation 698098f170cf5a91… (all of the seat's roots in one cut). By AI agents, Wed Nov 11 2026. No macro, syntax, notation, axiom, sorry.
-/
import Derived.Test.YtjjnfjnoagfajaaChecked
import GoSem.Claim
import GoSem.ClaimJoined
import GoSem.ClaimMapViews
import Derived.JoinedTies
import Derived.KernelRfl
namespace Go.Proofs.Ytjjnfjnoagfajaa
/- THE CELL 'sum', in the pinned program and in every row, IS THE sha256 OF THE DUMP (.gsa) THAT YtjjnfjnoagfajaaProg.lean LOADS. Nothing in Lean hashes anything: it is a label: what it is worth is what the hold of that sum in a sandbox is worth. -/
noncomputable def Try.pinned : Pinned := { name := "ytjjnfjnoagfajaa", sum := "698098f170cf5a91911d2e2c4330eb8e13d5d9de22d8681f4703ac81ba1dc2ac", checked := Try.checked }
namespace Rows
def none {H : Type} : Left H := { results := [], args := [] }

/-- 'laws.FnExactValidScene': WHATEVER THE INPUT: true; the input reads as it did. -/
def fnExactValidSceneSpec : ChangeSpec := { name := "fnExactValidScene", fn := fun _ => fun
  | [d] => { results := [.lit (.bool true)], args := [d] }
  | _ => none }
def fnExactValidSceneRow : OpenClaim := { program := "ytjjnfjnoagfajaa", sum := "698098f170cf5a91911d2e2c4330eb8e13d5d9de22d8681f4703ac81ba1dc2ac", func := "loop.example/vectorraster/laws.FnExactValidScene", spec := "fnExactValidScene", unfollowed := true, recurses := true, apart := false }
def FnExactValidSceneSaid : Prop := fnExactValidSceneRow.holds Try.pinned (OpenSpec.ofChange fnExactValidSceneSpec)

/-- ITS FALSE NEIGHBOUR: 'it returns false'. Refute it at one input. -/
def fnExactValidSceneWrong : ChangeSpec := { name := "fnExactValidScene", fn := fun _ => fun
  | [d] => { results := [.lit (.bool false)], args := [d] }
  | _ => none }
def FnExactValidSceneWrongFalsely : Prop := fnExactValidSceneRow.holds Try.pinned (OpenSpec.ofChange fnExactValidSceneWrong)

/-- 'laws.FnExactFillBox': WHATEVER THE INPUT: true; the input reads as it did. -/
def fnExactFillBoxSpec : ChangeSpec := { name := "fnExactFillBox", fn := fun _ => fun
  | [d] => { results := [.lit (.bool true)], args := [d] }
  | _ => none }
def fnExactFillBoxRow : OpenClaim := { program := "ytjjnfjnoagfajaa", sum := "698098f170cf5a91911d2e2c4330eb8e13d5d9de22d8681f4703ac81ba1dc2ac", func := "loop.example/vectorraster/laws.FnExactFillBox", spec := "fnExactFillBox", unfollowed := true, recurses := true, apart := false }
def FnExactFillBoxSaid : Prop := fnExactFillBoxRow.holds Try.pinned (OpenSpec.ofChange fnExactFillBoxSpec)

/-- ITS FALSE NEIGHBOUR: 'it returns false'. Refute it at one input. -/
def fnExactFillBoxWrong : ChangeSpec := { name := "fnExactFillBox", fn := fun _ => fun
  | [d] => { results := [.lit (.bool false)], args := [d] }
  | _ => none }
def FnExactFillBoxWrongFalsely : Prop := fnExactFillBoxRow.holds Try.pinned (OpenSpec.ofChange fnExactFillBoxWrong)

/-- 'laws.FnExactTopFill': WHATEVER THE INPUT: true; the input reads as it did. -/
def fnExactTopFillSpec : ChangeSpec := { name := "fnExactTopFill", fn := fun _ => fun
  | [d1, d2] => { results := [.lit (.bool true)], args := [d1, d2] }
  | _ => none }
def fnExactTopFillRow : OpenClaim := { program := "ytjjnfjnoagfajaa", sum := "698098f170cf5a91911d2e2c4330eb8e13d5d9de22d8681f4703ac81ba1dc2ac", func := "loop.example/vectorraster/laws.FnExactTopFill", spec := "fnExactTopFill", unfollowed := true, recurses := true, apart := false }
def FnExactTopFillSaid : Prop := fnExactTopFillRow.holds Try.pinned (OpenSpec.ofChange fnExactTopFillSpec)

/-- ITS FALSE NEIGHBOUR: 'it returns false'. Refute it at one input. -/
def fnExactTopFillWrong : ChangeSpec := { name := "fnExactTopFill", fn := fun _ => fun
  | [d1, d2] => { results := [.lit (.bool false)], args := [d1, d2] }
  | _ => none }
def FnExactTopFillWrongFalsely : Prop := fnExactTopFillRow.holds Try.pinned (OpenSpec.ofChange fnExactTopFillWrong)

/- THE SECOND FORM. 'bulk': how many values and letters a reading holds, each counted each time it is reached (what is shared counts as often as it is met; a slice's spare places count too). A statement '..UptoSaid' is the law's where the arguments, and the package variables that the reading takes, are together of bulk at most 1048576: NARROWER than '..Said'. Prove '..Said' where nothing that the law and all that it calls make is longer than what came in: it says more and counts as full. Else prove '..UptoSaid'. A law counts once. -/
mutual
def uptoBulk {H : Type} : DataW H → Nat
  | .lit (.string bytes) => bytes.length + 1
  | .lit _ => 1
  | .nil => 1
  | .ptr d => uptoBulk d + 1
  | .slice elems spare => uptoBulkAll elems + uptoBulkAll spare + 1
  | .agg parts => uptoBulkAll parts + 1
  | .iface _ d => uptoBulk d + 1
  | .map entries => uptoBulkEntries entries + 1
  | .held _ => 1
def uptoBulkAll {H : Type} : List (DataW H) → Nat
  | [] => 0
  | d :: r => uptoBulk d + uptoBulkAll r
def uptoBulkEntries {H : Type} : List (Lit × DataW H) → Nat
  | [] => 0
  | x :: r => uptoBulkEntry x + uptoBulkEntries r
def uptoBulkEntry {H : Type} : Lit × DataW H → Nat
  | (.string bytes, d) => bytes.length + uptoBulk d + 1
  | (_, d) => uptoBulk d + 1
 end
def uptoSmall : (H : Type) → List (DataW H) → Bool := fun _ ds => decide (uptoBulkAll ds ≤ 1048576)
def OpenSpec.upto (s : _root_.Go.ChangeSpec) : _root_.Go.OpenSpec := { _root_.Go.OpenSpec.ofChange s with cond := some uptoSmall }

/-- 'laws.FnExactValidScene', WHERE WHAT IT READS IS OF BULK AT MOST 1048576: true; the input reads as it did. -/
def fnExactValidSceneUptoRow : OpenClaim := { program := "ytjjnfjnoagfajaa", sum := "698098f170cf5a91911d2e2c4330eb8e13d5d9de22d8681f4703ac81ba1dc2ac", func := "loop.example/vectorraster/laws.FnExactValidScene", spec := "fnExactValidScene", unfollowed := true, recurses := true, apart := false, narrowed := true }
def FnExactValidSceneUptoSaid : Prop := fnExactValidSceneUptoRow.holds Try.pinned (OpenSpec.upto fnExactValidSceneSpec)

/-- 'laws.FnExactFillBox', WHERE WHAT IT READS IS OF BULK AT MOST 1048576: true; the input reads as it did. -/
def fnExactFillBoxUptoRow : OpenClaim := { program := "ytjjnfjnoagfajaa", sum := "698098f170cf5a91911d2e2c4330eb8e13d5d9de22d8681f4703ac81ba1dc2ac", func := "loop.example/vectorraster/laws.FnExactFillBox", spec := "fnExactFillBox", unfollowed := true, recurses := true, apart := false, narrowed := true }
def FnExactFillBoxUptoSaid : Prop := fnExactFillBoxUptoRow.holds Try.pinned (OpenSpec.upto fnExactFillBoxSpec)

/-- 'laws.FnExactTopFill', WHERE WHAT IT READS IS OF BULK AT MOST 1048576: true; the input reads as it did. -/
def fnExactTopFillUptoRow : OpenClaim := { program := "ytjjnfjnoagfajaa", sum := "698098f170cf5a91911d2e2c4330eb8e13d5d9de22d8681f4703ac81ba1dc2ac", func := "loop.example/vectorraster/laws.FnExactTopFill", spec := "fnExactTopFill", unfollowed := true, recurses := true, apart := false, narrowed := true }
def FnExactTopFillUptoSaid : Prop := fnExactTopFillUptoRow.holds Try.pinned (OpenSpec.upto fnExactTopFillSpec)

end Rows
end Go.Proofs.Ytjjnfjnoagfajaa
