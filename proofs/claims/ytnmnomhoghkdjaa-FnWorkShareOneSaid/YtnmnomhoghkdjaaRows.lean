/-
  No cell of these rows narrows 'for every input' (looked for: loops, veiled, ifaces, maps, wideKeys, modest, calm, conditions, laid).
  DERIVED. THE GIVEN ROWS OF THIS SEAT. 5 by the template 'for every input the law returns true; each argument reads behind the call as it read before'; 0 by the template 'total and deterministic' (their statements: YtnmnomhoghkdjaaTotals.lean).
  GIVEN WITH THE SEED: the statements are not yours to turn. If you find one false, say at which input.
  Laid BY PROGRAM, IN A SANDBOX (cutbox-rows.mjs): the forced cells as the released guide's own fill.sh prints them over the translation 72c29eff0128538a… (all of the seat's roots in one cut). By AI agents, Wed Nov 11 2026. No macro, syntax, notation, axiom, sorry.
-/
import Derived.Test.YtnmnomhoghkdjaaChecked
import GoSem.Claim
import GoSem.ClaimJoined
import GoSem.ClaimMapViews
import Derived.JoinedTies
import Derived.KernelRfl
namespace Go.Proofs.Ytnmnomhoghkdjaa
/- THE CELL 'sum', in the pinned program and in every row, IS THE sha256 OF THE DUMP (.gsa) THAT YtnmnomhoghkdjaaProg.lean LOADS. Nothing in Lean hashes anything: it is a label: what it is worth is what the hold of that sum in a sandbox is worth. -/
noncomputable def Try.pinned : Pinned := { name := "ytnmnomhoghkdjaa", sum := "72c29eff0128538a6a98ffcfce4e8968a96c57e29a0e277c313468ca7077ccba", checked := Try.checked }
namespace Rows
def none {H : Type} : Left H := { results := [], args := [] }

/-- 'laws.FnWorkOrder': WHATEVER THE INPUT: true; the input reads as it did. -/
def fnWorkOrderSpec : ChangeSpec := { name := "fnWorkOrder", fn := fun _ => fun
  | [d] => { results := [.lit (.bool true)], args := [d] }
  | _ => none }
def fnWorkOrderRow : OpenClaim := { program := "ytnmnomhoghkdjaa", sum := "72c29eff0128538a6a98ffcfce4e8968a96c57e29a0e277c313468ca7077ccba", func := "loop.example/vectorraster/laws.FnWorkOrder", spec := "fnWorkOrder", unfollowed := true, recurses := true, apart := false }
def FnWorkOrderSaid : Prop := fnWorkOrderRow.holds Try.pinned (OpenSpec.ofChange fnWorkOrderSpec)

/-- ITS FALSE NEIGHBOUR: 'it returns false'. Refute it at one input. -/
def fnWorkOrderWrong : ChangeSpec := { name := "fnWorkOrder", fn := fun _ => fun
  | [d] => { results := [.lit (.bool false)], args := [d] }
  | _ => none }
def FnWorkOrderWrongFalsely : Prop := fnWorkOrderRow.holds Try.pinned (OpenSpec.ofChange fnWorkOrderWrong)

/-- 'laws.FnWorkShareOne': WHATEVER THE INPUT: true; the input reads as it did. -/
def fnWorkShareOneSpec : ChangeSpec := { name := "fnWorkShareOne", fn := fun _ => fun
  | [d] => { results := [.lit (.bool true)], args := [d] }
  | _ => none }
def fnWorkShareOneRow : OpenClaim := { program := "ytnmnomhoghkdjaa", sum := "72c29eff0128538a6a98ffcfce4e8968a96c57e29a0e277c313468ca7077ccba", func := "loop.example/vectorraster/laws.FnWorkShareOne", spec := "fnWorkShareOne", unfollowed := true, recurses := true, apart := false }
def FnWorkShareOneSaid : Prop := fnWorkShareOneRow.holds Try.pinned (OpenSpec.ofChange fnWorkShareOneSpec)

/-- ITS FALSE NEIGHBOUR: 'it returns false'. Refute it at one input. -/
def fnWorkShareOneWrong : ChangeSpec := { name := "fnWorkShareOne", fn := fun _ => fun
  | [d] => { results := [.lit (.bool false)], args := [d] }
  | _ => none }
def FnWorkShareOneWrongFalsely : Prop := fnWorkShareOneRow.holds Try.pinned (OpenSpec.ofChange fnWorkShareOneWrong)

/-- 'laws.FnWorkShare': WHATEVER THE INPUT: true; the input reads as it did. -/
def fnWorkShareSpec : ChangeSpec := { name := "fnWorkShare", fn := fun _ => fun
  | [d] => { results := [.lit (.bool true)], args := [d] }
  | _ => none }
def fnWorkShareRow : OpenClaim := { program := "ytnmnomhoghkdjaa", sum := "72c29eff0128538a6a98ffcfce4e8968a96c57e29a0e277c313468ca7077ccba", func := "loop.example/vectorraster/laws.FnWorkShare", spec := "fnWorkShare", unfollowed := true, recurses := true, apart := false }
def FnWorkShareSaid : Prop := fnWorkShareRow.holds Try.pinned (OpenSpec.ofChange fnWorkShareSpec)

/-- ITS FALSE NEIGHBOUR: 'it returns false'. Refute it at one input. -/
def fnWorkShareWrong : ChangeSpec := { name := "fnWorkShare", fn := fun _ => fun
  | [d] => { results := [.lit (.bool false)], args := [d] }
  | _ => none }
def FnWorkShareWrongFalsely : Prop := fnWorkShareRow.holds Try.pinned (OpenSpec.ofChange fnWorkShareWrong)

/-- 'laws.FnExactWorkShare': WHATEVER THE INPUT: true; the input reads as it did. -/
def fnExactWorkShareSpec : ChangeSpec := { name := "fnExactWorkShare", fn := fun _ => fun
  | [d1, d2, d3] => { results := [.lit (.bool true)], args := [d1, d2, d3] }
  | _ => none }
def fnExactWorkShareRow : OpenClaim := { program := "ytnmnomhoghkdjaa", sum := "72c29eff0128538a6a98ffcfce4e8968a96c57e29a0e277c313468ca7077ccba", func := "loop.example/vectorraster/laws.FnExactWorkShare", spec := "fnExactWorkShare", unfollowed := true, recurses := true, apart := false }
def FnExactWorkShareSaid : Prop := fnExactWorkShareRow.holds Try.pinned (OpenSpec.ofChange fnExactWorkShareSpec)

/-- ITS FALSE NEIGHBOUR: 'it returns false'. Refute it at one input. -/
def fnExactWorkShareWrong : ChangeSpec := { name := "fnExactWorkShare", fn := fun _ => fun
  | [d1, d2, d3] => { results := [.lit (.bool false)], args := [d1, d2, d3] }
  | _ => none }
def FnExactWorkShareWrongFalsely : Prop := fnExactWorkShareRow.holds Try.pinned (OpenSpec.ofChange fnExactWorkShareWrong)

/-- 'laws.FnExactWorkOrder': WHATEVER THE INPUT: true; the input reads as it did. -/
def fnExactWorkOrderSpec : ChangeSpec := { name := "fnExactWorkOrder", fn := fun _ => fun
  | [d1, d2, d3] => { results := [.lit (.bool true)], args := [d1, d2, d3] }
  | _ => none }
def fnExactWorkOrderRow : OpenClaim := { program := "ytnmnomhoghkdjaa", sum := "72c29eff0128538a6a98ffcfce4e8968a96c57e29a0e277c313468ca7077ccba", func := "loop.example/vectorraster/laws.FnExactWorkOrder", spec := "fnExactWorkOrder", unfollowed := true, recurses := true, apart := false }
def FnExactWorkOrderSaid : Prop := fnExactWorkOrderRow.holds Try.pinned (OpenSpec.ofChange fnExactWorkOrderSpec)

/-- ITS FALSE NEIGHBOUR: 'it returns false'. Refute it at one input. -/
def fnExactWorkOrderWrong : ChangeSpec := { name := "fnExactWorkOrder", fn := fun _ => fun
  | [d1, d2, d3] => { results := [.lit (.bool false)], args := [d1, d2, d3] }
  | _ => none }
def FnExactWorkOrderWrongFalsely : Prop := fnExactWorkOrderRow.holds Try.pinned (OpenSpec.ofChange fnExactWorkOrderWrong)

/- THE SECOND FORM. 'bulk': how many values and letters a reading holds, each counted each time it is reached (what is shared counts as often as it is met; a slice's spare places count too). A statement '..UptoSaid' is the law's where the arguments, and the package variables that the reading takes, are together of bulk at most 1048576: NARROWER than '..Said'. Prove '..Said' where nothing that the law and all that it calls make is longer than what came in: it says more and counts as full. Else prove '..UptoSaid'. A law counts once. -/
mutual
def uptoBulk {H : Type} : DataW H → Nat
  | .lit (.string bytes) => bytes.length + 1
  | .lit _ => 1
  | .nil => 1
  | .ptr d => uptoBulk d + 1
  | .slice elems spare => uptoBulkAll elems + uptoBulkAll spare + 1
  | .agg parts => uptoBulkAll parts + 1
  | .iface _ d => uptoBulk d + 1
  | .map entries => uptoBulkEntries entries + 1
  | .held _ => 1
def uptoBulkAll {H : Type} : List (DataW H) → Nat
  | [] => 0
  | d :: r => uptoBulk d + uptoBulkAll r
def uptoBulkEntries {H : Type} : List (Lit × DataW H) → Nat
  | [] => 0
  | x :: r => uptoBulkEntry x + uptoBulkEntries r
def uptoBulkEntry {H : Type} : Lit × DataW H → Nat
  | (.string bytes, d) => bytes.length + uptoBulk d + 1
  | (_, d) => uptoBulk d + 1
 end
def uptoSmall : (H : Type) → List (DataW H) → Bool := fun _ ds => decide (uptoBulkAll ds ≤ 1048576)
def OpenSpec.upto (s : _root_.Go.ChangeSpec) : _root_.Go.OpenSpec := { _root_.Go.OpenSpec.ofChange s with cond := some uptoSmall }

/-- 'laws.FnWorkOrder', WHERE WHAT IT READS IS OF BULK AT MOST 1048576: true; the input reads as it did. -/
def fnWorkOrderUptoRow : OpenClaim := { program := "ytnmnomhoghkdjaa", sum := "72c29eff0128538a6a98ffcfce4e8968a96c57e29a0e277c313468ca7077ccba", func := "loop.example/vectorraster/laws.FnWorkOrder", spec := "fnWorkOrder", unfollowed := true, recurses := true, apart := false, narrowed := true }
def FnWorkOrderUptoSaid : Prop := fnWorkOrderUptoRow.holds Try.pinned (OpenSpec.upto fnWorkOrderSpec)

/-- 'laws.FnWorkShareOne', WHERE WHAT IT READS IS OF BULK AT MOST 1048576: true; the input reads as it did. -/
def fnWorkShareOneUptoRow : OpenClaim := { program := "ytnmnomhoghkdjaa", sum := "72c29eff0128538a6a98ffcfce4e8968a96c57e29a0e277c313468ca7077ccba", func := "loop.example/vectorraster/laws.FnWorkShareOne", spec := "fnWorkShareOne", unfollowed := true, recurses := true, apart := false, narrowed := true }
def FnWorkShareOneUptoSaid : Prop := fnWorkShareOneUptoRow.holds Try.pinned (OpenSpec.upto fnWorkShareOneSpec)

/-- 'laws.FnWorkShare', WHERE WHAT IT READS IS OF BULK AT MOST 1048576: true; the input reads as it did. -/
def fnWorkShareUptoRow : OpenClaim := { program := "ytnmnomhoghkdjaa", sum := "72c29eff0128538a6a98ffcfce4e8968a96c57e29a0e277c313468ca7077ccba", func := "loop.example/vectorraster/laws.FnWorkShare", spec := "fnWorkShare", unfollowed := true, recurses := true, apart := false, narrowed := true }
def FnWorkShareUptoSaid : Prop := fnWorkShareUptoRow.holds Try.pinned (OpenSpec.upto fnWorkShareSpec)

/-- 'laws.FnExactWorkShare', WHERE WHAT IT READS IS OF BULK AT MOST 1048576: true; the input reads as it did. -/
def fnExactWorkShareUptoRow : OpenClaim := { program := "ytnmnomhoghkdjaa", sum := "72c29eff0128538a6a98ffcfce4e8968a96c57e29a0e277c313468ca7077ccba", func := "loop.example/vectorraster/laws.FnExactWorkShare", spec := "fnExactWorkShare", unfollowed := true, recurses := true, apart := false, narrowed := true }
def FnExactWorkShareUptoSaid : Prop := fnExactWorkShareUptoRow.holds Try.pinned (OpenSpec.upto fnExactWorkShareSpec)

/-- 'laws.FnExactWorkOrder', WHERE WHAT IT READS IS OF BULK AT MOST 1048576: true; the input reads as it did. -/
def fnExactWorkOrderUptoRow : OpenClaim := { program := "ytnmnomhoghkdjaa", sum := "72c29eff0128538a6a98ffcfce4e8968a96c57e29a0e277c313468ca7077ccba", func := "loop.example/vectorraster/laws.FnExactWorkOrder", spec := "fnExactWorkOrder", unfollowed := true, recurses := true, apart := false, narrowed := true }
def FnExactWorkOrderUptoSaid : Prop := fnExactWorkOrderUptoRow.holds Try.pinned (OpenSpec.upto fnExactWorkOrderSpec)

end Rows
end Go.Proofs.Ytnmnomhoghkdjaa
