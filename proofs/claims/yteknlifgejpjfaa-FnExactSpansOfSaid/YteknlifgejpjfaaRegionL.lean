/-
  A late call in a drawn region.
-/
import Derived.Test.YteknlifgejpjfaaRegion
namespace Go.Proofs.Yteknlifgejpjfaa.Reg
open Go Go.RowKit
section
variable {P : Program} {ops : Array Oper} {w0 : World}
/-- A late call: what it returns may depend on the world; keeps: its world is of the class. -/
theorem late_fn {Q : Exit → Act → World → Prop} {keeps : Nat → Bool} {i : Nat} {l : List Nat} {a : Act} {w : World} {o : Oper} {f : FuncId} {fn : Func} {xs : Array Operand} {ts : Array TypeId} {args : Array Value} (hi : ops[i]? = some o) (hw : Region.wanted o (yielded ops a.tmps) = true)
    (hop : o.op = .call { callee := .value (.func f), args := xs, argTypes := ts }) (hf : P.funcs[f]? = some fn) (hn : (fn.name == "runtime.NumGoroutine") = false) (hb : fn.body.isNone = false) (hx : xs.map a.eval = args)
    (h : ∀ w', Ext w w' → ∀ K : Act → World → Prop, (∀ a' w'', ((keeps i = true → Cls w0 w'') ∧ wpLate P w0 ops keeps Q l a' w'') → K a' w'') → Calls P f args w' (fun e w'' => ∃ v, e = .returned v ∧ K (a.put o.dst v) w'')) : wpLate P w0 ops keeps Q (i :: l) a w := by
  refine late_step hi hw fun w' hx' K hK => ?_
  unfold Oper.wp
  rw [run_call_fn w' hop hf hn hb, hx]
  simp only [Oper.upon]
  refine (h w' hx' K hK).mono ?_
  rintro e w'' ⟨v, rfl, hk⟩
  exact hk
end
end Go.Proofs.Yteknlifgejpjfaa.Reg
