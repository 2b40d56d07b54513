/-
  Calls among late operations of which two may come up at once.
-/
import Derived.Test.YtagmnbphbakikaaGreatRegionO
import Derived.Test.YtagmnbphbakikaaGreatRegionL
namespace Go.Proofs.YtagmnbphbakikaaGreat.Reg
open Go Go.RowKit
section
variable {P : Program} {ops : Array Oper} {w0 : World}
theorem stepE_fn {keeps : Nat → Bool} {Q : Exit → Act → World → Prop} {fuel : Nat} {listed : Array Bool} {i : Nat} {a : Act} {w : World} {o : Oper} {f : FuncId} {fn : Func} {xs : Array Operand} {ts : Array TypeId} {args : Array Value} (hi : ops[i]? = some o) (hw : Region.wanted o (yielded ops a.tmps) = true)
    (hop : o.op = .call { callee := .value (.func f), args := xs, argTypes := ts }) (hf : P.funcs[f]? = some fn) (hn : (fn.name == "runtime.NumGoroutine") = false) (hb : fn.body.isNone = false) (hx : xs.map a.eval = args)
    (h : ∀ w', Ext w w' → ∀ K : Act → World → Prop, (∀ a' w'', ((keeps i = true → Cls w0 w'') ∧ wpE P w0 ops keeps Q fuel (listed.setIfInBounds i true) a' w'') → K a' w'') → Calls P f args w' (fun e w'' => ∃ v, e = .returned v ∧ K (a.put o.dst v) w'')) : StepE P w0 ops keeps Q fuel listed a w i := by
  intro w' hx'
  unfold wpOp
  simp only [hi, hw, if_true]
  refine .inl ?_
  unfold Oper.wp
  rw [run_call_fn w' hop hf hn hb, hx]
  simp only [Oper.upon]
  refine (h w' hx' _ (fun _ _ h => h)).mono ?_
  rintro e w'' ⟨v, rfl, hk⟩
  exact hk
end
end Go.Proofs.YtagmnbphbakikaaGreat.Reg
