/-
  Several texts in one: RegionL, RegionO, RegionP.
-/
import Derived.Test.YtagmnbphbakikaaGreatMg1
namespace Go.Proofs.YtagmnbphbakikaaGreat.Reg
open Go Go.RowKit
section
variable {P : Program} {ops : Array Oper} {w0 : World}
/-- A late call: what it returns may depend on the world; keeps: its world is of the class. -/
theorem late_fn {Q : Exit → Act → World → Prop} {keeps : Nat → Bool} {i : Nat} {l : List Nat} {a : Act} {w : World} {o : Oper} {f : FuncId} {fn : Func} {xs : Array Operand} {ts : Array TypeId} {args : Array Value} (hi : ops[i]? = some o) (hw : Region.wanted o (yielded ops a.tmps) = true)
    (hop : o.op = .call { callee := .value (.func f), args := xs, argTypes := ts }) (hf : P.funcs[f]? = some fn) (hn : (fn.name == "runtime.NumGoroutine") = false) (hb : fn.body.isNone = false) (hx : xs.map a.eval = args)
    (h : ∀ w', Ext w w' → ∀ K : Act → World → Prop, (∀ a' w'', ((keeps i = true → Cls w0 w'') ∧ wpLate P w0 ops keeps Q l a' w'') → K a' w'') → Calls P f args w' (fun e w'' => ∃ v, e = .returned v ∧ K (a.put o.dst v) w'')) : wpLate P w0 ops keeps Q (i :: l) a w := by
  refine late_step hi hw fun w' hx' K hK => ?_
  unfold Oper.wp
  rw [run_call_fn w' hop hf hn hb, hx]
  simp only [Oper.upon]
  refine (h w' hx' K hK).mono ?_
  rintro e w'' ⟨v, rfl, hk⟩
  exact hk
end
end Go.Proofs.YtagmnbphbakikaaGreat.Reg
namespace Go.Proofs.YtagmnbphbakikaaGreat.Reg
open Go Go.RowKit
section
variable {P : Program} {ops : Array Oper} {w0 : World}
def keepsR (ops : Array Oper) (calm : List Nat) (j : Nat) : Bool := calm.contains j || keepsOf ops calm j
def regionO (ops : Array Oper) (calm : List Nat) (n : Nat) : Bool :=
  okB ops && (ops.size == n + calm.length) && calmB ops (keepsR ops calm) (Array.replicate ops.size false) calm
theorem wp_region_open {id : Nat} {Q : Exit → Act → World → Prop} {a : Act} {w : World} {l : List Oper} (calm : List Nat) (n : Nat) (hm : P.follows .mixedOrders = true) (hB : regionO l.toArray calm n = true)
    (h : wpCalm P w.drew l.toArray (fun a' => ∀ w', Cls w.drew w' → wpE P w.drew l.toArray (keepsR l.toArray calm) Q n (listAll (Array.replicate l.toArray.size false) calm) a' w') calm a) : (Code.region id l.toArray true).wp P Q a w := by
  simp only [regionO, Bool.and_eq_true, beq_iff_eq] at hB
  obtain ⟨⟨h1, h2⟩, h3⟩ := hB
  refine wp_region_any hm ?_
  refine wpAny_of_wpE (w0 := w.drew) (keeps := keepsR l.toArray calm) _ _ _ _ ?_
  rw [h2] at h ⊢
  exact wpE_calm h1 calm n _ a w.drew (by rw [← h2]; exact down_init _) (Below.refl _ _) (by rw [← h2]; exact h3) h
/-- One of the operations that may come up. -/
def StepE (P : Program) (w0 : World) (ops : Array Oper) (keeps : Nat → Bool) (Q : Exit → Act → World → Prop) (fuel : Nat) (listed : Array Bool) (a : Act) (w : World) (i : Nat) : Prop :=
  ∀ w', Ext w w' → wpOp P ops (NoP Q) i (fun a' w'' => (keeps i = true → Cls w0 w'') ∧ wpE P w0 ops keeps Q fuel (listed.setIfInBounds i true) a' w'') a w'
theorem opE_one {keeps : Nat → Bool} {Q : Exit → Act → World → Prop} {fuel : Nat} {listed : Array Bool} {a : Act} {w : World} (i : Nat) (hr : Region.ready .any ops listed = [i])
    (h : StepE P w0 ops keeps Q fuel listed a w i) : wpE P w0 ops keeps Q (fuel + 1) listed a w := fun w' hx => ⟨fun h0 => (by rw [h0] at hr; cases hr), fun j hj => by
  rw [hr] at hj
  obtain rfl : j = i := by simpa using hj
  exact h w' hx⟩
theorem opE_two {keeps : Nat → Bool} {Q : Exit → Act → World → Prop} {fuel : Nat} {listed : Array Bool} {a : Act} {w : World} (i j : Nat) (hr : Region.ready .any ops listed = [i, j])
    (h1 : StepE P w0 ops keeps Q fuel listed a w i) (h2 : StepE P w0 ops keeps Q fuel listed a w j) : wpE P w0 ops keeps Q (fuel + 1) listed a w := fun w' hx => ⟨fun h0 => (by rw [h0] at hr; cases hr), fun k hk => by
  rw [hr] at hk
  simp only [List.mem_cons, List.not_mem_nil, or_false] at hk
  rcases hk with rfl | rfl
  · exact h1 w' hx
  · exact h2 w' hx⟩
theorem stepE_keep {keeps : Nat → Bool} {Q : Exit → Act → World → Prop} {fuel : Nat} {listed : Array Bool} {i : Nat} {a : Act} {w : World} {o : Oper} (hi : ops[i]? = some o) (hw : Region.wanted o (yielded ops a.tmps) = true) (hC : Cls w0 w)
    (h : ∀ w', Ext w w' → Cls w0 w' → ∀ K : Act → World → Prop, (∀ a' w'', Cls w0 w'' → (Cls w0 w'' → wpE P w0 ops keeps Q fuel (listed.setIfInBounds i true) a' w'') → K a' w'') → o.wp P a w' K (NoP Q)) : StepE P w0 ops keeps Q fuel listed a w i := by
  intro w' hx
  unfold wpOp
  simp only [hi, hw, if_true]
  exact .inl (h w' hx (Cls.ext hC hx) _ fun a' w'' hc hl => ⟨fun _ => hc, hl hc⟩)
end
end Go.Proofs.YtagmnbphbakikaaGreat.Reg
namespace Go.Proofs.YtagmnbphbakikaaGreat.Reg
open Go Go.RowKit
section
variable {P : Program} {ops : Array Oper} {w0 : World}
theorem stepE_fn {keeps : Nat → Bool} {Q : Exit → Act → World → Prop} {fuel : Nat} {listed : Array Bool} {i : Nat} {a : Act} {w : World} {o : Oper} {f : FuncId} {fn : Func} {xs : Array Operand} {ts : Array TypeId} {args : Array Value} (hi : ops[i]? = some o) (hw : Region.wanted o (yielded ops a.tmps) = true)
    (hop : o.op = .call { callee := .value (.func f), args := xs, argTypes := ts }) (hf : P.funcs[f]? = some fn) (hn : (fn.name == "runtime.NumGoroutine") = false) (hb : fn.body.isNone = false) (hx : xs.map a.eval = args)
    (h : ∀ w', Ext w w' → ∀ K : Act → World → Prop, (∀ a' w'', ((keeps i = true → Cls w0 w'') ∧ wpE P w0 ops keeps Q fuel (listed.setIfInBounds i true) a' w'') → K a' w'') → Calls P f args w' (fun e w'' => ∃ v, e = .returned v ∧ K (a.put o.dst v) w'')) : StepE P w0 ops keeps Q fuel listed a w i := by
  intro w' hx'
  unfold wpOp
  simp only [hi, hw, if_true]
  refine .inl ?_
  unfold Oper.wp
  rw [run_call_fn w' hop hf hn hb, hx]
  simp only [Oper.upon]
  refine (h w' hx' _ (fun _ _ h => h)).mono ?_
  rintro e w'' ⟨v, rfl, hk⟩
  exact hk
end
end Go.Proofs.YtagmnbphbakikaaGreat.Reg
