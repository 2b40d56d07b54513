/-
  Steps of a walk: a name for the goal's world, the rows of new blocks.
-/
import Derived.Test.YteknlifgejpjfaaLib
namespace Go.Proofs.Yteknlifgejpjfaa
open Go Go.RowKit Reg

theorem gen_calls {P : Program} {f : FuncId} {args : Array Value} {W : World} {Q : Ending → World → Prop} (h : ∀ w, w = W → Calls P f args w Q) : Calls P f args W Q := h W rfl
theorem gen_code {P : Program} {c : Code} {Q : Exit → Act → World → Prop} {a : Act} {W : World} (h : ∀ w, w = W → c.wp P Q a w) : c.wp P Q a W := h W rfl
theorem gen_list {P : Program} {ops : Array Oper} {Q : Exit → Act → World → Prop} {l : List Oper} {a : Act} {W : World} (h : ∀ w, w = W → wpList P ops Q l a w) : wpList P ops Q l a W := h W rfl

/-- Where a walk is to stop. -/
def Stop (p : Prop) : Prop := p
theorem stop_in {p : Prop} (h : Stop p) : p := h
theorem stop_out {p : Prop} (h : p) : Stop p := h
def slN : Value → Nat
  | .slice _ n _ => n
  | _ => 0
theorem cell_grown {w w' : World} {row : Option Nat} {p : Addr} {v : Value} (hc : w.cell? p = some v) (hg : w.grownBy w' row) (hne : row ≠ some p.block) : w'.cell? p = some v := by
  have hlt := cell_lt hc
  unfold World.cell? at hc ⊢
  rw [hg.block p.block hlt (fun hh => hne hh.symm)]
  exact hc
theorem ret_sl {A : Option Addr} {n m c : Nat} (h : n = m) : Ending.returned (.slice A n c) = .returned (.slice A m c) := by rw [h]
theorem ret_v {a b : Value} (h : a = b) : Ending.returned a = .returned b := by rw [h]
section
variable {w wa : World} {e1 e2 e3 e4 e5 e6 : TypeId} {c1 c2 c3 c4 c5 c6 : List Value}
theorem new1 (h : wa = w.alloc (.cells c1.toArray e1)) : Ext w wa ∧ Row wa w.heap.size e1 c1 := by
  subst h; exact ⟨ext_alloc _ _, Row.new _ _ _⟩
theorem new2 (h : wa = (w.alloc (.cells c1.toArray e1)).alloc (.cells c2.toArray e2)) : Ext w wa ∧ Row wa w.heap.size e1 c1 ∧ Row wa (w.heap.size + 1) e2 c2 := by
  obtain ⟨h1, h2⟩ := new1 (w := w.alloc (.cells c1.toArray e1)) h
  obtain ⟨k1, k2⟩ := new1 (w := w) (c1 := c1) (e1 := e1) rfl
  exact ⟨Ext.trans k1 h1, k2.ext h1, by simpa using h2⟩
theorem new3 (h : wa = ((w.alloc (.cells c1.toArray e1)).alloc (.cells c2.toArray e2)).alloc (.cells c3.toArray e3)) : Ext w wa ∧ Row wa w.heap.size e1 c1 ∧ Row wa (w.heap.size + 1) e2 c2 ∧ Row wa (w.heap.size + 2) e3 c3 := by
  obtain ⟨h1, h2⟩ := new1 (w := (w.alloc (.cells c1.toArray e1)).alloc (.cells c2.toArray e2)) h
  obtain ⟨k1, k2, k3⟩ := new2 (w := w) (c1 := c1) (e1 := e1) (c2 := c2) (e2 := e2) rfl
  exact ⟨Ext.trans k1 h1, k2.ext h1, k3.ext h1, by simpa using h2⟩
theorem new4 (h : wa = (((w.alloc (.cells c1.toArray e1)).alloc (.cells c2.toArray e2)).alloc (.cells c3.toArray e3)).alloc (.cells c4.toArray e4)) : Ext w wa ∧ Row wa w.heap.size e1 c1 ∧ Row wa (w.heap.size + 1) e2 c2 ∧ Row wa (w.heap.size + 2) e3 c3 ∧ Row wa (w.heap.size + 3) e4 c4 := by
  obtain ⟨h1, h2⟩ := new1 (w := ((w.alloc (.cells c1.toArray e1)).alloc (.cells c2.toArray e2)).alloc (.cells c3.toArray e3)) h
  obtain ⟨k1, k2, k3, k4⟩ := new3 (w := w) (c1 := c1) (e1 := e1) (c2 := c2) (e2 := e2) (c3 := c3) (e3 := e3) rfl
  exact ⟨Ext.trans k1 h1, k2.ext h1, k3.ext h1, k4.ext h1, by simpa using h2⟩
theorem new5 (h : wa = ((((w.alloc (.cells c1.toArray e1)).alloc (.cells c2.toArray e2)).alloc (.cells c3.toArray e3)).alloc (.cells c4.toArray e4)).alloc (.cells c5.toArray e5)) : Ext w wa ∧ Row wa w.heap.size e1 c1 ∧ Row wa (w.heap.size + 1) e2 c2 ∧ Row wa (w.heap.size + 2) e3 c3 ∧ Row wa (w.heap.size + 3) e4 c4 ∧ Row wa (w.heap.size + 4) e5 c5 := by
  obtain ⟨h1, h2⟩ := new1 (w := (((w.alloc (.cells c1.toArray e1)).alloc (.cells c2.toArray e2)).alloc (.cells c3.toArray e3)).alloc (.cells c4.toArray e4)) h
  obtain ⟨k1, k2, k3, k4, k5⟩ := new4 (w := w) (c1 := c1) (e1 := e1) (c2 := c2) (e2 := e2) (c3 := c3) (e3 := e3) (c4 := c4) (e4 := e4) rfl
  exact ⟨Ext.trans k1 h1, k2.ext h1, k3.ext h1, k4.ext h1, k5.ext h1, by simpa using h2⟩
end
section
variable {w w' : World} {B B' e e2 sz sz2 n n2 b : Nat} {v v2 : Value} {xs xs2 cs : List Value}
/-- What is of another type is left alone by what turns an owned row alone. -/
theorem ne_block (hr : Row w b e2 cs) (ho : Has w B e sz v n xs) (he : e ≠ e2) : (some b : Option Nat) ≠ v.ownBlock := by
  intro heq
  rcases ho.2 with ⟨rfl, _⟩ | ⟨g', cap, cur, rfl, _, h3, _⟩
  · cases heq
  · have hb : b = g' := by simpa [Value.ownBlock] using heq
    subst hb
    unfold Row at hr
    rw [h3] at hr
    injection hr with hr
    injection hr with _ h2
    exact he h2
theorem Row.grownNe (hr : Row w b e2 cs) (ho : Has w B e sz v n xs) (he : e ≠ e2) (hg : w.grownBy w' v.ownBlock) : Row w' b e2 cs :=
  (hg.block b hr.lt (ne_block hr ho he)).trans hr
theorem Has.grownNe (h : Has w B' e2 sz2 v2 n2 xs2) (ho : Has w B e sz v n xs) (he : e ≠ e2) (hg : w.grownBy w' v.ownBlock) : Has w' B' e2 sz2 v2 n2 xs2 := by
  refine h.kept hg ?_
  cases hv : v2.ownBlock with
  | none => exact .inl rfl
  | some k =>
    refine .inr fun heq => ?_
    rcases h.2 with ⟨rfl, _⟩ | ⟨g', cap, cur, rfl, _, h3, _⟩
    · cases hv
    · have hk : g' = k := by simpa [Value.ownBlock] using hv
      subst hk
      exact ne_block (cs := cur.toList) (show Row w g' e2 cur.toList by unfold Row; simpa using h3) ho he heq
end
end Go.Proofs.Yteknlifgejpjfaa
