/-
  A range over a function, for walks that write rows of their own: what no cells are is turned alone; the marks that such loops leave; slices.Backward of points.
-/
import Derived.RangeFuncNested
import Derived.RangeFuncCalls
import Derived.RangeFuncLeaves
import Derived.Shelf.Abstract
import Derived.OwnWalkIn
import Derived.TacticsInMore
import Derived.LoopNIn
import Derived.LoopIn
import Derived.Test.YtjjnfjnoagfajaaMg8
import Derived.Test.YtjjnfjnoagfajaaMg1
namespace Go.Proofs.Ytjjnfjnoagfajaa
open Go Go.RowKit Reg
attribute [local go_sem] Oper.semAt_some

section
variable {w w' : World} {row : Option Nat}
/-- What is turned is no cells. -/
def NoCells (w : World) (row : Option Nat) : Prop := ∀ r, row = some r → ∃ o : Obj, w.heap[r]? = some o ∧ o.isCells = false
theorem noCells_from {B : Nat} (h : ∀ r, row = some r → B ≤ r ∧ ∃ o : Obj, w.heap[r]? = some o ∧ o.isCells = false) : NoCells w row := fun r e => (h r e).2
theorem Has.keptO {base n sz : Nat} {e : TypeId} {v : Value} {xs : List Value} (h : Has w base e sz v n xs) (hg : w.grownBy w' row) (hr : NoCells w row) : Has w' base e sz v n xs := by
  refine h.kept hg ?_
  cases hv : v.ownBlock with
  | none => exact .inl rfl
  | some g =>
    refine .inr fun he => ?_
    obtain ⟨o, ho, hc⟩ := hr g he.symm
    obtain ⟨cur, fz, h1⟩ := own_row h hv
    rw [h1] at ho; cases ho; cases hc
theorem OVb.keptO {B : Nat} {TP TV : TypeId} {v : Value} {vs : List Vb} {ss : List Value} (h : OVb w B TP TV v vs ss) (hg : w.grownBy w' row) (hr : NoCells w row) : OVb w' B TP TV v vs ss :=
  ⟨h.len, h.out.keptO hg hr, fun i hi => (h.inn i hi).keptO hg hr, h.nd⟩
theorem ORg.keptO {B : Nat} {TP TR : TypeId} {v : Value} {rs : List Rg} {ss : List Value} (h : ORg w B TP TR v rs ss) (hg : w.grownBy w' row) (hr : NoCells w row) : ORg w' B TP TR v rs ss :=
  ⟨h.len, h.out.keptO hg hr, fun i hi => (h.inn i hi).keptO hg hr, h.nd⟩
theorem Row.keptO {g : Nat} {e : TypeId} {cs : List Value} (h : Row w g e cs) (hg : w.grownBy w' row) (hr : NoCells w row) : Row w' g e cs :=
  (hg.block g h.lt (fun he => by
    obtain ⟨o, ho, hc⟩ := hr g he.symm
    unfold Row at h; rw [h] at ho; cases ho; cases hc)).trans h
theorem cell_keptO {p : Addr} {v : Value} (h : w.cell? p = some v) (hg : w.grownBy w' row) (hr : NoCells w row) : w'.cell? p = some v :=
  cell_kept h hg hr
theorem In.keptO {α : Type} {R : World → α → List Value → Prop} {sz : Nat} {A : Option Addr} {xs : List α} (hR : ∀ x us, R w x us → R w' x us) (h : In R sz w A xs) (hg : w.grownBy w' row) (hr : NoCells w row) : In R sz w' A xs := by
  intro hn
  obtain ⟨b, off, hA, hc⟩ := h hn
  refine ⟨b, off, hA, fun k hk => ?_⟩
  obtain ⟨us, h1, h2, h3⟩ := hc k hk
  exact ⟨us, hR _ _ h1, h2, fun j u hu => cell_keptO (h3 j u hu) hg hr⟩
theorem below_putObj {B l : Nat} {o o' : Obj} (h : w.heap[l]? = some o) (hl : B ≤ l) : Below B w (w.putObj l o') :=
  (Below.refl B w).grown (grownBy_putObj' w l o') (by have := (Array.getElem?_eq_some_iff.1 h).1; omega) (fun k e => by cases e; exact hl)
end

/-! ### the marks -/
def mks (Ds : List Nat) : List Deferred := Ds.map fun D => { target := .collected D, args := #[] }
/-- The blocks of the marks, shut one after the other. -/
def shutAll (w : World) : List Nat → World
  | [] => w
  | D :: Ds => shutAll (w.putObj D (.deferred none)) Ds
def Marks (w : World) (B : Nat) (Ds : List Nat) : Prop := Ds.Nodup ∧ ∀ D ∈ Ds, B ≤ D ∧ w.heap[D]? = some (.deferred (some []))
theorem Marks.lt {w : World} {B : Nat} {Ds : List Nat} (h : Marks w B Ds) : ∀ D ∈ Ds, D < w.heap.size := fun D hD => (Array.getElem?_eq_some_iff.1 (h.2 D hD).2).1
theorem Marks.nil (w : World) (B : Nat) : Marks w B [] := ⟨List.nodup_nil, fun D h => by cases h⟩
theorem Marks.ext {w w' : World} {B : Nat} {Ds : List Nat} (h : Marks w B Ds) (hx : Ext w w') : Marks w' B Ds :=
  ⟨h.1, fun D hD => ⟨(h.2 D hD).1, (hx.block D (h.lt D hD)).trans (h.2 D hD).2⟩⟩
theorem Marks.keeps {w w' : World} {B : Nat} {Ds : List Nat} (h : Marks w B Ds) (hk : KeepsFrom B w w') : Marks w' B Ds :=
  ⟨h.1, fun D hD => ⟨(h.2 D hD).1, hk.same D _ (h.2 D hD).1 (h.2 D hD).2 rfl⟩⟩
theorem Marks.cons {w w' : World} {B D : Nat} {Ds : List Nat} (h : Marks w B Ds) (h' : Marks w' B Ds) (hD : w.heap.size ≤ D) (hB : B ≤ D) (hk : w'.heap[D]? = some (.deferred (some []))) : Marks w' B (D :: Ds) :=
  ⟨List.nodup_cons.2 ⟨fun hm => by have := h.lt D hm; omega, h.1⟩, fun E hE => by
    rcases List.mem_cons.1 hE with rfl | hE
    · exact ⟨hB, hk⟩
    · exact h'.2 E hE⟩
theorem leaves_marks {F : Fence} {n : Nat} {P : Program} {fn : Func} {tmps : Array Value} {R : Ending → World → Prop} {B : Nat} : ∀ (Ds : List Nat) (w : World), Marks w B Ds →
    (∃ v, (results fn tmps).run P (shutAll w Ds) = .ok v (shutAll w Ds) ∧ R (.returned v) (shutAll w Ds)) → LeavesInM F n P fn tmps R (mks Ds) .returning w
  | [], w, _, h => h
  | D :: Ds, w, hm, h => by
    refine ⟨by simp, .inl ⟨D, _, rfl, run_takeDeferred (hm.2 D (by simp)).2, leaves_marks Ds _ ⟨(List.nodup_cons.1 hm.1).2, fun E hE => ⟨(hm.2 E (by simp [hE])).1, ?_⟩⟩ h⟩⟩
    have hne : D ≠ E := fun he => (List.nodup_cons.1 hm.1).1 (he ▸ hE)
    exact (World.putObj_heap_other (Ne.symm hne)).trans (hm.2 E (by simp [hE])).2
/-- What marks shut leave. -/
theorem shut_kept {B : Nat} {p : World → Prop} (hp : ∀ w w' row, p w → w.grownBy w' row → NoCells w row → p w') : ∀ (Ds : List Nat) (w : World), Marks w B Ds → p w → p (shutAll w Ds)
  | [], _, _, h => h
  | D :: Ds, w, hm, h => by
    have hD := (hm.2 D (by simp)).2
    refine shut_kept hp Ds _ ⟨(List.nodup_cons.1 hm.1).2, fun E hE => ⟨(hm.2 E (by simp [hE])).1, ?_⟩⟩ (hp w _ (some D) h (grownBy_putObj' w D _) (fun r e => by cases e; exact ⟨_, hD, rfl⟩))
    have hne : D ≠ E := fun he => (List.nodup_cons.1 hm.1).1 (he ▸ hE)
    exact (World.putObj_heap_other (Ne.symm hne)).trans (hm.2 E (by simp [hE])).2
theorem shut_below {B : Nat} : ∀ (Ds : List Nat) (w : World), Marks w B Ds → Below B w (shutAll w Ds)
  | [], w, _ => Below.refl _ w
  | D :: Ds, w, hm => by
    have hD := hm.2 D (by simp)
    refine Below.trans (below_putObj hD.2 hD.1) (shut_below Ds _ ⟨(List.nodup_cons.1 hm.1).2, fun E hE => ⟨(hm.2 E (by simp [hE])).1, ?_⟩⟩)
    have hne : D ≠ E := fun he => (List.nodup_cons.1 hm.1).1 (he ▸ hE)
    exact (World.putObj_heap_other (Ne.symm hne)).trans (hm.2 E (by simp [hE])).2

/-- An append inside a fence. -/
theorem wpListIn_app {F : Fence} {nf : Nat} {P : Program} {w : World} {base : Nat} {t e : TypeId} {z : Value} {zl : List Value} {bytes : Nat} {ops : Array Oper} {rest : List Oper} {o : Oper} {a : Act} {Q : Exit → Act → World → Prop} (E : EI P t e z zl bytes) (hgd : o.guard = none) (s x : Operand) (ho : o.op = .call { callee := .builtin .append, args := #[s, x], argTypes := #[t, t] })
    {v : Value} {n : Nat} {xs : List Value} (hs : a.eval s = v) (hown : Has w base e zl.length v n xs) {A : Option Addr} {m c : Nat} {news : List Value} (hx : a.eval x = .slice A m c) (hsrc : Src w A m zl.length news)
    (hn : n + m ≤ 4000000000) (hbase : base ≤ w.heap.size)
    (h : ∀ v' w', Has w' base e zl.length v' (n + m) (xs ++ news) → w.grownBy w' v.ownBlock → (v'.ownBlock = v.ownBlock ∨ v'.ownBlock = some w.heap.size) → wpListIn F nf P ops Q rest (a.put o.dst v') w') : wpListIn F nf P ops Q (o :: rest) a w := by
  refine wpListIn_plain hgd fun K hK' => ?_
  obtain ⟨v', w', hrun, h2, h3, h4⟩ := run_app E o.type hown c hsrc hn hbase
  unfold Oper.wpIn
  refine ⟨?_, ?_⟩
  · simp [Oper.about, ho, resolve, Target.leads, Sem.run_pure]
  · rw [Oper.semAt_plain F _ _ (by rw [ho]; intro c hc'; cases hc')]
    simp [execOp, ho, resolve, invoke, builtin, hs, hx, hrun, Result.andThen]
    exact hK' _ _ (h v' w' h2 h3 h4)
theorem gen_listIn {F : Fence} {n : Nat} {P : Program} {ops : Array Oper} {Q : Exit → Act → World → Prop} {l : List Oper} {a : Act} {W : World} (h : ∀ w, w = W → wpListIn F n P ops Q l a w) : wpListIn F n P ops Q l a W := h W rfl
theorem gen_codeIn {F : Fence} {n : Nat} {P : Program} {c : Code} {Q : Exit → Act → World → Prop} {a : Act} {W : World} (h : ∀ w, w = W → c.wpIn F n P Q a w) : c.wpIn F n P Q a W := h W rfl
theorem bodyPostM_ret {F : Fence} {n : Nat} {P : Program} {fn : Func} {R : Ending → World → Prop} {a : Act} {w : World} {v : Value} (h : (results fn a.tmps).run P w = .ok v w) (hd : a.defers = []) (hR : R (.returned v) w) : bodyPostM F n P fn R .ret a w := by
  obtain ⟨t, d⟩ := a
  dsimp only at hd
  subst hd
  exact ⟨v, h, hR⟩
theorem bodyPostM_marks {F : Fence} {n B : Nat} {P : Program} {fn : Func} {R : Ending → World → Prop} {a : Act} {w : World} {v : Value} {Ds : List Nat} (hm : Marks w B Ds) (h : (results fn a.tmps).run P (shutAll w Ds) = .ok v (shutAll w Ds)) (hd : a.defers = mks Ds) (hR : R (.returned v) (shutAll w Ds)) : bodyPostM F n P fn R .ret a w := by
  obtain ⟨t, d⟩ := a
  dsimp only at hd
  subst hd
  exact leaves_marks Ds w hm ⟨v, h, hR⟩
theorem keepsFrom_up {B B' : Nat} {W W' : World} (h : KeepsFrom B W W') (hB : B ≤ B') : KeepsFrom B' W W' := ⟨h.size, fun k o hk => h.same k o (by omega)⟩
theorem keepsFrom_ext {B : Nat} {W W' : World} (h : Ext W W') : KeepsFrom B W W' := ⟨h.size, fun k _ _ hk _ => (h.block k (Array.getElem?_eq_some_iff.1 hk).1).trans hk⟩
theorem noCells_one {W : World} {l : Nat} {o : Obj} (ho : W.heap[l]? = some o) (hc : o.isCells = false) : NoCells W (some l) := by
  intro r e; cases e; exact ⟨o, ho, hc⟩
end Go.Proofs.Ytjjnfjnoagfajaa
