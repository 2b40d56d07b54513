/-
  A store into one block leaves rows of another type as they were.
-/
import Derived.Test.YtjjnfjnoagfajaaOrg
import Derived.Test.YtjjnfjnoagfajaaStep
namespace Go.Proofs.Ytjjnfjnoagfajaa
open Go Go.RowKit Reg
theorem Has.keptB {w w' : World} {B e e2 sz n Bo : Nat} {v : Value} {xs cs : List Value} (h : Has w B e sz v n xs) (hr : Row w Bo e2 cs) (he : e2 ≠ e) (hg : w.grownBy w' (some Bo)) : Has w' B e sz v n xs := by
  refine h.kept hg ?_
  cases hv : v.ownBlock with
  | none => exact .inl rfl
  | some k =>
    refine .inr fun heq => ne_block hr h (fun e => he e.symm) ?_
    rw [hv, heq]
theorem OVb.keptB {w w' : World} {B TP TV e2 Bo : Nat} {v : Value} {vs : List Vb} {ss cs : List Value} (h : OVb w B TP TV v vs ss) (hr : Row w Bo e2 cs) (h1 : e2 ≠ TP) (h2 : e2 ≠ TV) (hg : w.grownBy w' (some Bo)) : OVb w' B TP TV v vs ss :=
  ⟨h.len, h.out.keptB hr h2 hg, fun i hi => (h.inn i hi).keptB hr h1 hg, h.nd⟩
theorem ORg.keptB {w w' : World} {B TP TR e2 Bo : Nat} {v : Value} {rs : List Rg} {ss cs : List Value} (h : ORg w B TP TR v rs ss) (hr : Row w Bo e2 cs) (h1 : e2 ≠ TP) (h2 : e2 ≠ TR) (hg : w.grownBy w' (some Bo)) : ORg w' B TP TR v rs ss :=
  ⟨h.len, h.out.keptB hr h2 hg, fun i hi => (h.inn i hi).keptB hr h1 hg, h.nd⟩
theorem set_grown (w : World) (b o : Nat) (v : Value) : w.grownBy (w.setCell ⟨b, o, none⟩ v) (some b) :=
  ⟨rfl, rfl, rfl, by simp [World.setCell], fun k _ hk => Below.heap_setCell w ⟨b, o, none⟩ v k (by rintro rfl; exact hk rfl)⟩
theorem sets_trans {a b c : World} {g : Nat} (h : a.grownBy b (some g)) (k : b.grownBy c (some g)) : a.grownBy c (some g) :=
  ⟨k.os.trans h.os, k.tape.trans h.tape, k.output.trans h.output, Nat.le_trans h.size k.size, fun i hi hne => (k.block i (Nat.lt_of_lt_of_le hi h.size) hne).trans (h.block i hi hne)⟩
theorem Row.keptG {w w' : World} {g g' : Nat} {e : TypeId} {cs : List Value} (h : Row w g e cs) (hg : w.grownBy w' (some g')) (hne : g ≠ g') : Row w' g e cs := (hg.block g h.lt (fun e => hne (by injection e))).trans h
theorem below_set {B g : Nat} {w0 w w' : World} (h : Below B w0 w) (hg : w.grownBy w' (some g)) (h1 : B ≤ g) (h2 : B ≤ w.heap.size) : Below B w0 w' := h.grown hg h2 (fun k e => by cases e; exact h1)
theorem sets3 (w : World) (b o : Nat) (v0 v1 v2 : Value) : w.grownBy (((w.setCell ⟨b, o, none⟩ v0).setCell ⟨b, o + 1, none⟩ v1).setCell ⟨b, o + 2, none⟩ v2) (some b) :=
  sets_trans (sets_trans (set_grown _ _ _ _) (set_grown _ _ _ _)) (set_grown _ _ _ _)
theorem sets5 (w : World) (b o : Nat) (v0 v1 v2 v3 v4 : Value) : w.grownBy (((((w.setCell ⟨b, o, none⟩ v0).setCell ⟨b, o + 1, none⟩ v1).setCell ⟨b, o + 2, none⟩ v2).setCell ⟨b, o + 3, none⟩ v3).setCell ⟨b, o + 4, none⟩ v4) (some b) :=
  sets_trans (sets_trans (sets_trans (sets_trans (set_grown _ _ _ _) (set_grown _ _ _ _)) (set_grown _ _ _ _)) (set_grown _ _ _ _)) (set_grown _ _ _ _)
theorem sets7 (w : World) (b o : Nat) (v0 v1 v2 v3 v4 v5 v6 : Value) : w.grownBy (((((((w.setCell ⟨b, o, none⟩ v0).setCell ⟨b, o + 1, none⟩ v1).setCell ⟨b, o + 2, none⟩ v2).setCell ⟨b, o + 3, none⟩ v3).setCell ⟨b, o + 4, none⟩ v4).setCell ⟨b, o + 5, none⟩ v5).setCell ⟨b, o + 6, none⟩ v6) (some b) :=
  sets_trans (sets_trans (sets5 _ _ _ _ _ _ _ _) (set_grown _ _ _ _)) (set_grown _ _ _ _)
theorem gen_post {P : Program} {fn : Func} {R : Ending → World → Prop} {e : Exit} {a : Act} {W : World} (h : ∀ w, w = W → bodyPost P fn R e a w) : bodyPost P fn R e a W := h W rfl
end Go.Proofs.Ytjjnfjnoagfajaa
