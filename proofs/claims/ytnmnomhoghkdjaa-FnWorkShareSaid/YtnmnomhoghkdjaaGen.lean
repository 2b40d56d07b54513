/-
  Data drawn: numbers and points.
-/
import Derived.Test.YtnmnomhoghkdjaaPick
import Derived.Test.YtnmnomhoghkdjaaNum
namespace Go.Proofs.Ytnmnomhoghkdjaa
open Go Go.RowKit Reg
attribute [local go_sem] calmAt calmUpon

def CrdP (p : Pt) : Prop := Crd p.1 ∧ Crd p.2
theorem ints_new (w : World) (e : TypeId) (ns : List Int) {g : Nat} (hg : g = w.heap.size) {cs : Array Value} (hcs : cs = (ns.flatMap intC).toArray) : Ints (w.alloc (.cells cs e)) (some ⟨g, 0, none⟩) ns := by
  subst hg hcs
  exact Row.in_ (rest := []) (enc := intC) (fun _ => rfl) (by simpa using Row.new w e (ns.flatMap intC)) (fun _ _ => rfl)
/-- Near the picture. -/
def SomeP (p : Pt) : Prop := (-16 ≤ p.1 ∧ p.1 ≤ 207) ∧ (-16 ≤ p.2 ∧ p.2 ≤ 207)
theorem SomeP.crd {p : Pt} (h : SomeP p) : CrdP p := by unfold SomeP at h; unfold CrdP Crd; omega
def VpP (p : Pt) : Prop := vpB p = true
theorem SomeP.vp {p : Pt} (h : SomeP p) : VpP p := by unfold SomeP at h; unfold VpP; rw [vpB_iff]; omega
/-- A point drawn of which Q holds. -/
def DrewPtQ (Q : Pt → Prop) (w w' : World) (e : Ending) (g N : Nat) : Prop := ∃ p : Pt, e = .returned (.agg #[.int .i64 p.1, .int .i64 p.2]) ∧ Q p ∧ Rdr w' g N ∧ w.grownBy w' (some g)
/-- A point drawn. -/
def DrewPt (w w' : World) (e : Ending) (g N : Nat) : Prop := ∃ p : Pt, e = .returned (.agg #[.int .i64 p.1, .int .i64 p.2]) ∧ CrdP p ∧ Rdr w' g N ∧ w.grownBy w' (some g)
end Go.Proofs.Ytnmnomhoghkdjaa
