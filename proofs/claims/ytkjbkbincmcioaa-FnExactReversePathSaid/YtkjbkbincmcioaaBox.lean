/-
  Boxes: the walks.
-/
import Derived.Test.YtkjbkbincmcioaaShape2
import Derived.Test.YtkjbkbincmcioaaOpen
namespace Go.Proofs.Ytkjbkbincmcioaa
open Go Go.RowKit Reg
attribute [local go_sem] calmAt calmUpon
abbrev bxV (b : Bx) : Value := .agg #[.int .i64 b.1, .int .i64 b.2.1, .int .i64 b.2.2.1, .int .i64 b.2.2.2]
def vbxB (b : Bx) : Bool := decide ((-1000 ≤ b.1 ∧ b.1 ≤ b.2.2.1 ∧ b.2.2.1 ≤ 1000) ∧ (-1000 ≤ b.2.1 ∧ b.2.1 ≤ b.2.2.2 ∧ b.2.2.2 ≤ 1000))
/-- A list of verbs of one's own, and a word. -/
def RetVb (w w' : World) (e : Ending) (r : List Vb × Bool) : Prop :=
  ∃ A cap ss, e = .returned (.tuple #[.slice A r.1.length cap, .bool r.2]) ∧ OVb w' w.heap.size 27 54 (.slice A r.1.length cap) r.1 ss ∧ Below w.heap.size w w'
theorem RetVb.none {w w' : World} {r : List Vb × Bool} (hr : r = ([], false)) (hb : Below w.heap.size w w') : RetVb w w' (.returned (.tuple #[.slice none 0 0, .bool false])) r := by
  subst hr; exact ⟨Option.none, 0, [], rfl, OVb.nil _ _ _ _, hb⟩
theorem RetVb.some {w w1 w' : World} {r : List Vb × Bool} {A : Option Addr} {n cap : Nat} {vs : List Vb} {ss : List Value} (hr : r = (vs, true)) (ho : OVb w' w1.heap.size 27 54 (.slice A n cap) vs ss) (hn : n = vs.length) (h1 : Ext w w1) (h2 : Ext w1 w') :
    RetVb w w' (.returned (.tuple #[.slice A n cap, .bool true])) r := by
  subst hr hn; exact ⟨A, cap, ss, rfl, ho.rebase h1.size, Ext.trans h1 h2⟩
def boxPts (b : Bx) : List Pt := [(b.1, b.2.1), (b.2.2.1, b.2.1), (b.2.2.1, b.2.2.2), (b.1, b.2.2.2)]
def boxOk (b : Bx) : Bool := vbxB b && decide (b.1 < b.2.2.1 ∧ b.2.1 < b.2.2.2)
def pathL (ok : Bool) (ps : List Pt) : List Vb × Bool := if ok then (polyV ps ++ [(4, [])], true) else ([], false)
theorem pathL_small (ok : Bool) (ps : List Pt) : ∀ v ∈ (pathL ok ps).1, v.2.length ≤ 1 := by
  intro v hv
  unfold pathL at hv
  cases ok
  · simp at hv
  · simp only [if_true, List.mem_append, List.mem_singleton] at hv
    rcases hv with hv | rfl
    · obtain ⟨x, _, rfl⟩ := List.mem_map.1 hv; simp
    · simp
theorem pathL_len (ok : Bool) (ps : List Pt) : (pathL ok ps).1.length ≤ ps.length + 1 := by
  unfold pathL
  cases ok <;> simp [polyV_len]
theorem pts_new (w : World) (e : TypeId) (ps : List Pt) {g : Nat} (hg : g = w.heap.size) {cs : Array Value} (hcs : cs = (ps.flatMap ptC).toArray) : Pts (w.alloc (.cells cs e)) (some ⟨g, 0, none⟩) ps := by
  subst hg hcs
  exact Row.in_ (rest := []) (enc := ptC) ptC_len (by simpa using Row.new w e (ps.flatMap ptC)) (fun _ _ => rfl)
end Go.Proofs.Ytkjbkbincmcioaa
