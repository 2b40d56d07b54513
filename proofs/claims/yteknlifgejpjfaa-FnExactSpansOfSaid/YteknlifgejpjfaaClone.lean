/-
  clone, slices.Clone and slices.Clip at each type: a new row with the same cells.
-/
import Derived.Test.YteknlifgejpjfaaShape
namespace Go.Proofs.Yteknlifgejpjfaa
open Go Go.RowKit Reg
/-- A slice value that is nil, or leads somewhere: what a source's value looks like. -/
def SlOk (A : Option Addr) (n cap : Nat) : Prop := (A = none → n = 0 ∧ cap = 0) ∧ n ≤ cap ∧ cap ≤ maxLen
theorem Has.slok {w : World} {B : Nat} {e : TypeId} {sz n cap : Nat} {A : Option Addr} {xs : List Value} (h : Has w B e sz (.slice A n cap) n xs) : SlOk A n cap := by
  rcases h.2 with ⟨h0, h1⟩ | ⟨g, cap', cur, h1, _, _, h4, h5, _⟩
  · injection h0 with a b c
    subst b c
    exact ⟨fun _ => ⟨rfl, rfl⟩, by omega, by simp⟩
  · injection h1 with a b c
    subst a c
    exact ⟨fun h => (by cases h), h4, h5⟩
theorem Has.clip {w : World} {B : Nat} {e : TypeId} {sz n cap : Nat} {A : Option Addr} {xs : List Value} (h : Has w B e sz (.slice A n cap) n xs) : Has w B e sz (.slice A n n) n xs := by
  refine ⟨h.1, ?_⟩
  rcases h.2 with ⟨h0, h1⟩ | ⟨g, cap', cur, h1, h2, h3, h4, h5, h6, h7⟩
  · injection h0 with a b c
    subst a b c
    exact .inl ⟨rfl, rfl⟩
  · injection h1 with a b c
    subst a c
    exact .inr ⟨g, n, cur, rfl, h2, h3, Nat.le_refl _, by omega, Nat.le_trans (Nat.mul_le_mul_right _ h4) h6, h7⟩
end Go.Proofs.Yteknlifgejpjfaa
