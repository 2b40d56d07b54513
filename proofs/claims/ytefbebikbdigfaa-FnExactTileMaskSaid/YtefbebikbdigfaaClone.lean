/-
  clone, slices.Clone and slices.Clip at each type: a new row with the same cells.
-/
import Derived.Test.YtefbebikbdigfaaShape
namespace Go.Proofs.Ytefbebikbdigfaa
open Go Go.RowKit Reg
/-- A slice value that is nil, or leads somewhere: what a source's value looks like. -/
def SlOk (A : Option Addr) (n cap : Nat) : Prop := (A = none → n = 0 ∧ cap = 0) ∧ n ≤ cap ∧ cap ≤ maxLen
theorem Has.slok {w : World} {B : Nat} {e : TypeId} {sz n cap : Nat} {A : Option Addr} {xs : List Value} (h : Has w B e sz (.slice A n cap) n xs) : SlOk A n cap := by
  rcases h.2 with ⟨h0, h1⟩ | ⟨g, cap', cur, h1, _, _, h4, h5, _⟩
  · injection h0 with a b c
    subst b c
    exact ⟨fun _ => ⟨rfl, rfl⟩, by omega, by simp⟩
  · injection h1 with a b c
    subst a c
    exact ⟨fun h => (by cases h), h4, h5⟩
theorem Has.clip {w : World} {B : Nat} {e : TypeId} {sz n cap : Nat} {A : Option Addr} {xs : List Value} (h : Has w B e sz (.slice A n cap) n xs) : Has w B e sz (.slice A n n) n xs := by
  refine ⟨h.1, ?_⟩
  rcases h.2 with ⟨h0, h1⟩ | ⟨g, cap', cur, h1, h2, h3, h4, h5, h6, h7⟩
  · injection h0 with a b c
    subst a b c
    exact .inl ⟨rfl, rfl⟩
  · injection h1 with a b c
    subst a c
    exact .inr ⟨g, n, cur, rfl, h2, h3, Nat.le_refl _, by omega, Nat.le_trans (Nat.mul_le_mul_right _ h4) h6, h7⟩
set_option maxHeartbeats 1000000 in
theorem c_Clip_ei_int (A : Option Addr) (n cap : Nat) (w : World) (hs : SlOk A n cap) :
    Calls Try.prog 71 #[.slice A n cap] w fun e w' => e = .returned (.slice A n n) ∧ w = w' := by
  obtain ⟨h1, h2, h3⟩ := hs
  unfold maxLen at h3
  cases A with
  | none =>
    obtain ⟨rfl, rfl⟩ := h1 rfl
    clear h1
    go_enter Try.func71, Try.ntmps71
    go_wp2
    go_ret
    exact ⟨rfl, rfl⟩
  | some ad =>
    clear h1
    go_enter Try.func71, Try.ntmps71
    go_wp2
    go_ret
    exact ⟨rfl, rfl⟩
end Go.Proofs.Ytefbebikbdigfaa
