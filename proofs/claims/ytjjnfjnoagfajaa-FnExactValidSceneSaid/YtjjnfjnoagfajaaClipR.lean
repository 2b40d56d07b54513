/-
  A list of polygons without room behind it: the walk.
-/
import Derived.Test.YtjjnfjnoagfajaaClone
namespace Go.Proofs.Ytjjnfjnoagfajaa
open Go Go.RowKit Reg
attribute [local go_sem] calmAt calmUpon
set_option maxHeartbeats 1000000 in
theorem c_ClipR (A : Option Addr) (n cap : Nat) (w : World) (hs : SlOk A n cap) :
    Calls Try.prog 80 #[.slice A n cap] w fun e w' => e = .returned (.slice A n n) ∧ w = w' := by
  obtain ⟨h1, h2, h3⟩ := hs
  unfold maxLen at h3
  cases A with
  | none =>
    obtain ⟨rfl, rfl⟩ := h1 rfl
    clear h1
    go_enter Try.func80, Try.ntmps80
    go_wp2
    go_ret
    exact ⟨rfl, rfl⟩
  | some ad =>
    clear h1
    go_enter Try.func80, Try.ntmps80
    go_wp2
    go_ret
    exact ⟨rfl, rfl⟩
end Go.Proofs.Ytjjnfjnoagfajaa
