/-
  Rows cut down to their lengths: the walks.
-/
import Derived.Test.YtagmnbphbakikaaGreatMg3
namespace Go.Proofs.YtagmnbphbakikaaGreat
open Go Go.RowKit Reg
set_option maxHeartbeats 1000000 in
theorem c_ClipD (A : Option Addr) (n cap : Nat) (w : World) (hs : SlOk A n cap) :
    Calls Tryz.prog 98 #[.slice A n cap] w fun e w' => e = .returned (.slice A n n) ∧ w = w' := by
  obtain ⟨h1, h2, h3⟩ := hs
  unfold maxLen at h3
  cases A with
  | none =>
    obtain ⟨rfl, rfl⟩ := h1 rfl
    clear h1
    go_enter Tryz.func98, Tryz.ntmps98
    go_wp2
    go_ret
    exact ⟨rfl, rfl⟩
  | some ad =>
    clear h1
    go_enter Tryz.func98, Tryz.ntmps98
    go_wp2
    go_ret
    exact ⟨rfl, rfl⟩
end Go.Proofs.YtagmnbphbakikaaGreat
