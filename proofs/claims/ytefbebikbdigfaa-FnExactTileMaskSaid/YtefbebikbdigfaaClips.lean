/-
  Rows cut down to their lengths: the walks.
-/
import Derived.Test.YtefbebikbdigfaaClone
namespace Go.Proofs.Ytefbebikbdigfaa
open Go Go.RowKit Reg
set_option maxHeartbeats 1000000 in
theorem c_ClipC (A : Option Addr) (n cap : Nat) (w : World) (hs : SlOk A n cap) :
    Calls Try.prog 81 #[.slice A n cap] w fun e w' => e = .returned (.slice A n n) ∧ w = w' := by
  obtain ⟨h1, h2, h3⟩ := hs
  unfold maxLen at h3
  cases A with
  | none =>
    obtain ⟨rfl, rfl⟩ := h1 rfl
    clear h1
    go_enter Try.func81, Try.ntmps81
    go_wp2
    go_ret
    exact ⟨rfl, rfl⟩
  | some ad =>
    clear h1
    go_enter Try.func81, Try.ntmps81
    go_wp2
    go_ret
    exact ⟨rfl, rfl⟩
set_option maxHeartbeats 1000000 in
theorem c_ClipS (A : Option Addr) (n cap : Nat) (w : World) (hs : SlOk A n cap) :
    Calls Try.prog 57 #[.slice A n cap] w fun e w' => e = .returned (.slice A n n) ∧ w = w' := by
  obtain ⟨h1, h2, h3⟩ := hs
  unfold maxLen at h3
  cases A with
  | none =>
    obtain ⟨rfl, rfl⟩ := h1 rfl
    clear h1
    go_enter Try.func57, Try.ntmps57
    go_wp2
    go_ret
    exact ⟨rfl, rfl⟩
  | some ad =>
    clear h1
    go_enter Try.func57, Try.ntmps57
    go_wp2
    go_ret
    exact ⟨rfl, rfl⟩
set_option maxHeartbeats 1000000 in
theorem c_ClipE (A : Option Addr) (n cap : Nat) (w : World) (hs : SlOk A n cap) :
    Calls Try.prog 43 #[.slice A n cap] w fun e w' => e = .returned (.slice A n n) ∧ w = w' := by
  obtain ⟨h1, h2, h3⟩ := hs
  unfold maxLen at h3
  cases A with
  | none =>
    obtain ⟨rfl, rfl⟩ := h1 rfl
    clear h1
    go_enter Try.func43, Try.ntmps43
    go_wp2
    go_ret
    exact ⟨rfl, rfl⟩
  | some ad =>
    clear h1
    go_enter Try.func43, Try.ntmps43
    go_wp2
    go_ret
    exact ⟨rfl, rfl⟩
end Go.Proofs.Ytefbebikbdigfaa
