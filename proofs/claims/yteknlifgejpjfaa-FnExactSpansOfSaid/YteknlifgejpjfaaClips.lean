/-
  Rows cut down to their lengths: the walks.
-/
import Derived.Test.YteknlifgejpjfaaClone
namespace Go.Proofs.Yteknlifgejpjfaa
open Go Go.RowKit Reg
set_option maxHeartbeats 1000000 in
theorem c_ClipC (A : Option Addr) (n cap : Nat) (w : World) (hs : SlOk A n cap) :
    Calls Try.prog 50 #[.slice A n cap] w fun e w' => e = .returned (.slice A n n) ∧ w = w' := by
  obtain ⟨h1, h2, h3⟩ := hs
  unfold maxLen at h3
  cases A with
  | none =>
    obtain ⟨rfl, rfl⟩ := h1 rfl
    clear h1
    go_enter Try.func50, Try.ntmps50
    go_wp2
    go_ret
    exact ⟨rfl, rfl⟩
  | some ad =>
    clear h1
    go_enter Try.func50, Try.ntmps50
    go_wp2
    go_ret
    exact ⟨rfl, rfl⟩
set_option maxHeartbeats 1000000 in
theorem c_ClipS (A : Option Addr) (n cap : Nat) (w : World) (hs : SlOk A n cap) :
    Calls Try.prog 33 #[.slice A n cap] w fun e w' => e = .returned (.slice A n n) ∧ w = w' := by
  obtain ⟨h1, h2, h3⟩ := hs
  unfold maxLen at h3
  cases A with
  | none =>
    obtain ⟨rfl, rfl⟩ := h1 rfl
    clear h1
    go_enter Try.func33, Try.ntmps33
    go_wp2
    go_ret
    exact ⟨rfl, rfl⟩
  | some ad =>
    clear h1
    go_enter Try.func33, Try.ntmps33
    go_wp2
    go_ret
    exact ⟨rfl, rfl⟩
end Go.Proofs.Yteknlifgejpjfaa
