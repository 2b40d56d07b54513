/-
  clone, slices.Clone and slices.Clip at each type: a new row with the same cells.
-/
import Derived.Test.YtalicpgnjpgloaaShape
namespace Go.Proofs.Ytalicpgnjpgloaa
open Go Go.RowKit Reg
/-- A slice value that is nil, or leads somewhere: what a source's value looks like. -/
def SlOk (A : Option Addr) (n cap : Nat) : Prop := (A = none → n = 0 ∧ cap = 0) ∧ n ≤ cap ∧ cap ≤ maxLen
theorem Has.slok {w : World} {B : Nat} {e : TypeId} {sz n cap : Nat} {A : Option Addr} {xs : List Value} (h : Has w B e sz (.slice A n cap) n xs) : SlOk A n cap := by
  rcases h.2 with ⟨h0, h1⟩ | ⟨g, cap', cur, h1, _, _, h4, h5, _⟩
  · injection h0 with a b c
    subst b c
    exact ⟨fun _ => ⟨rfl, rfl⟩, by omega, by simp⟩
  · injection h1 with a b c
    subst a c
    exact ⟨fun h => (by cases h), h4, h5⟩
theorem Has.clip {w : World} {B : Nat} {e : TypeId} {sz n cap : Nat} {A : Option Addr} {xs : List Value} (h : Has w B e sz (.slice A n cap) n xs) : Has w B e sz (.slice A n n) n xs := by
  refine ⟨h.1, ?_⟩
  rcases h.2 with ⟨h0, h1⟩ | ⟨g, cap', cur, h1, h2, h3, h4, h5, h6, h7⟩
  · injection h0 with a b c
    subst a b c
    exact .inl ⟨rfl, rfl⟩
  · injection h1 with a b c
    subst a c
    exact .inr ⟨g, n, cur, rfl, h2, h3, Nat.le_refl _, by omega, Nat.le_trans (Nat.mul_le_mul_right _ h4) h6, h7⟩
set_option maxHeartbeats 1000000 in
theorem c_Clone_ei_pt (A : Option Addr) (n cap : Nat) (cs : List Value) (w : World) (h : Src w A n 2 cs) (hs : SlOk A n cap) (hn : n ≤ 3000000000) :
    Calls Try.prog 53 #[.slice A n cap] w fun e w' => ∃ A' cap', e = .returned (.slice A' n cap') ∧ SlOk A' n cap' ∧ Has w' w.heap.size 31 2 (.slice A' n cap') n cs ∧ Below w.heap.size w w' := by
  cases A with
  | none =>
    obtain ⟨rfl, rfl⟩ := hs.1 rfl
    have hcs : cs = [] := List.eq_nil_of_length_eq_zero (by simpa using h.1)
    subst hcs
    have hq := fun W => Lib.run_eql_slice_nil (P := Try.prog) W 23 31 none 0 0 0 0 Try.underlying23
    go_enter Try.func53, Try.ntmps53
    go_wp2
    go_ret
    exact ⟨none, 0, rfl, ⟨fun _ => ⟨rfl, rfl⟩, by simp, by simp⟩, own_nil _ _ _ _, Below.refl _ _⟩
  | some ad =>
    have hq := fun W => Lib.run_eql_slice_nil (P := Try.prog) W 23 31 (some ad) n cap 0 0 Try.underlying23
    go_enter Try.func53, Try.ntmps53
    go_wp2_with (at_builtin; refine wpList_app (base := w.heap.size) ei_pt rfl (.tmp 5) (.tmp 6) rfl rfl (own_of_row (n := 0) (cs := []) (Row.new w _ []) (Nat.le_refl _) rfl (by decide)) rfl (h.ext (ext_alloc _ _)) (by omega) (by simp) ?_; intro v2 w3 hown3 hg3 hat3)
    obtain ⟨A2, cap2, hv2⟩ := own_form hown3
    have hb : Below w.heap.size w w3 := own_below (ext_alloc w _) (own_of_row (n := 0) (sz := 2) (cs := []) (Row.new w 31 []) (Nat.le_refl _) rfl (by decide)) hg3 (by simp)
    subst hv2
    go_wp2
    go_ret
    refine ⟨A2, cap2, by simp, by simpa using hown3.slok, by simpa using hown3, hb⟩
set_option maxHeartbeats 1000000 in
theorem c_Clip_ei_pt (A : Option Addr) (n cap : Nat) (w : World) (hs : SlOk A n cap) :
    Calls Try.prog 52 #[.slice A n cap] w fun e w' => e = .returned (.slice A n n) ∧ w = w' := by
  obtain ⟨h1, h2, h3⟩ := hs
  unfold maxLen at h3
  cases A with
  | none =>
    obtain ⟨rfl, rfl⟩ := h1 rfl
    clear h1
    go_enter Try.func52, Try.ntmps52
    go_wp2
    go_ret
    exact ⟨rfl, rfl⟩
  | some ad =>
    clear h1
    go_enter Try.func52, Try.ntmps52
    go_wp2
    go_ret
    exact ⟨rfl, rfl⟩
set_option maxHeartbeats 1000000 in
theorem c_clone_ei_pt (A : Option Addr) (n cap : Nat) (cs : List Value) (w : World) (h : Src w A n 2 cs) (hs : SlOk A n cap) (hn : n ≤ 3000000000) :
    Calls Try.prog 48 #[.slice A n cap] w fun e w' => ∃ A', e = .returned (.slice A' n n) ∧ SlOk A' n n ∧ Has w' w.heap.size 31 2 (.slice A' n n) n cs ∧ Below w.heap.size w w' := by
  go_enter Try.func48, Try.ntmps48
  go_wp2_with fail
  refine (c_Clone_ei_pt A n cap cs w h hs hn).mono ?_; rintro e w1 ⟨A1, cap1, rfl, hs1, ho1, hb1⟩
  go_wp2_with fail
  refine (c_Clip_ei_pt A1 n cap1 w1 hs1).mono ?_; rintro e w2 ⟨rfl, rfl⟩
  go_wp2
  go_ret
  exact ⟨A1, rfl, ho1.clip.slok, ho1.clip, hb1⟩
end Go.Proofs.Ytalicpgnjpgloaa
