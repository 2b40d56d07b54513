/-
  clone of rows of colors: a new row with the same cells.
-/
import Derived.Test.YthjmpofdpmlhmaaGreatMg3
import Derived.Test.YthjmpofdpmlhmaaGreatDrawW
namespace Go.Proofs.YthjmpofdpmlhmaaGreat
open Go Go.RowKit Reg
theorem bxC_one (c : Bx4) : ∀ u ∈ bxC c, u.oneCell' = true := by
  intro u hu
  simp only [bxC, List.mem_cons, List.not_mem_nil, or_false] at hu
  rcases hu with rfl | rfl | rfl | rfl <;> rfl
set_option maxHeartbeats 1000000 in
theorem c_Clone_ei_co (A : Option Addr) (n cap : Nat) (cs : List Value) (w : World) (h : Src w A n 4 cs) (hs : SlOk A n cap) (hn : n ≤ 3000000000) :
    Calls Tryz.prog 58 #[.slice A n cap] w fun e w' => ∃ A' cap', e = .returned (.slice A' n cap') ∧ SlOk A' n cap' ∧ Has w' w.heap.size 63 4 (.slice A' n cap') n cs ∧ Below w.heap.size w w' := by
  cases A with
  | none =>
    obtain ⟨rfl, rfl⟩ := hs.1 rfl
    have hcs : cs = [] := List.eq_nil_of_length_eq_zero (by simpa using h.1)
    subst hcs
    have hq := fun W => Lib.run_eql_slice_nil (P := Tryz.prog) W 30 63 none 0 0 0 0 Tryz.underlying30
    go_enter Tryz.func58, Tryz.ntmps58
    go_wp2
    go_ret
    exact ⟨none, 0, rfl, ⟨fun _ => ⟨rfl, rfl⟩, by simp, by simp⟩, own_nil _ _ _ _, Below.refl _ _⟩
  | some ad =>
    have hq := fun W => Lib.run_eql_slice_nil (P := Tryz.prog) W 30 63 (some ad) n cap 0 0 Tryz.underlying30
    go_enter Tryz.func58, Tryz.ntmps58
    go_wp2_with (at_builtin; refine wpList_app (base := w.heap.size) ei_co rfl (.tmp 5) (.tmp 6) rfl rfl (own_of_row (n := 0) (cs := []) (Row.new w _ []) (Nat.le_refl _) rfl (by decide)) rfl (h.ext (ext_alloc _ _)) (by omega) (by simp) ?_; intro v2 w3 hown3 hg3 hat3)
    obtain ⟨A2, cap2, hv2⟩ := own_form hown3
    have hb : Below w.heap.size w w3 := own_below (ext_alloc w _) (own_of_row (n := 0) (sz := 4) (cs := []) (Row.new w 63 []) (Nat.le_refl _) rfl (by decide)) hg3 (by simp)
    subst hv2
    go_wp2
    go_ret
    refine ⟨A2, cap2, by simp, by simpa using hown3.slok, by simpa using hown3, hb⟩
set_option maxHeartbeats 1000000 in
theorem c_Clip_ei_co (A : Option Addr) (n cap : Nat) (w : World) (hs : SlOk A n cap) :
    Calls Tryz.prog 57 #[.slice A n cap] w fun e w' => e = .returned (.slice A n n) ∧ w = w' := by
  obtain ⟨h1, h2, h3⟩ := hs
  unfold maxLen at h3
  cases A with
  | none =>
    obtain ⟨rfl, rfl⟩ := h1 rfl
    clear h1
    go_enter Tryz.func57, Tryz.ntmps57
    go_wp2
    go_ret
    exact ⟨rfl, rfl⟩
  | some ad =>
    clear h1
    go_enter Tryz.func57, Tryz.ntmps57
    go_wp2
    go_ret
    exact ⟨rfl, rfl⟩
set_option maxHeartbeats 1000000 in
theorem c_clone_ei_co (A : Option Addr) (n cap : Nat) (cs : List Value) (w : World) (h : Src w A n 4 cs) (hs : SlOk A n cap) (hn : n ≤ 3000000000) :
    Calls Tryz.prog 32 #[.slice A n cap] w fun e w' => ∃ A', e = .returned (.slice A' n n) ∧ SlOk A' n n ∧ Has w' w.heap.size 63 4 (.slice A' n n) n cs ∧ Below w.heap.size w w' := by
  go_enter Tryz.func32, Tryz.ntmps32
  go_wp2_with fail
  refine (c_Clone_ei_co A n cap cs w h hs hn).mono ?_; rintro e w1 ⟨A1, cap1, rfl, hs1, ho1, hb1⟩
  go_wp2_with fail
  refine (c_Clip_ei_co A1 n cap1 w1 hs1).mono ?_; rintro e w2 ⟨rfl, rfl⟩
  go_wp2
  go_ret
  exact ⟨A1, rfl, ho1.clip.slok, ho1.clip, hb1⟩
end Go.Proofs.YthjmpofdpmlhmaaGreat
