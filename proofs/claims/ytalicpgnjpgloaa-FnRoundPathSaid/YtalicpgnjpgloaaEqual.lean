/-
  Lists compared: the walks of the laws' helpers.
-/
import Derived.Test.YtalicpgnjpgloaaMg2
namespace Go.Proofs.Ytalicpgnjpgloaa
open Go Go.RowKit Reg
attribute [local go_sem] calmAt calmUpon
set_option maxHeartbeats 1000000 in
theorem c_equalPoints (A A' : Option Addr) (cap cap' : Nat) (ps qs : List Pt) (w : World) (h : Pts w A ps) (h' : Pts w A' qs) (hl : ps.length ≤ 4611686018427387904) (hl' : qs.length ≤ 4611686018427387904) :
    Calls Try.prog 36 #[.slice A ps.length cap, .slice A' qs.length cap'] w fun e w' => e = .returned (.bool (decide (ps = qs))) ∧ Below w.heap.size w w' := by
  by_cases hlen : ps.length = qs.length
  · go_enter Try.func36, Try.ntmps36
    have hne : (((ps.length : Nat) : Int) != ((qs.length : Nat) : Int)) = false := by simp [hlen]
    have Hlen := Lib.hid hlen
    clear hlen
    go_wp2
    go_loopw [5] (fun i wr => ∃ k : Nat, k ≤ ps.length ∧ i = .int .i64 k ∧ ps.take k = qs.take k ∧ Below w.heap.size w wr) (fun i _ => ps.length - (intOf i).toNat)
    case atStart => exact ⟨0, Nat.zero_le _, rfl, by simp, Below.refl _ _⟩
    case round =>
      obtain ⟨k, hk, rfl, hal, hbw⟩ := hrel
      have hal' := Lib.hid hal
      clear hal
      by_cases hlt : k < ps.length
      · have hlt' : k < qs.length := by have := Hlen.out; omega
        obtain ⟨b, off, rfl, _hb, hc⟩ := (h.ext ptR_stab hbw).pts (by omega)
        obtain ⟨b', off', rfl, _hb', hc'⟩ := (h'.ext ptR_stab hbw).pts (by omega)
        obtain ⟨cx, cy⟩ := hc k hlt
        obtain ⟨cx', cy'⟩ := hc' k hlt'
        have hk1 : ps[k] = qs[k] → ps.take (k + 1) = qs.take (k + 1) := take_eq_succ hal'.out hlt hlt'
        have hk2 : ps[k] ≠ qs[k] → ps ≠ qs := ne_of_at hlt hlt'
        have Hk1 := Lib.hid hk1
        have Hk2 := Lib.hid hk2
        clear h hc h' hc' hk1 hk2
        generalize ps[k] = p at *
        generalize qs[k] = q at *
        obtain ⟨x, y⟩ := p
        obtain ⟨x', y'⟩ := q
        dsimp only at cx cy cx' cy'
        by_cases hpq : (x, y) = (x', y')
        · have Hk := Lib.hid (Hk1.out hpq)
          injection hpq with h1 h2
          subst h1 h2
          clear Hk1 Hk2
          go_wp2_with fail
          (refine wp_region_calm [0,1,2,3,4,5,6,7,8] [] (by kernel_rfl) (by kernel_rfl) ?_; (iterate 9 ((refine calm_yes rfl rfl (fun w' hC => (by have cx := hC.cell cx; have cy := hC.cell cy; have cx' := hC.cell cx'; have cy' := hC.cell cy'; go_simp; rfl)) (fun K hK => ?_); go_simp; refine hK _ ?_; clear hK K))); refine calm_done (fun w1 hb1 => ?_))
          go_wp2
          go_roundw
          case rel => exact ⟨k + 1, by omega, by go_num, Hk.out, below_ext hbw hb1⟩
          case measure => simp [intOf]; omega
        · have Hk := Lib.hid (Hk2.out hpq)
          have hxy : ((x == x') = false ∧ (x = x') = False) ∨ ((x == x') = true ∧ (y == y') = false ∧ x = x' ∧ (y = y') = False) := by
            by_cases h1 : x = x'
            · right
              have h2 : y ≠ y' := fun h2 => hpq (by rw [h1, h2])
              exact ⟨by simp [h1], by simp [h2], h1, by simp [h2]⟩
            · left; exact ⟨by simp [h1], by simp [h1]⟩
          clear Hk1 Hk2 hpq
          rcases hxy with ⟨e1, e2⟩ | ⟨e1, e2, e3, e4⟩
          · go_wp2_with fail
            (refine wp_region_calm [0,1,2,3,4,5,6,7,8] [] (by kernel_rfl) (by kernel_rfl) ?_; (iterate 9 ((refine calm_yes rfl rfl (fun w' hC => (by have cx := hC.cell cx; have cy := hC.cell cy; have cx' := hC.cell cx'; have cy' := hC.cell cy'; go_simp; rfl)) (fun K hK => ?_); go_simp; refine hK _ ?_; clear hK K))); refine calm_done (fun w1 hb1 => ?_))
            go_wp2
            go_ret
            exact ⟨ret_b (by simp [Hk.out]), below_ext hbw hb1⟩
          · subst e3
            go_wp2_with fail
            (refine wp_region_calm [0,1,2,3,4,5,6,7,8] [] (by kernel_rfl) (by kernel_rfl) ?_; (iterate 9 ((refine calm_yes rfl rfl (fun w' hC => (by have cx := hC.cell cx; have cy := hC.cell cy; have cx' := hC.cell cx'; have cy' := hC.cell cy'; go_simp; rfl)) (fun K hK => ?_); go_simp; refine hK _ ?_; clear hK K))); refine calm_done (fun w1 hb1 => ?_))
            go_wp2
            go_ret
            exact ⟨ret_b (by simp [Hk.out]), below_ext hbw hb1⟩
      · have hk' : ps = qs := eq_of_take hal'.out (by omega) (by have := Hlen.out; omega)
        have Hk' := Lib.hid hk'
        clear h h' hk'
        go_wp2
        go_ret
        exact ⟨ret_b (by simp [Hk'.out]), hbw⟩
  · have hne : (((ps.length : Nat) : Int) != ((qs.length : Nat) : Int)) = true := by simp; omega
    have hpq : ps ≠ qs := fun h => hlen (by rw [h])
    go_enter Try.func36, Try.ntmps36
    go_wp2
    go_ret
    exact ⟨ret_b (by simp [hpq]), Below.refl _ _⟩
end Go.Proofs.Ytalicpgnjpgloaa
