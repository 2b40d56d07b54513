/-
  impl.polygon, boxes and rhombs: the walks.
-/
import Derived.Test.YtnclnmciaehgeaaClone
namespace Go.Proofs.Ytnclnmciaehgeaa
open Go Go.RowKit Reg
attribute [local go_sem] calmAt calmUpon
set_option maxRecDepth 100000 in
set_option maxHeartbeats 1000000 in
theorem c_polygon (A : Option Addr) (cap : Nat) (ps : List Pt) (w : World) (h : Pts w A ps) (hl : ps.length ≤ 1000) :
    Calls Try.prog 90 #[.slice A ps.length cap] w fun e w' => ∃ A' ss, e = .returned (.slice A' (ps.length + 1) (ps.length + 1)) ∧ OVb w' w.heap.size 33 31 (.slice A' (ps.length + 1) (ps.length + 1)) (polyV ps ++ [(4, [])]) ss ∧ Below w.heap.size w w' := by
  go_enter Try.func90, Try.ntmps90
  go_wp2
  go_loopw [3, 9] (fun v i wr => ∃ (k : Nat) (ss : List Value), k ≤ ps.length ∧ i = .int .i64 k ∧ OVb wr w.heap.size 33 31 v (polyV (ps.take k)) ss ∧ Below w.heap.size w wr) (fun _ i _ => ps.length - (intOf i).toNat)
  case atStart => exact ⟨0, [], Nat.zero_le _, rfl, OVb.nil _ _ _ _, Below.refl _ _⟩
  case round =>
    obtain ⟨k, ss, hk, rfl, how, hbw⟩ := hrel
    have How := Lib.hid how
    have hz := hbw.size
    by_cases hlt : k < ps.length
    · obtain ⟨b, off, rfl, _hb, hc⟩ := (h.ext ptR_stab hbw).pts (by omega)
      obtain ⟨cx, cy⟩ := hc k hlt
      have hpl : (polyV (ps.take k)).length = k := by rw [polyV_len, List.length_take]; omega
      have Hpl := Lib.hid hpl
      clear hc h how hpl
      obtain ⟨kd, Hkd, hb0⟩ : ∃ kd : Int, Hid (kd = if 0 < k then 1 else 0) ∧ ((((k : Nat) : Int) == 0) = true ∧ kd = 0 ∨ (((k : Nat) : Int) == 0) = false ∧ kd = 1) := by
        refine ⟨_, Lib.hid rfl, ?_⟩
        rcases Nat.eq_zero_or_pos k with h0 | h0
        · left; simp [h0]
        · right; rw [if_pos h0]; exact ⟨by simp; omega, rfl⟩
      rcases hb0 with ⟨hb0, hk0⟩ | ⟨hb0, hk0⟩
      all_goals
        subst hk0
        go_wp2_with (at_builtin; refine wpList_app ei_vb rfl (.tmp 16) (.tmp 21) rfl rfl (own_ext How.out.out (by repeat (first | exact Below.refl _ _ | assumption | refine Below.drew ?_ | refine Below.alloc ?_ (by first | exact Nat.le_refl _ | omega | (simp; done) | (simp; omega)) _ | refine Below.setCell ?_ (by first | exact Nat.le_refl _ | omega | (simp; done) | (simp; omega)) _))) rfl (src_at _ _ [_, _] (m := 1) rfl (by intro u hu; simp at hu; rcases hu with rfl | rfl <;> rfl) (by simp)) (by rw [Hpl.out]; omega) (by simp; omega) ?_; intro v2 w3 hown3 hg3 hat3)
        have hov := How.out.push (x := (_, [ps[k]])) (s := .slice (some ⟨wr.heap.size + 1, 0, none⟩) 1 1) TP_ne_TV (by repeat (first | exact Below.refl _ _ | assumption | refine Below.drew ?_ | refine Below.alloc ?_ (by first | exact Nat.le_refl _ | omega | (simp; done) | (simp; omega)) _ | refine Below.setCell ?_ (by first | exact Nat.le_refl _ | omega | (simp; done) | (simp; omega)) _)) (own_of_row (n := 1) (row_mid wr _ _ 33 [.int .i64 ps[k].1, .int .i64 ps[k].2]) (by omega) rfl (by decide)) (fun g hg => by simp [Value.ownBlock] at hg; omega) hown3 hg3
        have hbf := own_below (Ext.trans hbw (by repeat (first | exact Below.refl _ _ | assumption | refine Below.drew ?_ | refine Below.alloc ?_ (by first | exact Nat.le_refl _ | omega | (simp; done) | (simp; omega)) _ | refine Below.setCell ?_ (by first | exact Nat.le_refl _ | omega | (simp; done) | (simp; omega)) _))) (own_ext How.out.out (by repeat (first | exact Below.refl _ _ | assumption | refine Below.drew ?_ | refine Below.alloc ?_ (by first | exact Nat.le_refl _ | omega | (simp; done) | (simp; omega)) _ | refine Below.setCell ?_ (by first | exact Nat.le_refl _ | omega | (simp; done) | (simp; omega)) _))) hg3 (by simp; omega)
        have Hov := Lib.hid hov
        clear hown3 hg3 hat3 hov How
        go_wp2
        go_roundw
        case rel => exact ⟨k + 1, _, by omega, by go_num, by rw [polyV_take hlt, ← Hkd.out]; exact Hov.out, hbf⟩
        case measure => simp [intOf]; omega
    · obtain rfl : k = ps.length := by omega
      rw [List.take_length] at How
      have hpl := polyV_len ps
      clear h how hlt hk
      go_wp2_with (at_builtin; refine wpList_app ei_vb rfl (.tmp 24) (.tmp 26) rfl rfl (own_ext How.out.out (by repeat (first | exact Below.refl _ _ | assumption | refine Below.drew ?_ | refine Below.alloc ?_ (by first | exact Nat.le_refl _ | omega | (simp; done) | (simp; omega)) _ | refine Below.setCell ?_ (by first | exact Nat.le_refl _ | omega | (simp; done) | (simp; omega)) _))) rfl (src_at _ _ [_, _] (m := 1) rfl (by intro u hu; simp at hu; rcases hu with rfl | rfl <;> rfl) (by simp)) (by omega) (by simp; omega) ?_; intro v2 w3 hown3 hg3 hat3)
      have hov := How.out.push (x := (4, [])) TP_ne_TV (by repeat (first | exact Below.refl _ _ | assumption | refine Below.drew ?_ | refine Below.alloc ?_ (by first | exact Nat.le_refl _ | omega | (simp; done) | (simp; omega)) _ | refine Below.setCell ?_ (by first | exact Nat.le_refl _ | omega | (simp; done) | (simp; omega)) _)) (own_nil _ _ _ _) (fun g hg => by cases hg) hown3 hg3
      have hbf := own_below (Ext.trans hbw (by repeat (first | exact Below.refl _ _ | assumption | refine Below.drew ?_ | refine Below.alloc ?_ (by first | exact Nat.le_refl _ | omega | (simp; done) | (simp; omega)) _ | refine Below.setCell ?_ (by first | exact Nat.le_refl _ | omega | (simp; done) | (simp; omega)) _))) (own_ext How.out.out (by repeat (first | exact Below.refl _ _ | assumption | refine Below.drew ?_ | refine Below.alloc ?_ (by first | exact Nat.le_refl _ | omega | (simp; done) | (simp; omega)) _ | refine Below.setCell ?_ (by first | exact Nat.le_refl _ | omega | (simp; done) | (simp; omega)) _))) hg3 (by simp; omega)
      obtain ⟨A2, cap2, hv2⟩ := own_form hown3
      subst hv2
      have Hov := Lib.hid hov
      clear hov
      refine (c_clone_ei_vb A2 _ cap2 _ w3 (Has.src hown3 (fun u hu => Hov.out.one u (by rw [zipC_append How.out.len.symm]; exact hu))) hown3.slok (by omega)).mono ?_; rintro e w4 ⟨A4, rfl, hs4, ho4, hb4⟩
      go_wp2
      go_ret
      have ho5 : Has w4 w.heap.size 31 2 (.slice A4 ((polyV ps).length + 1) ((polyV ps).length + 1)) ((polyV ps).length + 1) (zipC (polyV ps ++ [(4, [])]) (ss ++ [.slice none 0 0])) := by
        rw [zipC_append How.out.len.symm]; exact ho4.rebase hbf.size
      have q := Hov.out.copy (v' := .slice A4 ((polyV ps).length + 1) ((polyV ps).length + 1)) (by rw [List.length_append]; exact ho5) hb4
      rw [hpl] at q
      exact ⟨A4, ss ++ [.slice none 0 0], rfl, q, Ext.trans hbf hb4⟩
end Go.Proofs.Ytnclnmciaehgeaa
