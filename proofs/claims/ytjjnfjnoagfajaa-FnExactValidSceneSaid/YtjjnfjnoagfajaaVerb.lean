/-
  Verbs compared, marked, and marks looked for.
-/
import Derived.Test.YtjjnfjnoagfajaaMark
namespace Go.Proofs.Ytjjnfjnoagfajaa
open Go Go.RowKit Reg
attribute [local go_sem] calmAt calmUpon
set_option maxHeartbeats 1000000 in
theorem c_eqVerb (a b : Int) (A A' : Option Addr) (cap cap' : Nat) (ps qs : List Pt) (w : World) (h : Pts w A ps) (h' : Pts w A' qs) (hl : ps.length ≤ 1000000000000) (hl' : qs.length ≤ 1000000000000) :
    Calls Try.prog 67 #[.agg #[.int .i64 a, .slice A ps.length cap], .agg #[.int .i64 b, .slice A' qs.length cap']] w fun e w' => e = .returned (.bool (vbEq (a, ps) (b, qs))) ∧ Below w.heap.size w w' := by
  by_cases hab : a = b
  · have hb1 : (a != b) = false := by simp [hab]
    have Hab := Lib.hid hab
    clear hab
    obtain ⟨d, hd⟩ : ∃ d, d = decide (ps = qs) := ⟨_, rfl⟩
    have Hd := Lib.hid hd
    clear hd
    cases d
    all_goals
      go_enter Try.func67, Try.ntmps67
      go_wp2_with fail
      refine (c_eqPointS A A' cap cap' ps qs _ (h.ext ptR_stab (by repeat (first | exact Below.refl _ _ | assumption | refine Below.drew ?_ | refine Below.alloc ?_ (by first | exact Nat.le_refl _ | omega | (simp; done) | (simp; omega)) _ | refine Below.setCell ?_ (by first | exact Nat.le_refl _ | omega | (simp; done) | (simp; omega)) _))) (h'.ext ptR_stab (by repeat (first | exact Below.refl _ _ | assumption | refine Below.drew ?_ | refine Below.alloc ?_ (by first | exact Nat.le_refl _ | omega | (simp; done) | (simp; omega)) _ | refine Below.setCell ?_ (by first | exact Nat.le_refl _ | omega | (simp; done) | (simp; omega)) _))) (by omega) (by omega)).mono ?_; rw [← Hd.out]; rintro e w1 ⟨rfl, hb⟩
      have hb2 : Below w.heap.size w w1 := Ext.trans (by repeat (first | exact Below.refl _ _ | assumption | refine Below.drew ?_ | refine Below.alloc ?_ (by first | exact Nat.le_refl _ | omega | (simp; done) | (simp; omega)) _ | refine Below.setCell ?_ (by first | exact Nat.le_refl _ | omega | (simp; done) | (simp; omega)) _)) hb
      go_wp2
      go_ret
      exact ⟨ret_b (by have h1 := Hd.out; have h2 := Hab.out; subst h2; simpa using h1), hb2⟩
  · have hb1 : (a != b) = true := by simp [hab]
    go_enter Try.func67, Try.ntmps67
    go_wp2
    go_ret
    exact ⟨ret_b (by simp [hab]), (by repeat (first | exact Below.refl _ _ | assumption | refine Below.drew ?_ | refine Below.alloc ?_ (by first | exact Nat.le_refl _ | omega | (simp; done) | (simp; omega)) _ | refine Below.setCell ?_ (by first | exact Nat.le_refl _ | omega | (simp; done) | (simp; omega)) _))⟩
set_option maxHeartbeats 1000000 in
theorem c_eqVerbS (A A' : Option Addr) (cap cap' : Nat) (ps qs : List Vb) (w : World) (h : Vbs w A ps) (h' : Vbs w A' qs) (hl : ps.length ≤ 1000000000000) (hl' : qs.length ≤ 1000000000000)
    (hs : ∀ v ∈ ps, v.2.length ≤ 1000000000000) (hs' : ∀ v ∈ qs, v.2.length ≤ 1000000000000) :
    Calls Try.prog 35 #[.slice A ps.length cap, .slice A' qs.length cap'] w fun e w' => e = .returned (.bool (decide (ps = qs))) ∧ Below w.heap.size w w' := by
  by_cases hlen : ps.length = qs.length
  · go_enter Try.func35, Try.ntmps35
    have hne : (((ps.length : Nat) : Int) != ((qs.length : Nat) : Int)) = false := by simp [hlen]
    have Hlen := Lib.hid hlen
    have Hs := Lib.hid hs
    have Hs' := Lib.hid hs'
    clear hlen hs hs'
    go_wp2
    go_loopw [5] (fun i wr => ∃ k : Nat, k ≤ ps.length ∧ i = .int .i64 k ∧ ps.take k = qs.take k ∧ Below w.heap.size w wr) (fun i _ => ps.length - (intOf i).toNat)
    case atStart => exact ⟨0, Nat.zero_le _, rfl, by simp, Below.refl _ _⟩
    case round =>
      obtain ⟨k, hk, rfl, hal, hbw⟩ := hrel
      have hal' := Lib.hid hal
      clear hal
      by_cases hlt : k < ps.length
      · have hlt' : k < qs.length := by have := Hlen.out; omega
        obtain ⟨b, off, rfl, _hb, hc⟩ := (h.ext verbR_stab hbw).vbs (by omega)
        obtain ⟨b', off', rfl, _hb', hc'⟩ := (h'.ext verbR_stab hbw).vbs (by omega)
        obtain ⟨A1, cap1, cx, cy, hp⟩ := hc k hlt
        obtain ⟨A2, cap2, cx', cy', hp'⟩ := hc' k hlt'
        have z1 : ps[k].2.length ≤ 1000000000000 := Hs.out _ (List.getElem_mem hlt)
        have z2 : qs[k].2.length ≤ 1000000000000 := Hs'.out _ (List.getElem_mem hlt')
        have Hk1 := Lib.hid (take_eq_succ hal'.out hlt hlt' : ps[k] = qs[k] → ps.take (k + 1) = qs.take (k + 1))
        have Hk2 := Lib.hid (ne_of_at hlt hlt' : ps[k] ≠ qs[k] → ps ≠ qs)
        clear h hc h' hc'
        generalize ps[k] = p at *
        generalize qs[k] = q at *
        obtain ⟨a, p⟩ := p
        obtain ⟨a', q⟩ := q
        dsimp only at cx cy cx' cy' hp hp' z1 z2
        go_wp2_with fail
        refine wp_region_calm [0,1,2,3,4,5,6,7,8,9] [] (by kernel_rfl) (by kernel_rfl) ?_
        iterate 8 ((refine calm_yes rfl rfl (fun w' hC => (by have cx := hC.cell cx; have cy := hC.cell cy;  have cx' := hC.cell cx'; have cy' := hC.cell cy'; go_simp; rfl)) (fun K hK => ?_); go_simp; refine hK _ ?_; clear hK K))
        (apply calm_call rfl rfl rfl Try.func67 (by kernel_rfl) rfl (by go_simp; rfl); exact (fun w' hC => c_eqVerb a a' A1 A2 cap1 cap2 p q w' (hp.ext ptR_stab (Below.trans (Below.refl _ wr).drew hC)) (hp'.ext ptR_stab (Below.trans (Below.refl _ wr).drew hC)) z1 z2); intro K hK; go_simp; refine hK _ ?_; clear hK K)
        (refine calm_yes rfl rfl (fun w' hC => (by go_simp; rfl)) (fun K hK => ?_); go_simp; refine hK _ ?_; clear hK K)
        refine calm_done (fun w1 hb1 => ?_)
        obtain ⟨d, hd⟩ : ∃ d, d = vbEq (a, p) (a', q) := ⟨_, rfl⟩
        rw [← hd]
        have Hd := Lib.hid hd
        clear hd
        cases d
        · have hpq : ps ≠ qs := Hk2.out (by have := Hd.out; simpa [vbEq] using this.symm)
          go_wp2
          go_ret
          exact ⟨ret_b (by simp [hpq]), below_ext hbw hb1⟩
        · go_wp2
          go_roundw
          case rel => exact ⟨k + 1, by omega, by go_num, Hk1.out (vbEq_iff.1 Hd.out.symm), below_ext hbw hb1⟩
          case measure => simp [intOf]; omega
      · have hk' : ps = qs := eq_of_take hal'.out (by omega) (by have := Hlen.out; omega)
        have Hk' := Lib.hid hk'
        clear h h' hk'
        go_wp2
        go_ret
        exact ⟨ret_b (by simp [Hk'.out]), hbw⟩
  · have hne : (((ps.length : Nat) : Int) != ((qs.length : Nat) : Int)) = true := by simp; omega
    have hpq : ps ≠ qs := fun h => hlen (by rw [h])
    go_enter Try.func35, Try.ntmps35
    go_wp2
    go_ret
    exact ⟨ret_b (by simp [hpq]), Below.refl _ _⟩
theorem TP_ne_TV : (46 : TypeId) ≠ 96 := by decide
end Go.Proofs.Ytjjnfjnoagfajaa
