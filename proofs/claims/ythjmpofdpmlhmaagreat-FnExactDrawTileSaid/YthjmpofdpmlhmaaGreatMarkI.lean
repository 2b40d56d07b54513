/-
  Numbers compared, marked, and marks looked for; polygons marked.
-/
import Derived.Test.YthjmpofdpmlhmaaGreatPtSS
import Derived.Test.YthjmpofdpmlhmaaGreatMg3
import Derived.Test.YthjmpofdpmlhmaaGreatMg1
namespace Go.Proofs.YthjmpofdpmlhmaaGreat
open Go Go.RowKit Reg
attribute [local go_sem] calmAt calmUpon
theorem intC_len (n : Int) : (intC n).length = 1 := rfl
theorem Row.keptI {w w' : World} {b g : Nat} {e : TypeId} {cs : List Value} (h : Row w b e cs) (hg : w.grownBy w' (some g)) (hne : b ≠ g) : Row w' b e cs := (hg.block b h.lt (fun hh => hne (by cases hh; rfl))).trans h
set_option maxHeartbeats 1000000 in
theorem c_eqIntS (A1 A2 : Option Addr) (cap1 cap2 : Nat) (ns : List Int) (w : World) (h1 : Ints w A1 ns) (h2 : Ints w A2 ns) (hl : ns.length ≤ 1000000000) :
    Calls Tryz.prog 19 #[.slice A1 ns.length cap1, .slice A2 ns.length cap2] w fun e w' => e = .returned (.bool true) ∧ Below w.heap.size w w' := by
  have H := Lib.hid h1
  have H2 := Lib.hid h2
  clear h1 h2
  go_enter Tryz.func19, Tryz.ntmps19
  go_wp2_with fail
  go_loopw [5] (fun i wr => ∃ (k : Nat), k ≤ ns.length ∧ i = .int .i64 k ∧ Ext w wr) (fun i _ => ns.length - (intOf i).toNat)
  case atStart => exact ⟨0, Nat.zero_le _, rfl, Below.refl _ _⟩
  case round =>
    obtain ⟨k, hk, rfl, hbw⟩ := hrel
    have E := Lib.hid hbw
    clear hbw
    by_cases hlt : k < ns.length
    · obtain ⟨b, off, hA, _, hc⟩ := (H.out.ext intR_stab E.out).ints (by omega)
      obtain ⟨b2, off2, hA2, _, hc2⟩ := (H2.out.ext intR_stab E.out).ints (by omega)
      have Cr := Lib.hid (hc k hlt)
      have Cr2 := Lib.hid (hc2 k hlt)
      clear hc hc2
      generalize ns[k] = q at *
      subst hA hA2
      have cr := Cr.out
      have cr2 := Cr2.out
      go_wp2_with fail
      refine wp_region_calm [0,1,2,3,4,5,6,7,8] [] (by kernel_rfl) (by kernel_rfl) ?_
      (refine calm_yes rfl rfl (fun w' hC => (by have cr := hC.cell cr; have cr2 := hC.cell cr2; go_simp; rfl)) (fun K hK => ?_); go_simp; refine hK _ ?_; clear hK K)
      (refine calm_yes rfl rfl (fun w' hC => (by have cr := hC.cell cr; have cr2 := hC.cell cr2; go_simp; rfl)) (fun K hK => ?_); go_simp; refine hK _ ?_; clear hK K)
      (refine calm_yes rfl rfl (fun w' hC => (by have cr := hC.cell cr; have cr2 := hC.cell cr2; go_simp; rfl)) (fun K hK => ?_); go_simp; refine hK _ ?_; clear hK K)
      (refine calm_yes rfl rfl (fun w' hC => (by have cr := hC.cell cr; have cr2 := hC.cell cr2; go_simp; rfl)) (fun K hK => ?_); go_simp; refine hK _ ?_; clear hK K)
      (refine calm_yes rfl rfl (fun w' hC => (by have cr := hC.cell cr; have cr2 := hC.cell cr2; go_simp; rfl)) (fun K hK => ?_); go_simp; refine hK _ ?_; clear hK K)
      (refine calm_yes rfl rfl (fun w' hC => (by have cr := hC.cell cr; have cr2 := hC.cell cr2; go_simp; rfl)) (fun K hK => ?_); go_simp; refine hK _ ?_; clear hK K)
      (refine calm_yes rfl rfl (fun w' hC => (by have cr := hC.cell cr; have cr2 := hC.cell cr2; go_simp; rfl)) (fun K hK => ?_); go_simp; refine hK _ ?_; clear hK K)
      (refine calm_yes rfl rfl (fun w' hC => (by have cr := hC.cell cr; have cr2 := hC.cell cr2; go_simp; rfl)) (fun K hK => ?_); go_simp; refine hK _ ?_; clear hK K)
      (refine calm_yes rfl rfl (fun w' hC => (by have cr := hC.cell cr; have cr2 := hC.cell cr2; go_simp; rfl)) (fun K hK => ?_); go_simp; refine hK _ ?_; clear hK K)
      refine calm_done (fun w1 hb => ?_)
      clear cr cr2
      replace E := Lib.hid (Ext.trans E.out hb)
      replace Cr := Lib.hid (Cls.cell hb Cr.out)
      replace Cr2 := Lib.hid (Cls.cell hb Cr2.out)
      clear hb
      have cCr := Cr.out
      have cCr2 := Cr2.out
      go_wp2
      go_roundw
      case rel => exact ⟨k + 1, by omega, by go_num, E.out⟩
      case measure => simp [intOf]; omega
    · have hk' : ¬ ((k : Int) < (ns.length : Int)) := by omega
      go_wp2
      go_ret
      exact ⟨rfl, E.out⟩
set_option maxHeartbeats 1000000 in
theorem c_markIntS {w : World} {B : Nat} {A : Option Addr} {n cap : Nat} {xs : List Value} (hown : Has w B 3 1 (.slice A n cap) n xs) (k : Int) (h0 : 0 ≤ k) (h1 : k ≤ 1000000000000) (hn : n ≤ 1000000000000) :
    Calls Tryz.prog 20 #[.slice A n cap, .int .i64 k] w fun e w' => e = .returned (.int .i64 (k + n)) ∧ Has w' B 3 1 (.slice A n cap) n (mk k n) ∧ w.grownBy w' (Value.slice A n cap).ownBlock := by
  have hlen := hown.1
  go_enter Tryz.func20, Tryz.ntmps20
  go_wp2
  go_loopw [1, 5] (fun kk i wr => ∃ j : Nat, j ≤ n ∧ i = .int .i64 j ∧ kk = .int .i64 (k + j) ∧ Has wr B 3 1 (.slice A n cap) n (mkd k j xs) ∧ w.grownBy wr (Value.slice A n cap).ownBlock) (fun _ i _ => n - (intOf i).toNat)
  case atStart => exact ⟨0, Nat.zero_le _, rfl, by simp, by rw [mkd_zero]; exact hown, only_refl _ _⟩
  case round =>
    obtain ⟨j, hj, rfl, rfl, how, hgr⟩ := hrel
    by_cases hlt : j < n
    · obtain ⟨g, rfl, _, hg⟩ := own_at how (by omega)
      have c0 : wr.cell? ⟨g, j, none⟩ = some ((mkd k j xs)[j]'(by rw [how.1]; omega)) := by rw [how.cellAt _ (by omega)]; exact List.getElem?_eq_getElem _
      generalize (mkd k j xs)[j]'(by rw [how.1]; omega) = o0 at c0
      have f0 := how.frozenAt j
      have st := how.stored j (.int .i64 (k + j))
      rw [mkd_set (by omega)] at st
      have Hst := Lib.hid st.1
      have Hgr := Lib.hid (only_set hgr j (.int .i64 (k + j)))
      clear st how hgr hown
      go_wp2
      go_roundw
      case rel => exact ⟨j + 1, by omega, by go_num, by congr 1; push_cast; omega, Hst.out, Hgr.out⟩
      case measure => simp [intOf]; omega
    · obtain rfl : j = n := by omega
      rw [mkd_all (by omega)] at how
      go_wp2
      go_ret
      exact ⟨rfl, how, hgr⟩
end Go.Proofs.YthjmpofdpmlhmaaGreat
