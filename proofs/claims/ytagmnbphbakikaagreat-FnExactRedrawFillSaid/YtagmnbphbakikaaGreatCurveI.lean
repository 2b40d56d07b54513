/-
  Curves: the program's walks.
-/
import Derived.Test.YtagmnbphbakikaaGreatMg5
import Derived.Test.YtagmnbphbakikaaGreatMg3
import Derived.Test.YtagmnbphbakikaaGreatMg2
import Derived.Test.YtagmnbphbakikaaGreatMg4
import Derived.Test.YtagmnbphbakikaaGreatMg1
namespace Go.Proofs.YtagmnbphbakikaaGreat
open Go Go.RowKit Reg
attribute [local go_sem] calmAt calmUpon RegG.calmAt RegG.calmUpon
set_option maxHeartbeats 1000000 in
theorem c_size (n : Int) (w : World) (h : -1000000 ≤ n ∧ n ≤ 1000000) : Calls Tryz.prog 191 #[.int .i64 n] w fun e w' => e = .returned (.int .i64 (absI n)) ∧ w = w' := by
  obtain ⟨h1, h2⟩ := h
  by_cases hn : n < 0
  all_goals
    go_enter Tryz.func191, Tryz.ntmps191
    go_wp2
    go_ret
    exact ⟨ret_i (by unfold absI; omega), rfl⟩
set_option maxRecDepth 100000 in
set_option maxHeartbeats 4000000 in
theorem c_ibend (A : Option Addr) (cap : Nat) (c : List Pt) (w : World) (h : Pts w A c) (hv : VpAll c) (h1 : 1 ≤ c.length) (hl : c.length ≤ 1000000) :
    Calls Tryz.prog 180 #[.slice A c.length cap] w fun e w' => e = .returned (.int .i64 (bendL c)) ∧ Below w.heap.size w w' := by
  have H := Lib.hid h
  have Hv := Lib.hid hv
  clear h hv
  go_enter Tryz.func180, Tryz.ntmps180
  go_wp2_with fail
  go_loopw [3, 4] (fun n i wr => ∃ (k : Nat), 1 ≤ k ∧ (k + 1 ≤ c.length ∨ k = 1) ∧ i = .int .i64 k ∧ n = .int .i64 (bendK c k) ∧ Ext w wr) (fun _ i _ => c.length - (intOf i).toNat)
  case atStart => exact ⟨1, by omega, .inr rfl, rfl, rfl, Below.refl _ _⟩
  case round =>
    obtain ⟨k, hk1, hk, rfl, rfl, hbw⟩ := hrel
    have E := Lib.hid hbw
    have hb1 := bendK_nn c k
    have hb2 := bendK_le Hv.out k
    have hk' : k ≤ c.length := by omega
    clear hbw
    by_cases hlt : k + 1 < c.length
    · obtain ⟨b, off, hA, _, hc⟩ := (H.out.ext ptR_stab E.out).pts (by omega)
      subst hA
      obtain ⟨ax, ay⟩ := hc (k - 1) (by omega)
      obtain ⟨bx, by'⟩ := hc k (by omega)
      obtain ⟨dx, dy⟩ := hc (k + 1) hlt
      have Hs := Lib.hid (bendK_succ c hk1)
      have Ha := Lib.hid (bendAt_at hk1 hlt)
      have pa := vpB_iff.1 (Hv.out _ (List.getElem_mem (show k - 1 < c.length by omega)))
      have pb := vpB_iff.1 (Hv.out _ (List.getElem_mem (show k < c.length by omega)))
      have pd := vpB_iff.1 (Hv.out _ (List.getElem_mem hlt))
      have hneed : (0 : Int) ≤ (k : Int) - 1 ∧ (1 : Int) ≤ (k : Int) ∧ (k : Int) - 1 < (c.length : Int) ∧ (0 : Int) ≤ (k : Int) + 1 ∧ (k : Int) + 1 < (c.length : Int) ∧ (k : Int) < (c.length : Int) := by omega
      have hltI : (k : Int) < (c.length : Int) - 1 := by omega
      generalize bendK c k = n at *
      generalize c[k - 1] = a at *
      generalize c[k] = b1 at *
      generalize c[k + 1] = d at *
      clear hc
      obtain ⟨a1, a2⟩ := a
      obtain ⟨b1, b2⟩ := b1
      obtain ⟨d1, d2⟩ := d
      dsimp only at ax ay bx by' dx dy pa pb pd Ha
      obtain ⟨⟨pa1, pa2⟩, pa3, pa4⟩ := pa
      obtain ⟨⟨pb1, pb2⟩, pb3, pb4⟩ := pb
      obtain ⟨⟨pd1, pd2⟩, pd3, pd4⟩ := pd
      have w1 : IntKind.i64.wrap ((k : Int) - 1) = (k : Int) - 1 := IntWalk.i64_in _ (by omega)
      have w2 : IntKind.i64.wrap ((k : Int) + 1) = (k : Int) + 1 := IntWalk.i64_in _ (by omega)
      have w3 : IntKind.i64.wrap (2 * b1) = 2 * b1 := IntWalk.i64_in _ (by omega)
      have w4 : IntKind.i64.wrap (a1 + d1) = a1 + d1 := IntWalk.i64_in _ (by omega)
      have w5 : IntKind.i64.wrap (a1 + d1 - 2 * b1) = a1 + d1 - 2 * b1 := IntWalk.i64_in _ (by omega)
      have w6 : IntKind.i64.wrap (2 * b2) = 2 * b2 := IntWalk.i64_in _ (by omega)
      have w7 : IntKind.i64.wrap (a2 + d2) = a2 + d2 := IntWalk.i64_in _ (by omega)
      have w8 : IntKind.i64.wrap (a2 + d2 - 2 * b2) = a2 + d2 - 2 * b2 := IntWalk.i64_in _ (by omega)
      have n1 : ((k : Int) - 1).toNat = k - 1 := by omega
      have n2 : ((k : Int) + 1).toNat = k + 1 := by omega
      have K1 := Lib.hid (fun W => c_size (a1 + d1 - 2 * b1) W (by omega))
      have K2 := Lib.hid (fun W => c_size (a2 + d2 - 2 * b2) W (by omega))
      have WW := Lib.hid (And.intro w1 (And.intro w2 (And.intro w3 (And.intro w4 (And.intro w5 (And.intro w6 (And.intro w7 (And.intro w8 (And.intro n1 n2)))))))))
      have e1 : a1 - 2 * b1 + d1 = a1 + d1 - 2 * b1 := by omega
      have e2 : a2 - 2 * b2 + d2 = a2 + d2 - 2 * b2 := by omega
      rw [e1, e2] at Ha
      clear e1 e2
      generalize absI (a1 + d1 - 2 * b1) = m1 at *
      generalize absI (a2 + d2 - 2 * b2) = m2 at *
      have Cax := Lib.hid ax
      have Cay := Lib.hid ay
      have Cbx := Lib.hid bx
      have Cby := Lib.hid by'
      have Cdx := Lib.hid dx
      have Cdy := Lib.hid dy
      clear w1 w2 w3 w4 w5 w6 w7 w8 n1 n2 ax ay bx by' dx dy
      obtain ⟨hn1, hn2, hn3, hn4, hn5, hn6⟩ := hneed
      go_wp2_with fail
      obtain ⟨w1, w2, w3, w4, w5, w6, w7, w8, n1, n2⟩ := WW.out
      have cCax := Cax.out
      have cCay := Cay.out
      have cCbx := Cbx.out
      have cCby := Cby.out
      have cCdx := Cdx.out
      have cCdy := Cdy.out
      refine wp_region_calm [0,1,2,3,4,5,6,7,8,9,10,11,12,13,14,15,16,17,18,19,20,21,22,23,24,25,26,27,28,29,30,31,32,33,34,35,36,37,38,39,40,41,42,43,44] [] (by kernel_rfl) (by kernel_rfl) ?_
      (refine calm_yes rfl rfl (fun w' hC => (by have cCax := hC.cell cCax; have cCay := hC.cell cCay; have cCbx := hC.cell cCbx; have cCby := hC.cell cCby; have cCdx := hC.cell cCdx; have cCdy := hC.cell cCdy; go_simp; rfl)) (fun K hK => ?_); go_simp; refine hK _ ?_; clear hK K)
      (refine calm_yes rfl rfl (fun w' hC => (by have cCax := hC.cell cCax; have cCay := hC.cell cCay; have cCbx := hC.cell cCbx; have cCby := hC.cell cCby; have cCdx := hC.cell cCdx; have cCdy := hC.cell cCdy; go_simp; rfl)) (fun K hK => ?_); go_simp; refine hK _ ?_; clear hK K)
      (refine calm_yes rfl rfl (fun w' hC => (by have cCax := hC.cell cCax; have cCay := hC.cell cCay; have cCbx := hC.cell cCbx; have cCby := hC.cell cCby; have cCdx := hC.cell cCdx; have cCdy := hC.cell cCdy; go_simp; rfl)) (fun K hK => ?_); go_simp; refine hK _ ?_; clear hK K)
      (refine calm_yes rfl rfl (fun w' hC => (by have cCax := hC.cell cCax; have cCay := hC.cell cCay; have cCbx := hC.cell cCbx; have cCby := hC.cell cCby; have cCdx := hC.cell cCdx; have cCdy := hC.cell cCdy; go_simp; rfl)) (fun K hK => ?_); go_simp; refine hK _ ?_; clear hK K)
      (refine calm_yes rfl rfl (fun w' hC => (by have cCax := hC.cell cCax; have cCay := hC.cell cCay; have cCbx := hC.cell cCbx; have cCby := hC.cell cCby; have cCdx := hC.cell cCdx; have cCdy := hC.cell cCdy; go_simp; rfl)) (fun K hK => ?_); go_simp; refine hK _ ?_; clear hK K)
      (refine calm_yes rfl rfl (fun w' hC => (by have cCax := hC.cell cCax; have cCay := hC.cell cCay; have cCbx := hC.cell cCbx; have cCby := hC.cell cCby; have cCdx := hC.cell cCdx; have cCdy := hC.cell cCdy; go_simp; rfl)) (fun K hK => ?_); go_simp; refine hK _ ?_; clear hK K)
      (refine calm_yes rfl rfl (fun w' hC => (by have cCax := hC.cell cCax; have cCay := hC.cell cCay; have cCbx := hC.cell cCbx; have cCby := hC.cell cCby; have cCdx := hC.cell cCdx; have cCdy := hC.cell cCdy; go_simp; rfl)) (fun K hK => ?_); go_simp; refine hK _ ?_; clear hK K)
      (refine calm_yes rfl rfl (fun w' hC => (by have cCax := hC.cell cCax; have cCay := hC.cell cCay; have cCbx := hC.cell cCbx; have cCby := hC.cell cCby; have cCdx := hC.cell cCdx; have cCdy := hC.cell cCdy; go_simp; rfl)) (fun K hK => ?_); go_simp; refine hK _ ?_; clear hK K)
      (refine calm_yes rfl rfl (fun w' hC => (by have cCax := hC.cell cCax; have cCay := hC.cell cCay; have cCbx := hC.cell cCbx; have cCby := hC.cell cCby; have cCdx := hC.cell cCdx; have cCdy := hC.cell cCdy; go_simp; rfl)) (fun K hK => ?_); go_simp; refine hK _ ?_; clear hK K)
      (refine calm_yes rfl rfl (fun w' hC => (by have cCax := hC.cell cCax; have cCay := hC.cell cCay; have cCbx := hC.cell cCbx; have cCby := hC.cell cCby; have cCdx := hC.cell cCdx; have cCdy := hC.cell cCdy; go_simp; rfl)) (fun K hK => ?_); go_simp; refine hK _ ?_; clear hK K)
      (refine calm_yes rfl rfl (fun w' hC => (by have cCax := hC.cell cCax; have cCay := hC.cell cCay; have cCbx := hC.cell cCbx; have cCby := hC.cell cCby; have cCdx := hC.cell cCdx; have cCdy := hC.cell cCdy; go_simp; rfl)) (fun K hK => ?_); go_simp; refine hK _ ?_; clear hK K)
      (refine calm_yes rfl rfl (fun w' hC => (by have cCax := hC.cell cCax; have cCay := hC.cell cCay; have cCbx := hC.cell cCbx; have cCby := hC.cell cCby; have cCdx := hC.cell cCdx; have cCdy := hC.cell cCdy; go_simp; rfl)) (fun K hK => ?_); go_simp; refine hK _ ?_; clear hK K)
      (refine calm_yes rfl rfl (fun w' hC => (by have cCax := hC.cell cCax; have cCay := hC.cell cCay; have cCbx := hC.cell cCbx; have cCby := hC.cell cCby; have cCdx := hC.cell cCdx; have cCdy := hC.cell cCdy; go_simp; rfl)) (fun K hK => ?_); go_simp; refine hK _ ?_; clear hK K)
      (refine calm_yes rfl rfl (fun w' hC => (by have cCax := hC.cell cCax; have cCay := hC.cell cCay; have cCbx := hC.cell cCbx; have cCby := hC.cell cCby; have cCdx := hC.cell cCdx; have cCdy := hC.cell cCdy; go_simp; rfl)) (fun K hK => ?_); go_simp; refine hK _ ?_; clear hK K)
      (refine calm_yes rfl rfl (fun w' hC => (by have cCax := hC.cell cCax; have cCay := hC.cell cCay; have cCbx := hC.cell cCbx; have cCby := hC.cell cCby; have cCdx := hC.cell cCdx; have cCdy := hC.cell cCdy; go_simp; rfl)) (fun K hK => ?_); go_simp; refine hK _ ?_; clear hK K)
      (refine calm_yes rfl rfl (fun w' hC => (by have cCax := hC.cell cCax; have cCay := hC.cell cCay; have cCbx := hC.cell cCbx; have cCby := hC.cell cCby; have cCdx := hC.cell cCdx; have cCdy := hC.cell cCdy; go_simp; rfl)) (fun K hK => ?_); go_simp; refine hK _ ?_; clear hK K)
      (refine calm_yes rfl rfl (fun w' hC => (by have cCax := hC.cell cCax; have cCay := hC.cell cCay; have cCbx := hC.cell cCbx; have cCby := hC.cell cCby; have cCdx := hC.cell cCdx; have cCdy := hC.cell cCdy; go_simp; rfl)) (fun K hK => ?_); go_simp; refine hK _ ?_; clear hK K)
      (refine calm_yes rfl rfl (fun w' hC => (by have cCax := hC.cell cCax; have cCay := hC.cell cCay; have cCbx := hC.cell cCbx; have cCby := hC.cell cCby; have cCdx := hC.cell cCdx; have cCdy := hC.cell cCdy; go_simp; rfl)) (fun K hK => ?_); go_simp; refine hK _ ?_; clear hK K)
      (refine calm_yes rfl rfl (fun w' hC => (by have cCax := hC.cell cCax; have cCay := hC.cell cCay; have cCbx := hC.cell cCbx; have cCby := hC.cell cCby; have cCdx := hC.cell cCdx; have cCdy := hC.cell cCdy; go_simp; rfl)) (fun K hK => ?_); go_simp; refine hK _ ?_; clear hK K)
      (refine calm_yes rfl rfl (fun w' hC => (by have cCax := hC.cell cCax; have cCay := hC.cell cCay; have cCbx := hC.cell cCbx; have cCby := hC.cell cCby; have cCdx := hC.cell cCdx; have cCdy := hC.cell cCdy; go_simp; rfl)) (fun K hK => ?_); go_simp; refine hK _ ?_; clear hK K)
      (refine calm_yes rfl rfl (fun w' hC => (by have cCax := hC.cell cCax; have cCay := hC.cell cCay; have cCbx := hC.cell cCbx; have cCby := hC.cell cCby; have cCdx := hC.cell cCdx; have cCdy := hC.cell cCdy; go_simp; rfl)) (fun K hK => ?_); go_simp; refine hK _ ?_; clear hK K)
      (apply calm_call rfl rfl rfl Tryz.func191 (by kernel_rfl) rfl (by go_simp; rfl); exact (fun w' hC => ext_of_same (K1.out w')); intro K hK; go_simp; refine hK _ ?_; clear hK K)
      (refine calm_yes rfl rfl (fun w' hC => (by have cCax := hC.cell cCax; have cCay := hC.cell cCay; have cCbx := hC.cell cCbx; have cCby := hC.cell cCby; have cCdx := hC.cell cCdx; have cCdy := hC.cell cCdy; go_simp; rfl)) (fun K hK => ?_); go_simp; refine hK _ ?_; clear hK K)
      (refine calm_yes rfl rfl (fun w' hC => (by have cCax := hC.cell cCax; have cCay := hC.cell cCay; have cCbx := hC.cell cCbx; have cCby := hC.cell cCby; have cCdx := hC.cell cCdx; have cCdy := hC.cell cCdy; go_simp; rfl)) (fun K hK => ?_); go_simp; refine hK _ ?_; clear hK K)
      (refine calm_yes rfl rfl (fun w' hC => (by have cCax := hC.cell cCax; have cCay := hC.cell cCay; have cCbx := hC.cell cCbx; have cCby := hC.cell cCby; have cCdx := hC.cell cCdx; have cCdy := hC.cell cCdy; go_simp; rfl)) (fun K hK => ?_); go_simp; refine hK _ ?_; clear hK K)
      (refine calm_yes rfl rfl (fun w' hC => (by have cCax := hC.cell cCax; have cCay := hC.cell cCay; have cCbx := hC.cell cCbx; have cCby := hC.cell cCby; have cCdx := hC.cell cCdx; have cCdy := hC.cell cCdy; go_simp; rfl)) (fun K hK => ?_); go_simp; refine hK _ ?_; clear hK K)
      (refine calm_yes rfl rfl (fun w' hC => (by have cCax := hC.cell cCax; have cCay := hC.cell cCay; have cCbx := hC.cell cCbx; have cCby := hC.cell cCby; have cCdx := hC.cell cCdx; have cCdy := hC.cell cCdy; go_simp; rfl)) (fun K hK => ?_); go_simp; refine hK _ ?_; clear hK K)
      (refine calm_yes rfl rfl (fun w' hC => (by have cCax := hC.cell cCax; have cCay := hC.cell cCay; have cCbx := hC.cell cCbx; have cCby := hC.cell cCby; have cCdx := hC.cell cCdx; have cCdy := hC.cell cCdy; go_simp; rfl)) (fun K hK => ?_); go_simp; refine hK _ ?_; clear hK K)
      (refine calm_yes rfl rfl (fun w' hC => (by have cCax := hC.cell cCax; have cCay := hC.cell cCay; have cCbx := hC.cell cCbx; have cCby := hC.cell cCby; have cCdx := hC.cell cCdx; have cCdy := hC.cell cCdy; go_simp; rfl)) (fun K hK => ?_); go_simp; refine hK _ ?_; clear hK K)
      (refine calm_yes rfl rfl (fun w' hC => (by have cCax := hC.cell cCax; have cCay := hC.cell cCay; have cCbx := hC.cell cCbx; have cCby := hC.cell cCby; have cCdx := hC.cell cCdx; have cCdy := hC.cell cCdy; go_simp; rfl)) (fun K hK => ?_); go_simp; refine hK _ ?_; clear hK K)
      (refine calm_yes rfl rfl (fun w' hC => (by have cCax := hC.cell cCax; have cCay := hC.cell cCay; have cCbx := hC.cell cCbx; have cCby := hC.cell cCby; have cCdx := hC.cell cCdx; have cCdy := hC.cell cCdy; go_simp; rfl)) (fun K hK => ?_); go_simp; refine hK _ ?_; clear hK K)
      (refine calm_yes rfl rfl (fun w' hC => (by have cCax := hC.cell cCax; have cCay := hC.cell cCay; have cCbx := hC.cell cCbx; have cCby := hC.cell cCby; have cCdx := hC.cell cCdx; have cCdy := hC.cell cCdy; go_simp; rfl)) (fun K hK => ?_); go_simp; refine hK _ ?_; clear hK K)
      (refine calm_yes rfl rfl (fun w' hC => (by have cCax := hC.cell cCax; have cCay := hC.cell cCay; have cCbx := hC.cell cCbx; have cCby := hC.cell cCby; have cCdx := hC.cell cCdx; have cCdy := hC.cell cCdy; go_simp; rfl)) (fun K hK => ?_); go_simp; refine hK _ ?_; clear hK K)
      (refine calm_yes rfl rfl (fun w' hC => (by have cCax := hC.cell cCax; have cCay := hC.cell cCay; have cCbx := hC.cell cCbx; have cCby := hC.cell cCby; have cCdx := hC.cell cCdx; have cCdy := hC.cell cCdy; go_simp; rfl)) (fun K hK => ?_); go_simp; refine hK _ ?_; clear hK K)
      (refine calm_yes rfl rfl (fun w' hC => (by have cCax := hC.cell cCax; have cCay := hC.cell cCay; have cCbx := hC.cell cCbx; have cCby := hC.cell cCby; have cCdx := hC.cell cCdx; have cCdy := hC.cell cCdy; go_simp; rfl)) (fun K hK => ?_); go_simp; refine hK _ ?_; clear hK K)
      (refine calm_yes rfl rfl (fun w' hC => (by have cCax := hC.cell cCax; have cCay := hC.cell cCay; have cCbx := hC.cell cCbx; have cCby := hC.cell cCby; have cCdx := hC.cell cCdx; have cCdy := hC.cell cCdy; go_simp; rfl)) (fun K hK => ?_); go_simp; refine hK _ ?_; clear hK K)
      (refine calm_yes rfl rfl (fun w' hC => (by have cCax := hC.cell cCax; have cCay := hC.cell cCay; have cCbx := hC.cell cCbx; have cCby := hC.cell cCby; have cCdx := hC.cell cCdx; have cCdy := hC.cell cCdy; go_simp; rfl)) (fun K hK => ?_); go_simp; refine hK _ ?_; clear hK K)
      (refine calm_yes rfl rfl (fun w' hC => (by have cCax := hC.cell cCax; have cCay := hC.cell cCay; have cCbx := hC.cell cCbx; have cCby := hC.cell cCby; have cCdx := hC.cell cCdx; have cCdy := hC.cell cCdy; go_simp; rfl)) (fun K hK => ?_); go_simp; refine hK _ ?_; clear hK K)
      (refine calm_yes rfl rfl (fun w' hC => (by have cCax := hC.cell cCax; have cCay := hC.cell cCay; have cCbx := hC.cell cCbx; have cCby := hC.cell cCby; have cCdx := hC.cell cCdx; have cCdy := hC.cell cCdy; go_simp; rfl)) (fun K hK => ?_); go_simp; refine hK _ ?_; clear hK K)
      (refine calm_yes rfl rfl (fun w' hC => (by have cCax := hC.cell cCax; have cCay := hC.cell cCay; have cCbx := hC.cell cCbx; have cCby := hC.cell cCby; have cCdx := hC.cell cCdx; have cCdy := hC.cell cCdy; go_simp; rfl)) (fun K hK => ?_); go_simp; refine hK _ ?_; clear hK K)
      (refine calm_yes rfl rfl (fun w' hC => (by have cCax := hC.cell cCax; have cCay := hC.cell cCay; have cCbx := hC.cell cCbx; have cCby := hC.cell cCby; have cCdx := hC.cell cCdx; have cCdy := hC.cell cCdy; go_simp; rfl)) (fun K hK => ?_); go_simp; refine hK _ ?_; clear hK K)
      (refine calm_yes rfl rfl (fun w' hC => (by have cCax := hC.cell cCax; have cCay := hC.cell cCay; have cCbx := hC.cell cCbx; have cCby := hC.cell cCby; have cCdx := hC.cell cCdx; have cCdy := hC.cell cCdy; go_simp; rfl)) (fun K hK => ?_); go_simp; refine hK _ ?_; clear hK K)
      (apply calm_call rfl rfl rfl Tryz.func191 (by kernel_rfl) rfl (by go_simp; rfl); exact (fun w' hC => ext_of_same (K2.out w')); intro K hK; go_simp; refine hK _ ?_; clear hK K)
      (refine calm_yes rfl rfl (fun w' hC => (by have cCax := hC.cell cCax; have cCay := hC.cell cCay; have cCbx := hC.cell cCbx; have cCby := hC.cell cCby; have cCdx := hC.cell cCdx; have cCdy := hC.cell cCdy; go_simp; rfl)) (fun K hK => ?_); go_simp; refine hK _ ?_; clear hK K)
      (refine calm_yes rfl rfl (fun w' hC => (by have cCax := hC.cell cCax; have cCay := hC.cell cCay; have cCbx := hC.cell cCbx; have cCby := hC.cell cCby; have cCdx := hC.cell cCdx; have cCdy := hC.cell cCdy; go_simp; rfl)) (fun K hK => ?_); go_simp; refine hK _ ?_; clear hK K)
      refine calm_done (fun w2' hb => ?_)
      clear cCax cCay cCbx cCby cCdx cCdy
      replace E := Lib.hid (Ext.trans E.out hb)
      replace Cax := Lib.hid (Cls.cell hb Cax.out)
      replace Cay := Lib.hid (Cls.cell hb Cay.out)
      replace Cbx := Lib.hid (Cls.cell hb Cbx.out)
      replace Cby := Lib.hid (Cls.cell hb Cby.out)
      replace Cdx := Lib.hid (Cls.cell hb Cdx.out)
      replace Cdy := Lib.hid (Cls.cell hb Cdy.out)
      clear hb
      have cCax := Cax.out
      have cCay := Cay.out
      have cCbx := Cbx.out
      have cCby := Cby.out
      have cCdx := Cdx.out
      have cCdy := Cdy.out
      clear w1 w2 w3 w4 w5 w6 w7 w8 n1 n2
      clear cCax cCay cCbx cCby cCdx cCdy
      go_wp2
      go_roundw
      case rel => exact ⟨k + 1, by omega, .inl (by omega), by go_num, by rw [Hs.out, Ha.out]; congr 1; omega, E.out⟩
      case measure => simp [intOf]; omega
    · have hltI : ¬ (k : Int) < (c.length : Int) - 1 := by omega
      have Hf : Hid (bendK c k = bendL c) := Lib.hid (by
        unfold bendL
        rcases hk with hk | hk
        · congr 1; omega
        · subst hk
          have : c.length - 1 = 0 ∨ c.length - 1 = 1 := by omega
          rcases this with h | h <;> rw [h] <;> rfl)
      clear hk
      go_wp2
      go_ret
      exact ⟨ret_i (by rw [Hf.out]), E.out⟩
end Go.Proofs.YtagmnbphbakikaaGreat
