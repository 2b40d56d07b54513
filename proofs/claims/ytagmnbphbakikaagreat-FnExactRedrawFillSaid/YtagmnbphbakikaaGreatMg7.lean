/-
  Several texts in one: CurveS, BendS, SplitS, FlatS.
-/
import Derived.Test.YtagmnbphbakikaaGreatMg5
import Derived.Test.YtagmnbphbakikaaGreatMg3
import Derived.Test.YtagmnbphbakikaaGreatMg2
import Derived.Test.YtagmnbphbakikaaGreatMg8
namespace Go.Proofs.YtagmnbphbakikaaGreat
open Go Go.RowKit Reg
attribute [local go_sem] calmAt calmUpon
theorem midP_eq (a b : Pt) : midL a b = midP a b := rfl
theorem crdP_of {p : Pt} (h : vpB p = true) : CrdP p := by rw [vpB_iff] at h; unfold CrdP Crd; omega
section
variable {w w' : World} {A : Option Addr} {xs : List Pt}
/-- Points in a block that is left alone. -/
theorem In.grownO {row : Option Nat} (h : Pts w A xs) (hg : w.grownBy w' row) (hne : ∀ b off, A = some ⟨b, off, none⟩ → 0 < xs.length → row ≠ some b) : Pts w' A xs := by
  intro h0
  obtain ⟨b, off, hA, hc⟩ := h h0
  refine ⟨b, off, hA, fun k hk => ?_⟩
  obtain ⟨us, q1, q2, q3⟩ := hc k hk
  refine ⟨us, q1, q2, fun j v hu => ?_⟩
  have := q3 j v hu
  have hlt := cell_lt this
  unfold World.cell? at this ⊢
  rw [hg.block b hlt (fun hh => hne b off hA h0 hh.symm)]
  exact this
theorem ne_own {B n : Nat} {v : Value} {cs : List Value} {e sz : Nat} (h : Has w B e sz v n cs) {k : Nat} (hk : k < B) : v.ownBlock ≠ some k := fun hh => by have := (h.lt k hh).1; omega
end
end Go.Proofs.YtagmnbphbakikaaGreat
namespace Go.Proofs.YtagmnbphbakikaaGreat
open Go Go.RowKit Reg
attribute [local go_sem] calmAt calmUpon
set_option maxHeartbeats 1000000 in
theorem c_distance (n : Int) (w : World) (h : -1000000 ≤ n ∧ n ≤ 1000000) : Calls Tryz.prog 171 #[.int .i64 n] w fun e w' => e = .returned (.int .i64 (absI n)) ∧ w = w' := by
  obtain ⟨h1, h2⟩ := h
  by_cases hn : n < 0
  all_goals
    go_enter Tryz.func171, Tryz.ntmps171
    go_wp2
    go_ret
    exact ⟨ret_i (by unfold absI; omega), rfl⟩
set_option maxRecDepth 100000 in
set_option maxHeartbeats 4000000 in
theorem c_sbend (A : Option Addr) (cap : Nat) (c : List Pt) (w : World) (h : Pts w A c) (hv : VpAll c) (h1 : 1 ≤ c.length) (hl : c.length ≤ 1000000) :
    Calls Tryz.prog 138 #[.slice A c.length cap] w fun e w' => e = .returned (.int .i64 (bendL c)) ∧ Below w.heap.size w w' := by
  have H := Lib.hid h
  have Hv := Lib.hid hv
  clear h hv
  go_enter Tryz.func138, Tryz.ntmps138
  go_wp2_with fail
  go_loopw [3, 4] (fun n i wr => ∃ (k : Nat), 1 ≤ k ∧ (k + 1 ≤ c.length ∨ k = 1) ∧ i = .int .i64 k ∧ n = .int .i64 (bendK c k) ∧ Ext w wr) (fun _ i _ => c.length - (intOf i).toNat)
  case atStart => exact ⟨1, by omega, .inr rfl, rfl, rfl, Below.refl _ _⟩
  case round =>
    obtain ⟨k, hk1, hk, rfl, rfl, hbw⟩ := hrel
    have E := Lib.hid hbw
    have hb1 := bendK_nn c k
    have hb2 := bendK_le Hv.out k
    have hk' : k ≤ c.length := by omega
    clear hbw
    by_cases hlt : k + 1 < c.length
    · obtain ⟨b, off, hA, _, hc⟩ := (H.out.ext ptR_stab E.out).pts (by omega)
      subst hA
      obtain ⟨ax, ay⟩ := hc (k - 1) (by omega)
      obtain ⟨bx, by'⟩ := hc k (by omega)
      obtain ⟨dx, dy⟩ := hc (k + 1) hlt
      have Hs := Lib.hid (bendK_succ c hk1)
      have Ha := Lib.hid (bendAt_at hk1 hlt)
      have pa := vpB_iff.1 (Hv.out _ (List.getElem_mem (show k - 1 < c.length by omega)))
      have pb := vpB_iff.1 (Hv.out _ (List.getElem_mem (show k < c.length by omega)))
      have pd := vpB_iff.1 (Hv.out _ (List.getElem_mem hlt))
      have hneed : (0 : Int) ≤ (k : Int) - 1 ∧ (1 : Int) ≤ (k : Int) ∧ (k : Int) - 1 < (c.length : Int) ∧ (0 : Int) ≤ (k : Int) + 1 ∧ (k : Int) + 1 < (c.length : Int) ∧ (k : Int) < (c.length : Int) := by omega
      have hltI : (k : Int) + 1 < (c.length : Int) := by omega
      generalize bendK c k = n at *
      generalize c[k - 1] = a at *
      generalize c[k] = b1 at *
      generalize c[k + 1] = d at *
      clear hc
      obtain ⟨a1, a2⟩ := a
      obtain ⟨b1, b2⟩ := b1
      obtain ⟨d1, d2⟩ := d
      dsimp only at ax ay bx by' dx dy pa pb pd Ha
      obtain ⟨⟨pa1, pa2⟩, pa3, pa4⟩ := pa
      obtain ⟨⟨pb1, pb2⟩, pb3, pb4⟩ := pb
      obtain ⟨⟨pd1, pd2⟩, pd3, pd4⟩ := pd
      have w1 : IntKind.i64.wrap ((k : Int) - 1) = (k : Int) - 1 := IntWalk.i64_in _ (by omega)
      have w2 : IntKind.i64.wrap ((k : Int) + 1) = (k : Int) + 1 := IntWalk.i64_in _ (by omega)
      have w3 : IntKind.i64.wrap (2 * b1) = 2 * b1 := IntWalk.i64_in _ (by omega)
      have w4 : IntKind.i64.wrap (a1 - 2 * b1) = a1 - 2 * b1 := IntWalk.i64_in _ (by omega)
      have w5 : IntKind.i64.wrap (a1 - 2 * b1 + d1) = a1 - 2 * b1 + d1 := IntWalk.i64_in _ (by omega)
      have w6 : IntKind.i64.wrap (2 * b2) = 2 * b2 := IntWalk.i64_in _ (by omega)
      have w7 : IntKind.i64.wrap (a2 - 2 * b2) = a2 - 2 * b2 := IntWalk.i64_in _ (by omega)
      have w8 : IntKind.i64.wrap (a2 - 2 * b2 + d2) = a2 - 2 * b2 + d2 := IntWalk.i64_in _ (by omega)
      have n1 : ((k : Int) - 1).toNat = k - 1 := by omega
      have n2 : ((k : Int) + 1).toNat = k + 1 := by omega
      have K1 := Lib.hid (fun W => c_distance (a1 - 2 * b1 + d1) W (by omega))
      have K2 := Lib.hid (fun W => c_distance (a2 - 2 * b2 + d2) W (by omega))
      have WW := Lib.hid (And.intro w1 (And.intro w2 (And.intro w3 (And.intro w4 (And.intro w5 (And.intro w6 (And.intro w7 (And.intro w8 (And.intro n1 n2)))))))))
      generalize absI (a1 - 2 * b1 + d1) = m1 at *
      generalize absI (a2 - 2 * b2 + d2) = m2 at *
      have Cax := Lib.hid ax
      have Cay := Lib.hid ay
      have Cbx := Lib.hid bx
      have Cby := Lib.hid by'
      have Cdx := Lib.hid dx
      have Cdy := Lib.hid dy
      clear w1 w2 w3 w4 w5 w6 w7 w8 n1 n2 ax ay bx by' dx dy
      obtain ⟨hn1, hn2, hn3, hn4, hn5, hn6⟩ := hneed
      go_wp2_with fail
      obtain ⟨w1, w2, w3, w4, w5, w6, w7, w8, n1, n2⟩ := WW.out
      have cCax := Cax.out
      have cCay := Cay.out
      have cCbx := Cbx.out
      have cCby := Cby.out
      have cCdx := Cdx.out
      have cCdy := Cdy.out
      refine wp_region_calm [0,1,2,3,4,5,6,7,8,9,10,11,12,13,14,15,16,17,18,19,20,21,22,23] [] (by kernel_rfl) (by kernel_rfl) ?_
      (refine calm_yes rfl rfl (fun w' hC => (by have cCax := hC.cell cCax; have cCay := hC.cell cCay; have cCbx := hC.cell cCbx; have cCby := hC.cell cCby; have cCdx := hC.cell cCdx; have cCdy := hC.cell cCdy; go_simp; rfl)) (fun K hK => ?_); go_simp; refine hK _ ?_; clear hK K)
      (refine calm_yes rfl rfl (fun w' hC => (by have cCax := hC.cell cCax; have cCay := hC.cell cCay; have cCbx := hC.cell cCbx; have cCby := hC.cell cCby; have cCdx := hC.cell cCdx; have cCdy := hC.cell cCdy; go_simp; rfl)) (fun K hK => ?_); go_simp; refine hK _ ?_; clear hK K)
      (refine calm_yes rfl rfl (fun w' hC => (by have cCax := hC.cell cCax; have cCay := hC.cell cCay; have cCbx := hC.cell cCbx; have cCby := hC.cell cCby; have cCdx := hC.cell cCdx; have cCdy := hC.cell cCdy; go_simp; rfl)) (fun K hK => ?_); go_simp; refine hK _ ?_; clear hK K)
      (refine calm_yes rfl rfl (fun w' hC => (by have cCax := hC.cell cCax; have cCay := hC.cell cCay; have cCbx := hC.cell cCbx; have cCby := hC.cell cCby; have cCdx := hC.cell cCdx; have cCdy := hC.cell cCdy; go_simp; rfl)) (fun K hK => ?_); go_simp; refine hK _ ?_; clear hK K)
      (refine calm_yes rfl rfl (fun w' hC => (by have cCax := hC.cell cCax; have cCay := hC.cell cCay; have cCbx := hC.cell cCbx; have cCby := hC.cell cCby; have cCdx := hC.cell cCdx; have cCdy := hC.cell cCdy; go_simp; rfl)) (fun K hK => ?_); go_simp; refine hK _ ?_; clear hK K)
      (refine calm_yes rfl rfl (fun w' hC => (by have cCax := hC.cell cCax; have cCay := hC.cell cCay; have cCbx := hC.cell cCbx; have cCby := hC.cell cCby; have cCdx := hC.cell cCdx; have cCdy := hC.cell cCdy; go_simp; rfl)) (fun K hK => ?_); go_simp; refine hK _ ?_; clear hK K)
      (refine calm_yes rfl rfl (fun w' hC => (by have cCax := hC.cell cCax; have cCay := hC.cell cCay; have cCbx := hC.cell cCbx; have cCby := hC.cell cCby; have cCdx := hC.cell cCdx; have cCdy := hC.cell cCdy; go_simp; rfl)) (fun K hK => ?_); go_simp; refine hK _ ?_; clear hK K)
      (refine calm_yes rfl rfl (fun w' hC => (by have cCax := hC.cell cCax; have cCay := hC.cell cCay; have cCbx := hC.cell cCbx; have cCby := hC.cell cCby; have cCdx := hC.cell cCdx; have cCdy := hC.cell cCdy; go_simp; rfl)) (fun K hK => ?_); go_simp; refine hK _ ?_; clear hK K)
      (refine calm_yes rfl rfl (fun w' hC => (by have cCax := hC.cell cCax; have cCay := hC.cell cCay; have cCbx := hC.cell cCbx; have cCby := hC.cell cCby; have cCdx := hC.cell cCdx; have cCdy := hC.cell cCdy; go_simp; rfl)) (fun K hK => ?_); go_simp; refine hK _ ?_; clear hK K)
      (refine calm_yes rfl rfl (fun w' hC => (by have cCax := hC.cell cCax; have cCay := hC.cell cCay; have cCbx := hC.cell cCbx; have cCby := hC.cell cCby; have cCdx := hC.cell cCdx; have cCdy := hC.cell cCdy; go_simp; rfl)) (fun K hK => ?_); go_simp; refine hK _ ?_; clear hK K)
      (refine calm_yes rfl rfl (fun w' hC => (by have cCax := hC.cell cCax; have cCay := hC.cell cCay; have cCbx := hC.cell cCbx; have cCby := hC.cell cCby; have cCdx := hC.cell cCdx; have cCdy := hC.cell cCdy; go_simp; rfl)) (fun K hK => ?_); go_simp; refine hK _ ?_; clear hK K)
      (refine calm_yes rfl rfl (fun w' hC => (by have cCax := hC.cell cCax; have cCay := hC.cell cCay; have cCbx := hC.cell cCbx; have cCby := hC.cell cCby; have cCdx := hC.cell cCdx; have cCdy := hC.cell cCdy; go_simp; rfl)) (fun K hK => ?_); go_simp; refine hK _ ?_; clear hK K)
      (refine calm_yes rfl rfl (fun w' hC => (by have cCax := hC.cell cCax; have cCay := hC.cell cCay; have cCbx := hC.cell cCbx; have cCby := hC.cell cCby; have cCdx := hC.cell cCdx; have cCdy := hC.cell cCdy; go_simp; rfl)) (fun K hK => ?_); go_simp; refine hK _ ?_; clear hK K)
      (refine calm_yes rfl rfl (fun w' hC => (by have cCax := hC.cell cCax; have cCay := hC.cell cCay; have cCbx := hC.cell cCbx; have cCby := hC.cell cCby; have cCdx := hC.cell cCdx; have cCdy := hC.cell cCdy; go_simp; rfl)) (fun K hK => ?_); go_simp; refine hK _ ?_; clear hK K)
      (refine calm_yes rfl rfl (fun w' hC => (by have cCax := hC.cell cCax; have cCay := hC.cell cCay; have cCbx := hC.cell cCbx; have cCby := hC.cell cCby; have cCdx := hC.cell cCdx; have cCdy := hC.cell cCdy; go_simp; rfl)) (fun K hK => ?_); go_simp; refine hK _ ?_; clear hK K)
      (refine calm_yes rfl rfl (fun w' hC => (by have cCax := hC.cell cCax; have cCay := hC.cell cCay; have cCbx := hC.cell cCbx; have cCby := hC.cell cCby; have cCdx := hC.cell cCdx; have cCdy := hC.cell cCdy; go_simp; rfl)) (fun K hK => ?_); go_simp; refine hK _ ?_; clear hK K)
      (refine calm_yes rfl rfl (fun w' hC => (by have cCax := hC.cell cCax; have cCay := hC.cell cCay; have cCbx := hC.cell cCbx; have cCby := hC.cell cCby; have cCdx := hC.cell cCdx; have cCdy := hC.cell cCdy; go_simp; rfl)) (fun K hK => ?_); go_simp; refine hK _ ?_; clear hK K)
      (refine calm_yes rfl rfl (fun w' hC => (by have cCax := hC.cell cCax; have cCay := hC.cell cCay; have cCbx := hC.cell cCbx; have cCby := hC.cell cCby; have cCdx := hC.cell cCdx; have cCdy := hC.cell cCdy; go_simp; rfl)) (fun K hK => ?_); go_simp; refine hK _ ?_; clear hK K)
      (refine calm_yes rfl rfl (fun w' hC => (by have cCax := hC.cell cCax; have cCay := hC.cell cCay; have cCbx := hC.cell cCbx; have cCby := hC.cell cCby; have cCdx := hC.cell cCdx; have cCdy := hC.cell cCdy; go_simp; rfl)) (fun K hK => ?_); go_simp; refine hK _ ?_; clear hK K)
      (refine calm_yes rfl rfl (fun w' hC => (by have cCax := hC.cell cCax; have cCay := hC.cell cCay; have cCbx := hC.cell cCbx; have cCby := hC.cell cCby; have cCdx := hC.cell cCdx; have cCdy := hC.cell cCdy; go_simp; rfl)) (fun K hK => ?_); go_simp; refine hK _ ?_; clear hK K)
      (refine calm_yes rfl rfl (fun w' hC => (by have cCax := hC.cell cCax; have cCay := hC.cell cCay; have cCbx := hC.cell cCbx; have cCby := hC.cell cCby; have cCdx := hC.cell cCdx; have cCdy := hC.cell cCdy; go_simp; rfl)) (fun K hK => ?_); go_simp; refine hK _ ?_; clear hK K)
      (apply calm_call rfl rfl rfl Tryz.func171 (by kernel_rfl) rfl (by go_simp; rfl); exact (fun w' hC => ext_of_same (K1.out w')); intro K hK; go_simp; refine hK _ ?_; clear hK K)
      (refine calm_yes rfl rfl (fun w' hC => (by have cCax := hC.cell cCax; have cCay := hC.cell cCay; have cCbx := hC.cell cCbx; have cCby := hC.cell cCby; have cCdx := hC.cell cCdx; have cCdy := hC.cell cCdy; go_simp; rfl)) (fun K hK => ?_); go_simp; refine hK _ ?_; clear hK K)
      (refine calm_yes rfl rfl (fun w' hC => (by have cCax := hC.cell cCax; have cCay := hC.cell cCay; have cCbx := hC.cell cCbx; have cCby := hC.cell cCby; have cCdx := hC.cell cCdx; have cCdy := hC.cell cCdy; go_simp; rfl)) (fun K hK => ?_); go_simp; refine hK _ ?_; clear hK K)
      refine calm_done (fun w2' hb => ?_)
      clear cCax cCay cCbx cCby cCdx cCdy
      replace E := Lib.hid (Ext.trans E.out hb)
      replace Cax := Lib.hid (Cls.cell hb Cax.out)
      replace Cay := Lib.hid (Cls.cell hb Cay.out)
      replace Cbx := Lib.hid (Cls.cell hb Cbx.out)
      replace Cby := Lib.hid (Cls.cell hb Cby.out)
      replace Cdx := Lib.hid (Cls.cell hb Cdx.out)
      replace Cdy := Lib.hid (Cls.cell hb Cdy.out)
      clear hb
      have cCax := Cax.out
      have cCay := Cay.out
      have cCbx := Cbx.out
      have cCby := Cby.out
      have cCdx := Cdx.out
      have cCdy := Cdy.out
      clear w1 w2 w3 w4 w5 w6 w7 w8 n1 n2
      clear cCax cCay cCbx cCby cCdx cCdy
      go_wp2_with fail
      all_goals
        obtain ⟨w1, w2, w3, w4, w5, w6, w7, w8, n1, n2⟩ := WW.out
        have cCax := Cax.out
        have cCay := Cay.out
        have cCbx := Cbx.out
        have cCby := Cby.out
        have cCdx := Cdx.out
        have cCdy := Cdy.out
        refine wp_region_calm [0,1,2,3,4,5,6,7,8,9,10,11,12,13,14,15,16,17,18,19,20,21,22,23] [] (by kernel_rfl) (by kernel_rfl) ?_
        (refine calm_yes rfl rfl (fun w' hC => (by have cCax := hC.cell cCax; have cCay := hC.cell cCay; have cCbx := hC.cell cCbx; have cCby := hC.cell cCby; have cCdx := hC.cell cCdx; have cCdy := hC.cell cCdy; go_simp; rfl)) (fun K hK => ?_); go_simp; refine hK _ ?_; clear hK K)
        (refine calm_yes rfl rfl (fun w' hC => (by have cCax := hC.cell cCax; have cCay := hC.cell cCay; have cCbx := hC.cell cCbx; have cCby := hC.cell cCby; have cCdx := hC.cell cCdx; have cCdy := hC.cell cCdy; go_simp; rfl)) (fun K hK => ?_); go_simp; refine hK _ ?_; clear hK K)
        (refine calm_yes rfl rfl (fun w' hC => (by have cCax := hC.cell cCax; have cCay := hC.cell cCay; have cCbx := hC.cell cCbx; have cCby := hC.cell cCby; have cCdx := hC.cell cCdx; have cCdy := hC.cell cCdy; go_simp; rfl)) (fun K hK => ?_); go_simp; refine hK _ ?_; clear hK K)
        (refine calm_yes rfl rfl (fun w' hC => (by have cCax := hC.cell cCax; have cCay := hC.cell cCay; have cCbx := hC.cell cCbx; have cCby := hC.cell cCby; have cCdx := hC.cell cCdx; have cCdy := hC.cell cCdy; go_simp; rfl)) (fun K hK => ?_); go_simp; refine hK _ ?_; clear hK K)
        (refine calm_yes rfl rfl (fun w' hC => (by have cCax := hC.cell cCax; have cCay := hC.cell cCay; have cCbx := hC.cell cCbx; have cCby := hC.cell cCby; have cCdx := hC.cell cCdx; have cCdy := hC.cell cCdy; go_simp; rfl)) (fun K hK => ?_); go_simp; refine hK _ ?_; clear hK K)
        (refine calm_yes rfl rfl (fun w' hC => (by have cCax := hC.cell cCax; have cCay := hC.cell cCay; have cCbx := hC.cell cCbx; have cCby := hC.cell cCby; have cCdx := hC.cell cCdx; have cCdy := hC.cell cCdy; go_simp; rfl)) (fun K hK => ?_); go_simp; refine hK _ ?_; clear hK K)
        (refine calm_yes rfl rfl (fun w' hC => (by have cCax := hC.cell cCax; have cCay := hC.cell cCay; have cCbx := hC.cell cCbx; have cCby := hC.cell cCby; have cCdx := hC.cell cCdx; have cCdy := hC.cell cCdy; go_simp; rfl)) (fun K hK => ?_); go_simp; refine hK _ ?_; clear hK K)
        (refine calm_yes rfl rfl (fun w' hC => (by have cCax := hC.cell cCax; have cCay := hC.cell cCay; have cCbx := hC.cell cCbx; have cCby := hC.cell cCby; have cCdx := hC.cell cCdx; have cCdy := hC.cell cCdy; go_simp; rfl)) (fun K hK => ?_); go_simp; refine hK _ ?_; clear hK K)
        (refine calm_yes rfl rfl (fun w' hC => (by have cCax := hC.cell cCax; have cCay := hC.cell cCay; have cCbx := hC.cell cCbx; have cCby := hC.cell cCby; have cCdx := hC.cell cCdx; have cCdy := hC.cell cCdy; go_simp; rfl)) (fun K hK => ?_); go_simp; refine hK _ ?_; clear hK K)
        (refine calm_yes rfl rfl (fun w' hC => (by have cCax := hC.cell cCax; have cCay := hC.cell cCay; have cCbx := hC.cell cCbx; have cCby := hC.cell cCby; have cCdx := hC.cell cCdx; have cCdy := hC.cell cCdy; go_simp; rfl)) (fun K hK => ?_); go_simp; refine hK _ ?_; clear hK K)
        (refine calm_yes rfl rfl (fun w' hC => (by have cCax := hC.cell cCax; have cCay := hC.cell cCay; have cCbx := hC.cell cCbx; have cCby := hC.cell cCby; have cCdx := hC.cell cCdx; have cCdy := hC.cell cCdy; go_simp; rfl)) (fun K hK => ?_); go_simp; refine hK _ ?_; clear hK K)
        (refine calm_yes rfl rfl (fun w' hC => (by have cCax := hC.cell cCax; have cCay := hC.cell cCay; have cCbx := hC.cell cCbx; have cCby := hC.cell cCby; have cCdx := hC.cell cCdx; have cCdy := hC.cell cCdy; go_simp; rfl)) (fun K hK => ?_); go_simp; refine hK _ ?_; clear hK K)
        (refine calm_yes rfl rfl (fun w' hC => (by have cCax := hC.cell cCax; have cCay := hC.cell cCay; have cCbx := hC.cell cCbx; have cCby := hC.cell cCby; have cCdx := hC.cell cCdx; have cCdy := hC.cell cCdy; go_simp; rfl)) (fun K hK => ?_); go_simp; refine hK _ ?_; clear hK K)
        (refine calm_yes rfl rfl (fun w' hC => (by have cCax := hC.cell cCax; have cCay := hC.cell cCay; have cCbx := hC.cell cCbx; have cCby := hC.cell cCby; have cCdx := hC.cell cCdx; have cCdy := hC.cell cCdy; go_simp; rfl)) (fun K hK => ?_); go_simp; refine hK _ ?_; clear hK K)
        (refine calm_yes rfl rfl (fun w' hC => (by have cCax := hC.cell cCax; have cCay := hC.cell cCay; have cCbx := hC.cell cCbx; have cCby := hC.cell cCby; have cCdx := hC.cell cCdx; have cCdy := hC.cell cCdy; go_simp; rfl)) (fun K hK => ?_); go_simp; refine hK _ ?_; clear hK K)
        (refine calm_yes rfl rfl (fun w' hC => (by have cCax := hC.cell cCax; have cCay := hC.cell cCay; have cCbx := hC.cell cCbx; have cCby := hC.cell cCby; have cCdx := hC.cell cCdx; have cCdy := hC.cell cCdy; go_simp; rfl)) (fun K hK => ?_); go_simp; refine hK _ ?_; clear hK K)
        (refine calm_yes rfl rfl (fun w' hC => (by have cCax := hC.cell cCax; have cCay := hC.cell cCay; have cCbx := hC.cell cCbx; have cCby := hC.cell cCby; have cCdx := hC.cell cCdx; have cCdy := hC.cell cCdy; go_simp; rfl)) (fun K hK => ?_); go_simp; refine hK _ ?_; clear hK K)
        (refine calm_yes rfl rfl (fun w' hC => (by have cCax := hC.cell cCax; have cCay := hC.cell cCay; have cCbx := hC.cell cCbx; have cCby := hC.cell cCby; have cCdx := hC.cell cCdx; have cCdy := hC.cell cCdy; go_simp; rfl)) (fun K hK => ?_); go_simp; refine hK _ ?_; clear hK K)
        (refine calm_yes rfl rfl (fun w' hC => (by have cCax := hC.cell cCax; have cCay := hC.cell cCay; have cCbx := hC.cell cCbx; have cCby := hC.cell cCby; have cCdx := hC.cell cCdx; have cCdy := hC.cell cCdy; go_simp; rfl)) (fun K hK => ?_); go_simp; refine hK _ ?_; clear hK K)
        (refine calm_yes rfl rfl (fun w' hC => (by have cCax := hC.cell cCax; have cCay := hC.cell cCay; have cCbx := hC.cell cCbx; have cCby := hC.cell cCby; have cCdx := hC.cell cCdx; have cCdy := hC.cell cCdy; go_simp; rfl)) (fun K hK => ?_); go_simp; refine hK _ ?_; clear hK K)
        (refine calm_yes rfl rfl (fun w' hC => (by have cCax := hC.cell cCax; have cCay := hC.cell cCay; have cCbx := hC.cell cCbx; have cCby := hC.cell cCby; have cCdx := hC.cell cCdx; have cCdy := hC.cell cCdy; go_simp; rfl)) (fun K hK => ?_); go_simp; refine hK _ ?_; clear hK K)
        (apply calm_call rfl rfl rfl Tryz.func171 (by kernel_rfl) rfl (by go_simp; rfl); exact (fun w' hC => ext_of_same (K2.out w')); intro K hK; go_simp; refine hK _ ?_; clear hK K)
        (refine calm_yes rfl rfl (fun w' hC => (by have cCax := hC.cell cCax; have cCay := hC.cell cCay; have cCbx := hC.cell cCbx; have cCby := hC.cell cCby; have cCdx := hC.cell cCdx; have cCdy := hC.cell cCdy; go_simp; rfl)) (fun K hK => ?_); go_simp; refine hK _ ?_; clear hK K)
        (refine calm_yes rfl rfl (fun w' hC => (by have cCax := hC.cell cCax; have cCay := hC.cell cCay; have cCbx := hC.cell cCbx; have cCby := hC.cell cCby; have cCdx := hC.cell cCdx; have cCdy := hC.cell cCdy; go_simp; rfl)) (fun K hK => ?_); go_simp; refine hK _ ?_; clear hK K)
        refine calm_done (fun w3' hb => ?_)
        clear cCax cCay cCbx cCby cCdx cCdy
        replace E := Lib.hid (Ext.trans E.out hb)
        replace Cax := Lib.hid (Cls.cell hb Cax.out)
        replace Cay := Lib.hid (Cls.cell hb Cay.out)
        replace Cbx := Lib.hid (Cls.cell hb Cbx.out)
        replace Cby := Lib.hid (Cls.cell hb Cby.out)
        replace Cdx := Lib.hid (Cls.cell hb Cdx.out)
        replace Cdy := Lib.hid (Cls.cell hb Cdy.out)
        clear hb
        have cCax := Cax.out
        have cCay := Cay.out
        have cCbx := Cbx.out
        have cCby := Cby.out
        have cCdx := Cdx.out
        have cCdy := Cdy.out
        clear w1 w2 w3 w4 w5 w6 w7 w8 n1 n2
        clear cCax cCay cCbx cCby cCdx cCdy
        go_wp2
        all_goals
          go_roundw
          case rel => exact ⟨k + 1, by omega, .inl (by omega), by go_num, by rw [Hs.out, Ha.out]; congr 1; omega, E.out⟩
          case measure => simp [intOf]; omega
    · have hltI : ¬ (k : Int) + 1 < (c.length : Int) := by omega
      have Hf : Hid (bendK c k = bendL c) := Lib.hid (by
        unfold bendL
        rcases hk with hk | hk
        · congr 1; omega
        · subst hk
          have : c.length - 1 = 0 ∨ c.length - 1 = 1 := by omega
          rcases this with h | h <;> rw [h] <;> rfl)
      clear hk
      go_wp2
      go_ret
      exact ⟨ret_i (by rw [Hf.out]), E.out⟩
end Go.Proofs.YtagmnbphbakikaaGreat
namespace Go.Proofs.YtagmnbphbakikaaGreat
open Go Go.RowKit Reg
attribute [local go_sem] calmAt calmUpon
set_option maxRecDepth 100000 in
set_option maxHeartbeats 4000000 in
theorem c_ssplit (A : Option Addr) (cap : Nat) (c : List Pt) (w : World) (h : Pts w A c) (hv : VpAll c) (h1 : 1 ≤ c.length) (hl : c.length ≤ 1000) :
    Calls Tryz.prog 139 #[.slice A c.length cap] w fun e w' => ∃ A1 cap1 A2 cap2, e = .returned (.tuple #[.slice A1 (splitL c).1.length cap1, .slice A2 (splitL c).2.length cap2]) ∧ Pts w' A1 (splitL c).1 ∧ Pts w' A2 (splitL c).2 ∧ Below w.heap.size w w' := by
  have hAlt : ∀ b off, A = some ⟨b, off, none⟩ → 0 < c.length → b < w.heap.size := fun b off hA h0 => h.lt (by omega) h0 b off hA
  have HA := Lib.hid hAlt
  have H := Lib.hid h
  have Hv := Lib.hid hv
  obtain ⟨b, off, hA, hb, hc⟩ := h.pts (by omega)
  subst hA
  obtain ⟨cx, cy⟩ := hc 0 (by omega)
  obtain ⟨L, hL⟩ : ∃ L, L = c.length - 1 := ⟨_, rfl⟩
  have hLl : L < c.length := by omega
  obtain ⟨dx, dy⟩ := hc L hLl
  have hh0 : c.headD (0, 0) = c[0] := headD_at (by omega)
  have hh1 : c.getLastD (0, 0) = c[L] := lastD_at hL hLl
  have Hsp : Hid (splitL c = splitN c.length c [c[0]] [c[L]]) := Lib.hid (by unfold splitL; rw [hh0, hh1])
  simp only [Nat.zero_mul, Nat.add_zero] at cx cy
  have eL : ((c.length : Nat) : Int) - 1 = (L : Int) := by omega
  have Cx := Lib.hid cx
  have Cy := Lib.hid cy
  have Dx := Lib.hid dx
  have Dy := Lib.hid dy
  have E := Lib.hid (Below.refl w.heap.size w)
  have hpl : vpB c[0] = true ∧ vpB c[L] = true := ⟨hv _ (List.getElem_mem _), hv _ (List.getElem_mem _)⟩
  have Hpl := Lib.hid hpl
  clear h hv hc hAlt cx cy dx dy hh0 hh1 hL hpl
  generalize c[0] = p0 at *
  generalize c[L] = pL at *
  have i0 : (0 : Int) < (c.length : Int) := by omega
  have i1 : (1 : Int) ≤ (c.length : Int) := by omega
  have eLI : (L : Int) < (c.length : Int) := by omega
  go_enter Tryz.func139, Tryz.ntmps139
  have cCx := Cx.out
  have cCy := Cy.out
  have cDx := Dx.out
  have cDy := Dy.out
  go_wp2_with fail
  clear cCx cCy cDx cDy
  first | refine gen_calls ?_ | refine gen_code ?_ | refine gen_list ?_
  intro w1 hW
  obtain ⟨hb, hR1, hR2⟩ := new2 hW
  clear hW
  replace E := Lib.hid (Ext.trans E.out hb)
  replace Cx := Lib.hid (Cls.cell hb Cx.out)
  replace Cy := Lib.hid (Cls.cell hb Cy.out)
  replace Dx := Lib.hid (Cls.cell hb Dx.out)
  replace Dy := Lib.hid (Cls.cell hb Dy.out)
  clear hb
  have R1 := Lib.hid hR1
  have lR1 := R1.out.lt
  clear hR1
  have R2 := Lib.hid hR2
  have lR2 := R2.out.lt
  clear hR2
  have cCx := Cx.out
  have cCy := Cy.out
  have cDx := Dx.out
  have cDy := Dy.out
  clear cCx cCy cDx cDy
  clear eL eLI Cx Cy Dx Dy
  have O1 := Lib.hid (own_of_row (n := 1) (B := w.heap.size) (sz := 2) R1.out (Nat.le_refl _) rfl (by decide))
  have P2 : Hid (Pts w1 (some ⟨w.heap.size + 1, 0, none⟩) [pL]) := Lib.hid (Row.in_ (rest := []) (enc := ptC) ptC_len (by simpa [ptC] using R2.out) (fun _ _ => rfl))
  go_wp2_with fail
  go_loopw [4, 5, 6, 7, 8] (fun v4 v5 v6 _ _ wr => ∃ (A1 : Option Addr) (cap1 : Nat) (l : List Pt) (A2 : Option Addr) (cap2 : Nat) (r : List Pt) (A3 : Option Addr) (cap3 : Nat) (now : List Pt),
    v4 = .slice A1 l.length cap1 ∧ v5 = .slice A2 r.length cap2 ∧ v6 = .slice A3 now.length cap3 ∧ splitN c.length now l r = splitL c ∧ VpAll now ∧ 1 ≤ now.length ∧ now.length ≤ c.length ∧ l.length + now.length ≤ c.length + 1 ∧ r.length + now.length ≤ c.length + 1 ∧
    Has wr w.heap.size 45 2 (.slice A1 l.length cap1) l.length (l.flatMap ptC) ∧ Pts wr A2 r ∧ Pts wr A3 now ∧
    (∀ b off, A2 = some ⟨b, off, none⟩ → 0 < r.length → (Value.slice A1 l.length cap1).ownBlock ≠ some b) ∧ (∀ b off, A3 = some ⟨b, off, none⟩ → 0 < now.length → (Value.slice A1 l.length cap1).ownBlock ≠ some b) ∧ Below w.heap.size w wr) (fun _ _ v6 _ _ _ => slN v6)
  case atStart => exact ⟨_, 1, [p0], _, 1, [pL], _, cap, c, rfl, rfl, rfl, Hsp.out.symm, Hv.out, h1, Nat.le_refl _, by simp; omega, by simp; omega, O1.out, P2.out, H.out.ext ptR_stab E.out, fun b off hA _ => by
    cases hA; simp [Value.ownBlock], fun b off hA h0 => by
    have := HA.out b off hA h0
    simp [Value.ownBlock]; omega, E.out⟩
  case round =>
    obtain ⟨A1, cap1, l, A2, cap2, r, A3, cap3, now, rfl, rfl, rfl, hsp, hvn, hn1, hn2, hn3, hn4, ho1, hp2, hp3, hs2, hs3, hbw⟩ := hrel
    clear O1 P2 R1 R2 E Hsp
    have Hsp := Lib.hid hsp
    have Hvn := Lib.hid hvn
    have O1 := Lib.hid ho1
    have P2 := Lib.hid hp2
    have P3 := Lib.hid hp3
    have S2 := Lib.hid hs2
    have S3 := Lib.hid hs3
    have E := Lib.hid hbw
    have hz0 : w.heap.size ≤ wr.heap.size := hbw.size
    clear hsp hvn ho1 hp2 hp3 hs2 hs3 hbw
    by_cases hlt : 1 < now.length
    · have Hst := Lib.hid (splitN_step (n := c.length) (l := l) (r := r) hlt hn2)
      have Hml := midsL_len now
      have hltI : decide ((1 : Int) < (now.length : Int)) = true := by simp; omega
      have Hmv := Lib.hid (midsL_vp Hvn.out)
      have HMl := Lib.hid Hml
      clear Hml
      go_wp2_with fail
      obtain ⟨wo, hwo⟩ : ∃ wo : World, wo = wr := ⟨_, rfl⟩
      subst hwo
      go_loopw [7, 8] (fun v7 i wr => ∃ (j : Nat) (A4 : Option Addr) (cap4 : Nat) (nx : List Pt), 1 ≤ j ∧ j ≤ now.length ∧ i = .int .i64 j ∧ v7 = .slice A4 nx.length cap4 ∧ nx = (midsL now).take (j - 1) ∧ Has wr wo.heap.size 45 2 (.slice A4 nx.length cap4) nx.length (nx.flatMap ptC) ∧ Ext wo wr) (fun _ i _ => now.length - (intOf i).toNat)
      case atStart => exact ⟨1, _, 0, [], Nat.le_refl _, by omega, rfl, rfl, by simp, own_of_row (n := 0) (cs := []) (Row.new wo 45 []) (Nat.le_refl _) rfl (by decide), ext_alloc _ _⟩
      case round =>
        obtain ⟨j, A4, cap4, nx, hj1, hj, rfl, rfl, hnx, ho4, hx⟩ := hrel
        have Hnx := Lib.hid hnx
        have hnl : nx.length ≤ j := by rw [hnx, List.length_take]; omega
        have O4 := Lib.hid ho4
        have X := Lib.hid hx
        have hzx : wo.heap.size ≤ wr.heap.size := hx.size
        clear hnx ho4 hx
        by_cases hjl : j < now.length
        · obtain ⟨b3, off3, hA, _, hc⟩ := (P3.out.ext ptR_stab X.out).pts (by omega)
          subst hA
          obtain ⟨ax, ay⟩ := hc (j - 1) (by omega)
          obtain ⟨bx, by'⟩ := hc j hjl
          have Hq : Hid (nx ++ [midP now[j - 1] now[j]] = (midsL now).take (j + 1 - 1)) := Lib.hid (by
            have e : j + 1 - 1 = (j - 1) + 1 := by omega
            have g := midsL_get now (j - 1) (by omega)
            have e2 : j - 1 + 1 = j := by omega
            rw [e, List.take_succ_eq_append_getElem (by rw [HMl.out]; omega), ← Hnx.out, g]
            simp only [e2])
          have q1 := crdP_of (Hvn.out _ (List.getElem_mem (show j - 1 < now.length by omega)))
          have q2 := crdP_of (Hvn.out _ (List.getElem_mem hjl))
          have K := Lib.hid (fun W => c_middle now[j - 1] now[j] W q1 q2)
          clear hc q1 q2
          generalize now[j - 1] = pa at *
          generalize now[j] = pb at *
          have hneed : (0 : Int) ≤ (j : Int) - 1 ∧ (1 : Int) ≤ (j : Int) ∧ (j : Int) - 1 < (now.length : Int) ∧ (j : Int) < (now.length : Int) := by omega
          have g1 : IntKind.i64.wrap ((j : Int) - 1) = (j : Int) - 1 := IntWalk.i64_in _ (by omega)
          have g2 : ((j : Int) - 1).toNat = j - 1 := by omega
          have G := Lib.hid (And.intro g1 g2)
          clear g1 g2
          have Ax := Lib.hid ax
          have Ay := Lib.hid ay
          have Bx := Lib.hid bx
          have By := Lib.hid by'
          clear ax ay bx by'
          obtain ⟨hn5, hn6, hn7, hn8⟩ := hneed
          go_wp2_with fail
          obtain ⟨g1, g2⟩ := G.out
          have cAx := Ax.out
          have cAy := Ay.out
          have cBx := Bx.out
          have cBy := By.out
          refine wp_region_calm [0,1,2,3,4,5,6,7,8,9,10] [11,12,13] (by kernel_rfl) (by kernel_rfl) ?_
          (refine calm_yes rfl rfl (fun w' hC => (by have cAx := hC.cell cAx; have cAy := hC.cell cAy; have cBx := hC.cell cBx; have cBy := hC.cell cBy; go_simp; rfl)) (fun K hK => ?_); go_simp; refine hK _ ?_; clear hK K)
          (refine calm_yes rfl rfl (fun w' hC => (by have cAx := hC.cell cAx; have cAy := hC.cell cAy; have cBx := hC.cell cBx; have cBy := hC.cell cBy; go_simp; rfl)) (fun K hK => ?_); go_simp; refine hK _ ?_; clear hK K)
          (refine calm_yes rfl rfl (fun w' hC => (by have cAx := hC.cell cAx; have cAy := hC.cell cAy; have cBx := hC.cell cBx; have cBy := hC.cell cBy; go_simp; rfl)) (fun K hK => ?_); go_simp; refine hK _ ?_; clear hK K)
          (refine calm_yes rfl rfl (fun w' hC => (by have cAx := hC.cell cAx; have cAy := hC.cell cAy; have cBx := hC.cell cBx; have cBy := hC.cell cBy; go_simp; rfl)) (fun K hK => ?_); go_simp; refine hK _ ?_; clear hK K)
          (refine calm_yes rfl rfl (fun w' hC => (by have cAx := hC.cell cAx; have cAy := hC.cell cAy; have cBx := hC.cell cBx; have cBy := hC.cell cBy; go_simp; rfl)) (fun K hK => ?_); go_simp; refine hK _ ?_; clear hK K)
          (refine calm_yes rfl rfl (fun w' hC => (by have cAx := hC.cell cAx; have cAy := hC.cell cAy; have cBx := hC.cell cBx; have cBy := hC.cell cBy; go_simp; rfl)) (fun K hK => ?_); go_simp; refine hK _ ?_; clear hK K)
          (refine calm_yes rfl rfl (fun w' hC => (by have cAx := hC.cell cAx; have cAy := hC.cell cAy; have cBx := hC.cell cBx; have cBy := hC.cell cBy; go_simp; rfl)) (fun K hK => ?_); go_simp; refine hK _ ?_; clear hK K)
          (refine calm_yes rfl rfl (fun w' hC => (by have cAx := hC.cell cAx; have cAy := hC.cell cAy; have cBx := hC.cell cBx; have cBy := hC.cell cBy; go_simp; rfl)) (fun K hK => ?_); go_simp; refine hK _ ?_; clear hK K)
          (refine calm_yes rfl rfl (fun w' hC => (by have cAx := hC.cell cAx; have cAy := hC.cell cAy; have cBx := hC.cell cBx; have cBy := hC.cell cBy; go_simp; rfl)) (fun K hK => ?_); go_simp; refine hK _ ?_; clear hK K)
          (refine calm_yes rfl rfl (fun w' hC => (by have cAx := hC.cell cAx; have cAy := hC.cell cAy; have cBx := hC.cell cBx; have cBy := hC.cell cBy; go_simp; rfl)) (fun K hK => ?_); go_simp; refine hK _ ?_; clear hK K)
          (apply calm_call rfl rfl rfl Tryz.func172 (by kernel_rfl) rfl (by go_simp; rfl); exact (fun w' hC => K.out w'); intro K hK; go_simp; refine hK _ ?_; clear hK K)
          refine calm_nil (fun wa hCa => ?_)
          refine late_keep rfl rfl hCa (fun wb hxb hCb K hK => ?_)
          go_simp
          refine hK _ _ (Below.alloc hCb hCb.size _) (fun _ => ?_)
          clear hK K
          refine late_free (by kernel_rfl) rfl rfl (fun wd hxd K hK => ?_)
          have Eb := Ext.trans (ext_cls hCa) hxb
          have Ed := Ext.trans (Ext.trans Eb (ext_alloc _ _)) hxd
          have hsz : wo.heap.size ≤ wd.heap.size := by have h1 := Ed.size; omega
          refine wp_app (base := wo.heap.size) ei_pt (.tmp 31) (.tmp 42) rfl rfl (own_ext O4.out Ed) rfl ((src_new wb _ [_, _] (m := 1) rfl (by intro u hu; simp only [List.mem_cons, List.not_mem_nil, or_false] at hu; rcases hu with rfl | rfl <;> rfl)).ext hxd) (by omega) hsz ?_
          intro ve we hown hg hat
          refine hK _ _ ?_
          clear hK K
          refine late_free (by kernel_rfl) rfl rfl (fun wf13 hx13 K hK => ?_)
          go_simp
          refine hK _ _ ?_
          clear hK K
          refine late_nil (fun w3 hxz => ?_)
          have EN := Ext.trans hx13 hxz
          obtain ⟨A5, cap5, hve⟩ := own_form hown
          clear cAx cAy cBx cBy
          replace X := Lib.hid (Ext.trans (Below.grown (Ext.trans X.out Ed) hg (by have := hsz; omega) (fun k hk => by have := (O4.out.lt k hk).1; omega)) EN)
          have heq : nx ++ [midP pa pb] = (nx ++ [midP pa pb]) := rfl
          replace O4 : Hid (Has w3 wo.heap.size 45 2 (.slice A5 ((nx ++ [midP pa pb])).length cap5) ((nx ++ [midP pa pb])).length (((nx ++ [midP pa pb])).flatMap ptC)) := Lib.hid (by
            have q := own_ext hown EN
            rw [hve] at q
            rw [← heq, List.flatMap_append, List.length_append]
            exact q)
          have hvf : ve = .slice A5 ((nx ++ [midP pa pb])).length cap5 := by rw [hve, ← heq, List.length_append]; rfl
          clear hve
          clear hown hg hat heq EN Ed Eb hsz hCa hCb hxb hxd hxz hx13
          subst hvf
          clear g1 g2
          go_wp2
          go_roundw
          case rel => exact ⟨j + 1, A5, cap5, _, by omega, by omega, by go_num, rfl, Hq.out, O4.out, X.out⟩
          case measure => simp [intOf]; omega
        · have hj' : j = now.length := by omega
          have hnx : nx = midsL now := by rw [Hnx.out, hj', List.take_of_length_le (by rw [HMl.out]; exact Nat.le_refl _)]
          clear hj' Hnx
          subst hnx
          have hml := HMl.out
          have hml1 : 0 < (midsL now).length := by omega
          have hml2 : (midsL now).length + 1 ≤ now.length := by omega
          have hml3 : now.length ≤ (midsL now).length + 1 := by omega
          clear hml
          obtain ⟨M, hM⟩ : ∃ M, M = (midsL now).length - 1 := ⟨_, rfl⟩
          have hMl : M < (midsL now).length := by omega
          have hh := headD_at hml1
          have hl := lastD_at hM hMl
          have eM : (((midsL now).length : Nat) : Int) - 1 = (M : Int) := by omega
          rw [hh, hl] at Hst
          have Hst2 := Hst
          generalize midsL now = nx at *
          have P4 : Hid (Pts wr A4 nx) := Lib.hid (own_in (enc := ptC) (R := ptR) ptC_len (by decide) O4.out (fun _ => rfl))
          obtain ⟨b4, off4, hA, hb4, hc⟩ := P4.out.pts hml1
          subst hA
          have hb4' : wo.heap.size ≤ b4 := (O4.out.lt b4 rfl).1
          obtain ⟨ax, ay⟩ := hc 0 hml1
          obtain ⟨bx, by'⟩ := hc M hMl
          simp only [Nat.zero_mul, Nat.add_zero] at ax ay
          have e0 : off4 = 0 := by
            rcases O4.out.2 with ⟨h, _⟩ | ⟨g, cp, cur, h, _⟩
            · cases h
            · injection h with h; injection h with h; injection h
          subst e0
          simp only [Nat.zero_add] at ax ay bx by'
          have hold : ∀ k, (Value.slice A1 l.length cap1).ownBlock = some k → k < wo.heap.size := fun k hk => (O1.out.lt k hk).2
          have Hold := Lib.hid hold
          clear hc hh hl hM hold
          generalize nx[0] = p5 at *
          generalize nx[M] = p6 at *
          have O1' := Lib.hid (own_ext O1.out X.out)
          have E' := Lib.hid (Ext.trans E.out X.out)
          have P2' := Lib.hid (P2.out.ext ptR_stab X.out)
          have hzz : w.heap.size ≤ wr.heap.size := E'.out.size
          have hzo : wo.heap.size ≤ wr.heap.size := X.out.size
          have Bx := Lib.hid bx
          have By := Lib.hid by'
          have Mv := Lib.hid (Hmv.out)
          clear bx by'
          go_wp2_with (at_builtin; refine wpList_app (base := w.heap.size) ei_pt rfl (.tmp 44) (.tmp 48) rfl rfl (own_ext O1'.out (ext_alloc _ _)) rfl (src_new _ _ [_, _] (m := 1) rfl (by intro u hu; simp only [List.mem_cons, List.not_mem_nil, or_false] at hu; rcases hu with rfl | rfl <;> rfl)) (by omega) (by simp; omega) ?_; intro ve w3 hown hg hat; refine stop_in ?_)
          refine stop_out ?_
          obtain ⟨A6, cap6, hve⟩ := own_form hown
          have HAT := Lib.hid hat
          have P4a := Lib.hid ((P4.out.ext ptR_stab (ext_alloc _ _)).grownO hg (fun b off hA h0 hh => by cases hA; have := Hold.out _ hh; omega))
          have P2a := Lib.hid ((P2'.out.ext ptR_stab (ext_alloc _ _)).grownO hg (fun b off hA h0 => S2.out b off hA h0))
          have Bx' := Lib.hid (cell_grown (Cls.cell (ext_alloc _ _) Bx.out) hg (fun hh => by have := Hold.out _ hh; simp at this; omega))
          have By' := Lib.hid (cell_grown (Cls.cell (ext_alloc _ _) By.out) hg (fun hh => by have := Hold.out _ hh; simp at this; omega))
          have hz3 := hg.size
          simp only [World.size_alloc] at hz3
          replace E' := Lib.hid (Below.grown (Ext.trans E'.out (ext_alloc _ _)) hg (by simp; omega) (fun k hk => by have := (O1'.out.lt k hk).1; omega))
          have heq : l ++ [p5] = (l ++ [p5]) := rfl
          replace O1' : Hid (Has w3 w.heap.size 45 2 (.slice A6 ((l ++ [p5])).length cap6) ((l ++ [p5])).length (((l ++ [p5])).flatMap ptC)) := Lib.hid (by
            have q := hown
            rw [hve] at q
            rw [← heq, List.flatMap_append, List.length_append]
            exact q)
          have hvf : ve = .slice A6 ((l ++ [p5])).length cap6 := by rw [hve, ← heq, List.length_append]; rfl
          clear hve
          clear hown hg hat heq
          subst hvf
          have bx := Bx'.out
          have by' := By'.out
          have i1 : (1 : Int) ≤ (nx.length : Int) := by omega
          have eMI : (M : Int) < (nx.length : Int) := by omega
          have hr1 : r.length + 1 ≤ 1000000 := by omega
          have HO : Hid (∀ k, (Value.slice A6 (l ++ [p5]).length cap6).ownBlock = some k → k < w3.heap.size) := Lib.hid (fun k hk => (O1'.out.lt k hk).2)
          have hb43 : b4 < w3.heap.size := by omega
          have hzz3 : w.heap.size ≤ w3.heap.size := E'.out.size
          clear ax ay
          go_wp2_with (at_builtin; refine wpList_app (base := w3.heap.size) ei_pt rfl (.tmp 56) (.tmp 57) rfl rfl (own_of_row (n := 1) (Row.new w3 _ [_, _]) (Nat.le_refl _) rfl (by decide)) rfl ((P2a.out.src ptC_len (fun x us h => h) ptC_one (by decide)).ext (ext_alloc _ _)) (by omega) (by simp) ?_; intro v7 w5 hown7 hg7 hat7)
          obtain ⟨A7, cap7, hv7⟩ := own_form hown7
          have e7 : 1 + r.length = (p6 :: r).length := by simp; omega
          have O7 : Hid (Has w5 w3.heap.size 45 2 (.slice A7 (p6 :: r).length cap7) (p6 :: r).length ((p6 :: r).flatMap ptC)) := Lib.hid (by
            rw [hv7, e7] at hown7; exact hown7)
          have O8 := Lib.hid ((own_ext O1'.out (ext_alloc _ _)).kept hg7 (.inr (fun hh => by have := HO.out w3.heap.size hh; omega)))
          have P8 := Lib.hid ((P4a.out.ext ptR_stab (ext_alloc _ _)).grownO hg7 (fun b off hA h0 hh => by cases hA; have hh : some w3.heap.size = some b4 := hh; injection hh with hh; omega))
          have E8 := Lib.hid (Below.grown (Ext.trans E'.out (ext_alloc _ _)) hg7 (by simp; omega) (fun k hk => by have hk : some w3.heap.size = some k := hk; injection hk with hk; omega))
          have hv7' : v7 = .slice A7 (p6 :: r).length cap7 := by rw [hv7, e7]
          clear hown7 hg7 hat7 hv7 e7 bx by' eM eMI
          subst hv7'
          go_wp2
          go_roundw
          case rel => exact ⟨A6, cap6, l ++ [p5], A7, cap7, p6 :: r, _, cap4, nx, by simp, by simp, rfl, Hst.out.symm.trans Hsp.out, Mv.out, by omega, by omega, by simp; omega, by simp; omega, O8.out, own_in (enc := ptC) ptC_len (by decide) O7.out (fun _ => rfl), P8.out, fun b off hA h0 hh => by
            have h1 := (O7.out.lt b (by rw [hA]; rfl)).1
            have h2 := HO.out b hh
            omega, fun b off hA h0 hh => by
            cases hA
            rcases HAT.out with h | h
            · rw [h] at hh; have := Hold.out _ hh; omega
            · rw [h] at hh; simp at hh; omega, E8.out⟩
          case measure => simp [slN]; omega
    · have hf : Hid (splitL c = (l, r)) := Lib.hid (by rw [← Hsp.out, splitN_stop hlt])
      go_wp2
      go_ret2
      rw [hf.out]
      exact ⟨A1, cap1, A2, cap2, rfl, own_in (enc := ptC) ptC_len (by decide) O1.out (fun _ => rfl), P2.out, E.out⟩
end Go.Proofs.YtagmnbphbakikaaGreat
namespace Go.Proofs.YtagmnbphbakikaaGreat
open Go Go.RowKit Reg
attribute [local go_sem] calmAt calmUpon
set_option maxRecDepth 100000 in
set_option maxHeartbeats 1000000 in
theorem c_sflatten (limit : Int) (d : Nat) : ∀ (A : Option Addr) (cap : Nat) (c : List Pt) (w : World), Pts w A c → VpAll c → 1 ≤ c.length → c.length ≤ 1000 → d ≤ 10 →
    Calls Tryz.prog 101 #[.slice A c.length cap, .int .i64 limit, .int .i64 d] w fun e w' => ∃ A' cap', e = .returned (.slice A' (flatL limit d c).length cap') ∧ Has w' w.heap.size 45 2 (.slice A' (flatL limit d c).length cap') (flatL limit d c).length ((flatL limit d c).flatMap ptC) ∧ Below w.heap.size w w' := by
  induction d with
  | zero =>
    intro A cap c w h hv h1 hl hd
    obtain ⟨b, off, hA, hb, hc⟩ := h.pts (by omega)
    subst hA
    obtain ⟨M, hM⟩ : ∃ M, M = c.length - 1 := ⟨_, rfl⟩
    have hMl : M < c.length := by omega
    have Hf : Hid (flatL limit 0 c = [c[M]]) := Lib.hid (by rw [flatL, lastD_at hM hMl])
    obtain ⟨ax, ay⟩ := hc M hMl
    have eM : ((c.length : Nat) : Int) - 1 = (M : Int) := by omega
    have eMI : (M : Int) < (c.length : Int) := by omega
    rw [Hf.out]
    clear h hv hc hM Hf
    generalize c[M] = p at *
    have i1 : (1 : Int) ≤ (c.length : Int) := by omega
    go_enter Tryz.func101, Tryz.ntmps101
    go_wp2
    go_ret
    exact ⟨_, 1, rfl, own_of_row (n := 1) (Row.new w 45 [.int .i64 p.1, .int .i64 p.2]) (Nat.le_refl _) rfl (by decide), ext_alloc _ _⟩
  | succ d ih =>
    intro A cap c w h hv h1 hl hd
    have IH := Lib.hid ih
    have H := Lib.hid h
    have Hv := Lib.hid hv
    have KB := Lib.hid (c_sbend A cap c w h hv h1 (by omega))
    clear ih
    have hdI : ((((d + 1 : Nat) : Nat) : Int) == 0) = false := by simp; omega
    have E := Lib.hid (Below.refl w.heap.size w)
    by_cases hb : bendL c ≤ limit
    · obtain ⟨b, off, hA, hb0, hc⟩ := h.pts (by omega)
      subst hA
      obtain ⟨M, hM⟩ : ∃ M, M = c.length - 1 := ⟨_, rfl⟩
      have hMl : M < c.length := by omega
      have Hf : Hid (flatL limit (d + 1) c = [c[M]]) := Lib.hid (by rw [flatL, if_pos hb, lastD_at hM hMl])
      obtain ⟨ax, ay⟩ := hc M hMl
      have eM : ((c.length : Nat) : Int) - 1 = (M : Int) := by omega
      have eMI : (M : Int) < (c.length : Int) := by omega
      rw [Hf.out]
      clear h hv hc hM Hf
      generalize c[M] = p at *
      have Ax := Lib.hid ax
      have Ay := Lib.hid ay
      have EM := Lib.hid eM
      clear ax ay eM
      generalize bendL c = bn at *
      have i1 : (1 : Int) ≤ (c.length : Int) := by omega
      go_enter Tryz.func101, Tryz.ntmps101
      go_wp2_with fail
      refine (KB.out).mono ?_
      rintro e w1 ⟨rfl, hb⟩
      replace E := Lib.hid (Ext.trans E.out hb)
      replace Ax := Lib.hid (Cls.cell hb Ax.out)
      replace Ay := Lib.hid (Cls.cell hb Ay.out)
      clear hb
      have cAx := Ax.out
      have cAy := Ay.out
      have eM := EM.out
      go_wp2
      go_ret
      exact ⟨_, 1, rfl, own_of_row (n := 1) (Row.new w1 45 [.int .i64 p.1, .int .i64 p.2]) E.out.size rfl (by decide), Ext.trans E.out (ext_alloc _ _)⟩
    · obtain ⟨v1, v2⟩ := splitL_vp hv (by omega)
      obtain ⟨l1, l2⟩ := splitL_len (c := c) (by omega)
      have Hf : Hid (flatL limit (d + 1) c = flatL limit d (splitL c).1 ++ flatL limit d (splitL c).2) := Lib.hid (by rw [flatL, if_neg hb])
      obtain ⟨F, hF⟩ : ∃ F, flatL limit (d + 1) c = F := ⟨_, rfl⟩
      rw [hF]
      have HF : Hid (flatL limit d (splitL c).1 ++ flatL limit d (splitL c).2 = F) := Lib.hid (by rw [← Hf.out, hF])
      clear hF Hf
      have hle1 := flatL_len limit d (splitL c).1
      have hle2 := flatL_len limit d (splitL c).2
      have hp2 : 2 ^ d ≤ 2 ^ 10 := Nat.pow_le_pow_right (by omega) (by omega)
      have hb1 : (flatL limit d (splitL c).1).length ≤ 1024 := by omega
      have hb2 : (flatL limit d (splitL c).2).length ≤ 1024 := by omega
      have hz1 : 1 ≤ (splitL c).1.length := by omega
      have hz2 : 1 ≤ (splitL c).2.length := by omega
      have hz3 : (splitL c).1.length ≤ 1000 := by omega
      have hz4 : (splitL c).2.length ≤ 1000 := by omega
      have KS := Lib.hid (fun W (hW : Pts W A c) => c_ssplit A cap c W hW hv (by omega) hl)
      have V1 := Lib.hid v1
      have V2 := Lib.hid v2
      clear h hv v1 v2 l1 l2 hle1 hle2 hp2
      generalize bendL c = bn at *
      generalize hsp : splitL c = sp at *
      clear hsp
      obtain ⟨s1, s2⟩ := sp
      try dsimp only at hz1 hz2 hz3 hz4 hb1 hb2 V1 V2 KS HF
      have eD : (((d + 1 : Nat) : Nat) : Int) - 1 = (d : Int) := by omega
      have ED := Lib.hid eD
      clear eD
      go_enter Tryz.func101, Tryz.ntmps101
      go_wp2_with fail
      refine (KB.out).mono ?_
      rintro e w1 ⟨rfl, hb⟩
      replace E := Lib.hid (Ext.trans E.out hb)
      replace H := Lib.hid (H.out.ext ptR_stab hb)
      clear hb
      go_wp2_with fail
      refine (KS.out _ H.out).mono ?_
      rintro e w2 ⟨A1, cap1, A2, cap2, rfl, hs1, hs2, hb⟩
      replace E := Lib.hid (Ext.trans E.out hb)
      replace H := Lib.hid (H.out.ext ptR_stab hb)
      clear hb
      have S1 := Lib.hid (hs1)
      clear hs1
      have S2 := Lib.hid (hs2)
      clear hs2
      have eD := ED.out
      have hzB : w.heap.size ≤ w2.heap.size := E.out.size
      go_wp2_with fail
      refine (IH.out A1 cap1 s1 _ S1.out V1.out hz1 hz3 (by omega)).mono ?_
      rintro e w3 ⟨A3, cap3, rfl, ho3, hb⟩
      replace E := Lib.hid (Ext.trans E.out hb)
      replace H := Lib.hid (H.out.ext ptR_stab hb)
      replace S1 := Lib.hid (S1.out.ext ptR_stab hb)
      replace S2 := Lib.hid (S2.out.ext ptR_stab hb)
      clear hb
      have O3 := Lib.hid ((ho3.rebase hzB))
      clear ho3
      have eD := ED.out
      go_wp2_with fail
      refine (IH.out A2 cap2 s2 _ S2.out V2.out hz2 hz4 (by omega)).mono ?_
      rintro e w4 ⟨A4, cap4, rfl, ho4, hb⟩
      replace E := Lib.hid (Ext.trans E.out hb)
      replace H := Lib.hid (H.out.ext ptR_stab hb)
      replace S1 := Lib.hid (S1.out.ext ptR_stab hb)
      replace S2 := Lib.hid (S2.out.ext ptR_stab hb)
      replace O3 := Lib.hid (own_ext O3.out hb)
      clear hb
      have P4 := Lib.hid ((own_in (enc := ptC) (R := ptR) ptC_len (by decide) ho4 (fun _ => rfl)))
      clear ho4 eD
      have hzE : w.heap.size ≤ w4.heap.size := E.out.size
      generalize flatL limit d s1 = f1 at *
      generalize flatL limit d s2 = f2 at *
      go_wp2_with (at_builtin; refine wpList_app (base := w.heap.size) ei_pt rfl (.tmp 33) (.tmp 38) rfl rfl O3.out rfl (P4.out.src ptC_len (fun x us h => h) ptC_one (by decide)) (by omega) hzE ?_; intro v w5 hown hg hat)
      obtain ⟨A5, cap5, hv5⟩ := own_form hown
      have O5 : Hid (Has w5 w.heap.size 45 2 (.slice A5 (f1 ++ f2).length cap5) (f1 ++ f2).length ((f1 ++ f2).flatMap ptC)) := Lib.hid (by
        rw [hv5] at hown; rw [List.length_append, List.flatMap_append]; exact hown)
      have hv5' : v = .slice A5 (f1 ++ f2).length cap5 := by rw [hv5, List.length_append]
      have E5 := Lib.hid (own_below E.out O3.out hg hzE)
      clear hown hg hat hv5
      subst hv5'
      go_wp2
      go_ret
      rw [← HF.out]
      exact ⟨A5, cap5, rfl, O5.out, E5.out⟩
end Go.Proofs.YtagmnbphbakikaaGreat
