/-
  Numbers compared, marked, and marks looked for; polygons marked.
-/
import Derived.Test.YtefbebikbdigfaaPtSS
import Derived.Test.YtefbebikbdigfaaMark
import Derived.Test.YtefbebikbdigfaaStep
namespace Go.Proofs.Ytefbebikbdigfaa
open Go Go.RowKit Reg
attribute [local go_sem] calmAt calmUpon
theorem intC_len (n : Int) : (intC n).length = 1 := rfl
theorem Row.keptG {w w' : World} {b g : Nat} {e : TypeId} {cs : List Value} (h : Row w b e cs) (hg : w.grownBy w' (some g)) (hne : b ≠ g) : Row w' b e cs := (hg.block b h.lt (fun hh => hne (by cases hh; rfl))).trans h
set_option maxHeartbeats 1000000 in
theorem c_eqIntS (A1 A2 : Option Addr) (cap1 cap2 : Nat) (ns : List Int) (w : World) (h1 : Ints w A1 ns) (h2 : Ints w A2 ns) (hl : ns.length ≤ 1000000000) :
    Calls Try.prog 18 #[.slice A1 ns.length cap1, .slice A2 ns.length cap2] w fun e w' => e = .returned (.bool true) ∧ Below w.heap.size w w' := by
  have H := Lib.hid h1
  have H2 := Lib.hid h2
  clear h1 h2
  go_enter Try.func18, Try.ntmps18
  go_wp2_with fail
  go_loopw [5] (fun i wr => ∃ (k : Nat), k ≤ ns.length ∧ i = .int .i64 k ∧ Ext w wr) (fun i _ => ns.length - (intOf i).toNat)
  case atStart => exact ⟨0, Nat.zero_le _, rfl, Below.refl _ _⟩
  case round =>
    obtain ⟨k, hk, rfl, hbw⟩ := hrel
    have E := Lib.hid hbw
    clear hbw
    by_cases hlt : k < ns.length
    · obtain ⟨b, off, hA, _, hc⟩ := (H.out.ext intR_stab E.out).ints (by omega)
      obtain ⟨b2, off2, hA2, _, hc2⟩ := (H2.out.ext intR_stab E.out).ints (by omega)
      have Cr := Lib.hid (hc k hlt)
      have Cr2 := Lib.hid (hc2 k hlt)
      clear hc hc2
      generalize ns[k] = q at *
      subst hA hA2
      have cr := Cr.out
      have cr2 := Cr2.out
      go_wp2_with fail
      refine wp_region_calm [0,1,2,3,4,5,6,7,8] [] (by kernel_rfl) (by kernel_rfl) ?_
      (refine calm_yes rfl rfl (fun w' hC => (by have cr := hC.cell cr; have cr2 := hC.cell cr2; go_simp; rfl)) (fun K hK => ?_); go_simp; refine hK _ ?_; clear hK K)
      (refine calm_yes rfl rfl (fun w' hC => (by have cr := hC.cell cr; have cr2 := hC.cell cr2; go_simp; rfl)) (fun K hK => ?_); go_simp; refine hK _ ?_; clear hK K)
      (refine calm_yes rfl rfl (fun w' hC => (by have cr := hC.cell cr; have cr2 := hC.cell cr2; go_simp; rfl)) (fun K hK => ?_); go_simp; refine hK _ ?_; clear hK K)
      (refine calm_yes rfl rfl (fun w' hC => (by have cr := hC.cell cr; have cr2 := hC.cell cr2; go_simp; rfl)) (fun K hK => ?_); go_simp; refine hK _ ?_; clear hK K)
      (refine calm_yes rfl rfl (fun w' hC => (by have cr := hC.cell cr; have cr2 := hC.cell cr2; go_simp; rfl)) (fun K hK => ?_); go_simp; refine hK _ ?_; clear hK K)
      (refine calm_yes rfl rfl (fun w' hC => (by have cr := hC.cell cr; have cr2 := hC.cell cr2; go_simp; rfl)) (fun K hK => ?_); go_simp; refine hK _ ?_; clear hK K)
      (refine calm_yes rfl rfl (fun w' hC => (by have cr := hC.cell cr; have cr2 := hC.cell cr2; go_simp; rfl)) (fun K hK => ?_); go_simp; refine hK _ ?_; clear hK K)
      (refine calm_yes rfl rfl (fun w' hC => (by have cr := hC.cell cr; have cr2 := hC.cell cr2; go_simp; rfl)) (fun K hK => ?_); go_simp; refine hK _ ?_; clear hK K)
      (refine calm_yes rfl rfl (fun w' hC => (by have cr := hC.cell cr; have cr2 := hC.cell cr2; go_simp; rfl)) (fun K hK => ?_); go_simp; refine hK _ ?_; clear hK K)
      refine calm_done (fun w1 hb => ?_)
      clear cr cr2
      replace E := Lib.hid (Ext.trans E.out hb)
      replace Cr := Lib.hid (Cls.cell hb Cr.out)
      replace Cr2 := Lib.hid (Cls.cell hb Cr2.out)
      clear hb
      have cCr := Cr.out
      have cCr2 := Cr2.out
      go_wp2
      go_roundw
      case rel => exact ⟨k + 1, by omega, by go_num, E.out⟩
      case measure => simp [intOf]; omega
    · have hk' : ¬ ((k : Int) < (ns.length : Int)) := by omega
      go_wp2
      go_ret
      exact ⟨rfl, E.out⟩
set_option maxHeartbeats 1000000 in
theorem c_markIntS {w : World} {B : Nat} {A : Option Addr} {n cap : Nat} {xs : List Value} (hown : Has w B 3 1 (.slice A n cap) n xs) (k : Int) (h0 : 0 ≤ k) (h1 : k ≤ 1000000000000) (hn : n ≤ 1000000000000) :
    Calls Try.prog 19 #[.slice A n cap, .int .i64 k] w fun e w' => e = .returned (.int .i64 (k + n)) ∧ Has w' B 3 1 (.slice A n cap) n (mk k n) ∧ w.grownBy w' (Value.slice A n cap).ownBlock := by
  have hlen := hown.1
  go_enter Try.func19, Try.ntmps19
  go_wp2
  go_loopw [1, 5] (fun kk i wr => ∃ j : Nat, j ≤ n ∧ i = .int .i64 j ∧ kk = .int .i64 (k + j) ∧ Has wr B 3 1 (.slice A n cap) n (mkd k j xs) ∧ w.grownBy wr (Value.slice A n cap).ownBlock) (fun _ i _ => n - (intOf i).toNat)
  case atStart => exact ⟨0, Nat.zero_le _, rfl, by simp, by rw [mkd_zero]; exact hown, only_refl _ _⟩
  case round =>
    obtain ⟨j, hj, rfl, rfl, how, hgr⟩ := hrel
    by_cases hlt : j < n
    · obtain ⟨g, rfl, _, hg⟩ := own_at how (by omega)
      have c0 : wr.cell? ⟨g, j, none⟩ = some ((mkd k j xs)[j]'(by rw [how.1]; omega)) := by rw [how.cellAt _ (by omega)]; exact List.getElem?_eq_getElem _
      generalize (mkd k j xs)[j]'(by rw [how.1]; omega) = o0 at c0
      have f0 := how.frozenAt j
      have st := how.stored j (.int .i64 (k + j))
      rw [mkd_set (by omega)] at st
      have Hst := Lib.hid st.1
      have Hgr := Lib.hid (only_set hgr j (.int .i64 (k + j)))
      clear st how hgr hown
      go_wp2
      go_roundw
      case rel => exact ⟨j + 1, by omega, by go_num, by congr 1; push_cast; omega, Hst.out, Hgr.out⟩
      case measure => simp [intOf]; omega
    · obtain rfl : j = n := by omega
      rw [mkd_all (by omega)] at how
      go_wp2
      go_ret
      exact ⟨rfl, how, hgr⟩
set_option maxHeartbeats 1000000 in
theorem c_heldIntS {B : Nat} (A : Option Addr) (cap n : Nat) (w : World) (k : Int) (h : Has w B 3 1 (.slice A n cap) n (mk k n)) (h0 : 0 ≤ k) (h1 : k ≤ 1000000000000) (hn : n ≤ 1000000000000) :
    Calls Try.prog 20 #[.slice A n cap, .int .i64 k] w fun e w' => e = .returned (.int .i64 (k + n)) ∧ Below w.heap.size w w' := by
  go_enter Try.func20, Try.ntmps20
  go_wp2
  go_loopw [1, 5] (fun kk i wr => ∃ j : Nat, j ≤ n ∧ i = .int .i64 j ∧ kk = .int .i64 (k + j) ∧ Below w.heap.size w wr) (fun _ i _ => n - (intOf i).toNat)
  case atStart => exact ⟨0, Nat.zero_le _, rfl, by simp, Below.refl _ _⟩
  case round =>
    obtain ⟨j, hj, rfl, rfl, hbw⟩ := hrel
    by_cases hlt : j < n
    · have how := own_ext h hbw
      obtain ⟨g, rfl, _, hg⟩ := own_at how (by omega)
      have c0 : wr.cell? ⟨g, j, none⟩ = some (.int .i64 (k + j)) := by rw [how.cellAt _ (by omega)]; simp [mk, hlt]
      clear h how
      go_wp2
      go_roundw
      case rel => exact ⟨j + 1, by omega, by go_num, by congr 1; push_cast; omega, hbw⟩
      case measure => simp [intOf]; omega
    · obtain rfl : j = n := by omega
      clear h
      go_wp2
      go_ret
      exact ⟨rfl, hbw⟩
/-- Rows of one's own of another type are kept. -/
def KeptI (w w' : World) : Prop := ∀ B e sz v n xs, e ≠ 64 → Has w B e sz v n xs → Has w' B e sz v n xs
set_option maxRecDepth 100000 in
set_option maxHeartbeats 2000000 in
theorem c_markPointSS (B b : Nat) (rs : List Rg) (us : List Value) (w : World) (hC : Copd w b 64 58 rs us) (hu : us.length = rs.length) (hl : rs.length ≤ 1048576) (hc : corners rs ≤ 1048576) (hB : B ≤ b) :
    Calls Try.prog 13 #[.slice (some ⟨b, 0, none⟩) rs.length rs.length, .int .i64 1] w fun e w' => ∃ m : Int, e = .returned (.int .i64 m) ∧ 0 ≤ m ∧ Below B w w' ∧ KeptI w w' := by
  have hbw0 := hC.row.lt
  have Hu := Lib.hid hu
  have ND := Lib.hid hC.nd
  have Hc : Hid (∀ k, corners (rs.take k) ≤ 1048576) := Lib.hid (fun k => by
    have := corners_append (rs.take k) (rs.drop k)
    rw [List.take_append_drop] at this; omega)
  have hrow : Row w b 58 us := by have := hC.row; rw [hu, Nat.sub_self] at this; simpa using this
  have R0 := Lib.hid hrow
  have I0 : Hid (∀ (i : Nat) (hi : i < rs.length), ∃ g, us[i]'(by rw [Hu.out]; exact hi) = .slice (some ⟨g, 0, none⟩) rs[i].length rs[i].length ∧ b < g ∧ Row w g 64 (rs[i].flatMap ptC)) := Lib.hid (fun i hi => hC.inn i (by omega))
  clear hC hu hrow
  go_enter Try.func13, Try.ntmps13
  go_wp2_with fail
  go_loopw [1, 5] (fun kk i wr => ∃ (k : Nat), k ≤ rs.length ∧ i = .int .i64 k ∧ kk = .int .i64 (1 + 2 * (corners (rs.take k) : Nat)) ∧ Row wr b 58 us ∧
    (∀ (i : Nat) (hi : i < rs.length), k ≤ i → ∃ g, us[i]'(by rw [Hu.out]; exact hi) = .slice (some ⟨g, 0, none⟩) rs[i].length rs[i].length ∧ b < g ∧ Row wr g 64 (rs[i].flatMap ptC)) ∧ Below B w wr ∧ KeptI w wr) (fun _ i _ => rs.length - (intOf i).toNat)
  case atStart => exact ⟨0, Nat.zero_le _, rfl, by simp [corners], R0.out, fun i hi _ => I0.out i hi, Below.refl _ _, fun _ _ _ _ _ _ _ h => h⟩
  case round =>
    obtain ⟨k, hk, rfl, rfl, hrow, hin, hbw, hki⟩ := hrel
    have Kp := Lib.hid hki
    have E := Lib.hid hbw
    have R := Lib.hid hrow
    have I := Lib.hid hin
    have hck := Hc.out k
    clear R0 I0 hrow hin hbw hki
    by_cases hlt : k < rs.length
    · obtain ⟨g, hug, hbg, hgr⟩ := I.out k hlt (Nat.le_refl _)
      have G := Lib.hid hgr
      have c0 : wr.cell? ⟨b, k, none⟩ = some (.slice (some ⟨g, 0, none⟩) rs[k].length rs[k].length) := by
        rw [R.out.cell k, List.getElem?_eq_getElem (by rw [Hu.out]; exact hlt), hug]
      have Ne : Hid (∀ (i : Nat) (hi : i < rs.length), k < i → ∀ g', us[i]'(by rw [Hu.out]; exact hi) = .slice (some ⟨g', 0, none⟩) rs[i].length rs[i].length → g' ≠ g) := Lib.hid (fun i hi hki g' hg' he => by
        refine ND.out k i (by rw [Hu.out]; exact hlt) (by rw [Hu.out]; exact hi) hki ?_
        rw [hug, hg', he]; rfl)
      have hct := corners_take hlt
      have hck1 := Hc.out (k + 1)
      have X : Hid (Has wr B 64 2 (.slice (some ⟨g, 0, none⟩) rs[k].length rs[k].length) rs[k].length (rs[k].flatMap ptC)) := Lib.hid (own_of_row G.out (by omega) (flat_len ptC_len _) (by omega))
      have hzB : B ≤ wr.heap.size := by have := G.out.lt; omega
      clear hgr hug
      generalize rs[k].flatMap ptC = cs at *
      generalize rs[k].length = n at *
      go_wp2_with fail
      refine (c_markPointS X.out _ (by omega) (by omega) (by omega)).mono ?_
      rintro e w1 ⟨rfl, hx1, hg1⟩
      have R1 := Lib.hid (R.out.keptG (g := g) hg1 (by omega))
      have E1 := Lib.hid (own_below E.out X.out hg1 hzB)
      have K1 : Hid (KeptI w w1) := Lib.hid (fun B' e' sz' v n' xs' hne h => (Kp.out _ _ _ _ _ _ hne h).grownNe X.out (fun hh => hne hh.symm) hg1)
      have I1 : Hid (∀ (i : Nat) (hi : i < rs.length), k + 1 ≤ i → ∃ g, us[i]'(by rw [Hu.out]; exact hi) = .slice (some ⟨g, 0, none⟩) rs[i].length rs[i].length ∧ b < g ∧ Row w1 g 64 (rs[i].flatMap ptC)) := Lib.hid (fun i hi hki => by
        obtain ⟨g', q1, q2, q3⟩ := I.out i hi (by omega)
        exact ⟨g', q1, q2, q3.keptG (g := g) hg1 (Ne.out i hi hki g' q1)⟩)
      clear hx1 hg1 X
      go_wp2
      go_roundw
      case rel => exact ⟨k + 1, by omega, by go_num, by congr 1; omega, R1.out, I1.out, E1.out, K1.out⟩
      case measure => simp [intOf]; omega
    · have hk' : ¬ ((k : Int) < (rs.length : Int)) := by omega
      go_wp2
      go_ret
      exact ⟨_, rfl, by omega, E.out, Kp.out⟩
end Go.Proofs.Ytefbebikbdigfaa
