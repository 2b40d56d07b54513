/- The paths of boxes are their polygons, have what boxes have and their areas, whatever the bytes that the boxes are drawn from. -/
import Derived.Test.YtnclnmciaehgeaaBoxIn
import Derived.Test.YtnclnmciaehgeaaPath
import Derived.Test.YtnclnmciaehgeaaEqualR
import Derived.Test.YtnclnmciaehgeaaJoin
import Derived.Test.YtnclnmciaehgeaaOpen
namespace Go.Proofs.Ytnclnmciaehgeaa.fnBoxPath
open Go Go.RowKit Go.ChangeShapes Go.WideShapes Go.ChangeAt Go.Deep Reg
attribute [local go_sem] calmAt calmUpon

theorem own : ownKnob Try.prog.godebug = none := by kernel_rfl
theorem laidOut : laidOutB Try.prog = true := by kernel_rfl

set_option maxRecDepth 100000 in
set_option maxHeartbeats 4000000 in
theorem walk (A : Option Addr) (cap : Nat) (bs : List Int) (w : World) (h : In byteR 1 w A bs) (hlc : bs.length ≤ cap) (hcm : cap ≤ maxLen) :
    Calls Try.prog 13 #[.slice A bs.length cap] w fun e w' => e = .returned (.bool true) ∧ Below w.heap.size w w' := by
  unfold maxLen at hcm
  by_cases hn : bs.length ≤ 1048576
  · have hnI : ¬ (1048576 : Int) < (bs.length : Int) := by omega
    have E := Lib.hid (Below.refl w.heap.size w)
    go_enter Try.func13, Try.ntmps13
    go_wp2_with fail
    refine (c_DrawBoxPath A cap bs w h hlc (by omega)).mono ?_
    rintro e w1 ⟨b, rfl, hp, hb⟩
    replace E := Lib.hid (Ext.trans E.out hb)
    clear hb
    clear h hn hp
    go_wp2_with fail
    first | refine gen_calls ?_ | refine gen_code ?_ | refine gen_list ?_
    intro w2 hW
    obtain ⟨hb, hR3⟩ := new1 hW
    clear hW
    replace E := Lib.hid (Ext.trans E.out hb)
    clear hb
    have R3 := Lib.hid hR3
    have lR3 := R3.out.lt
    clear hR3
    have c0 := R3.out.cell_of (i := 0) rfl
    have c1 := R3.out.cell_of (i := 1) rfl
    have c2 := R3.out.cell_of (i := 2) rfl
    have c3 := R3.out.cell_of (i := 3) rfl
    obtain ⟨d, hd⟩ : ∃ d, boxOk b = d := ⟨_, rfl⟩
    cases d
    · have Hm : Hid (pathL (boxOk b) (boxPts b) = ([], false)) := Lib.hid (by rw [hd]; rfl)
      clear hd
      go_wp2_with fail
      clear c0 c1 c2 c3
      refine (c_iBoxPath b.1 b.2.1 b.2.2.1 b.2.2.2 _).mono ?_
      rw [Hm.out]
      rintro e w3 ⟨A3, cap3, ss3, rfl, ho3, hb⟩
      replace E := Lib.hid (Ext.trans E.out hb)
      replace R3 := Lib.hid (R3.out.ext hb)
      have lR3 := R3.out.lt
      clear hb
      have Q := Lib.hid (ho3.in_)
      have c0 := R3.out.cell_of (i := 0) rfl
      have c1 := R3.out.cell_of (i := 1) rfl
      have c2 := R3.out.cell_of (i := 2) rfl
      have c3 := R3.out.cell_of (i := 3) rfl
      clear ho3
      go_wp2_with fail
      clear c0 c1 c2 c3
      refine (c_sBoxPath b.1 b.2.1 b.2.2.1 b.2.2.2 _).mono ?_
      rw [Hm.out]
      rintro e w4 ⟨A4, cap4, ss4, rfl, ho4, hb⟩
      replace E := Lib.hid (Ext.trans E.out hb)
      replace R3 := Lib.hid (R3.out.ext hb)
      have lR3 := R3.out.lt
      replace Q := Lib.hid (Q.out.ext verbR_stab hb)
      clear hb
      have W0 := Lib.hid (ho4.in_)
      have c0 := R3.out.cell_of (i := 0) rfl
      have c1 := R3.out.cell_of (i := 1) rfl
      have c2 := R3.out.cell_of (i := 2) rfl
      have c3 := R3.out.cell_of (i := 3) rfl
      clear ho4
      go_wp2_with fail
      clear c0 c1 c2 c3
      refine (c_equalPath _ _ _ _ [] _ Q.out W0.out (by simp) (fun v hv => by simp at hv)).mono ?_
      rintro e w5 ⟨rfl, hb⟩
      replace E := Lib.hid (Ext.trans E.out hb)
      replace R3 := Lib.hid (R3.out.ext hb)
      have lR3 := R3.out.lt
      replace Q := Lib.hid (Q.out.ext verbR_stab hb)
      replace W0 := Lib.hid (W0.out.ext verbR_stab hb)
      clear hb
      have c0 := R3.out.cell_of (i := 0) rfl
      have c1 := R3.out.cell_of (i := 1) rfl
      have c2 := R3.out.cell_of (i := 2) rfl
      have c3 := R3.out.cell_of (i := 3) rfl
      go_wp2_with fail
      clear c0 c1 c2 c3
      refine (c_equalPath _ _ _ _ [] _ Q.out W0.out (by simp) (fun v hv => by simp at hv)).mono ?_
      rintro e w6 ⟨rfl, hb⟩
      replace E := Lib.hid (Ext.trans E.out hb)
      replace R3 := Lib.hid (R3.out.ext hb)
      have lR3 := R3.out.lt
      replace Q := Lib.hid (Q.out.ext verbR_stab hb)
      replace W0 := Lib.hid (W0.out.ext verbR_stab hb)
      clear hb
      have c0 := R3.out.cell_of (i := 0) rfl
      have c1 := R3.out.cell_of (i := 1) rfl
      have c2 := R3.out.cell_of (i := 2) rfl
      have c3 := R3.out.cell_of (i := 3) rfl
      go_wp2
      go_ret
      exact ⟨rfl, E.out⟩
    · have Hm : Hid (pathL (boxOk b) (boxPts b) = (polyV (boxPts b) ++ [(4, [])], true)) := Lib.hid (by rw [hd]; rfl)
      have hps := box_ps hd
      have ha := box_area hd
      have hbk := box_ok hd
      have HIn := Lib.hid (fun (x y : Int) (hx : -1000 ≤ x ∧ x ≤ 1000) (hy : -1000 ≤ y ∧ y ≤ 1000) => box_wind hd hx hy)
      have hpo : pathOk (polyV (boxPts b) ++ [(4, [])]) = true := path4 hps
      have hV : ringsV (polyV (boxPts b) ++ [(4, [])]) = [boxPts b] := ringsV4 hps
      have hlen : (polyV (boxPts b) ++ [((4 : Int), ([] : List Pt))]).length = 5 := rfl
      have hsm : ∀ v ∈ (polyV (boxPts b) ++ [((4 : Int), ([] : List Pt))]), v.2.length ≤ 1 := by
        intro v hv
        have := pathL_small true (boxPts b) v (by simpa [pathL] using hv)
        exact this
      have Hpl : Hid ((boxPts b).length = 4) := Lib.hid rfl
      have Sm6 : Hid (∀ v ∈ (polyV (boxPts b) ++ [((4 : Int), ([] : List Pt))]), v.2.length ≤ 1048576) := Lib.hid (fun v hv => by have := hsm v hv; omega)
      have Sm9 : Hid (∀ v ∈ (polyV (boxPts b) ++ [((4 : Int), ([] : List Pt))]), v.2.length ≤ 1000000000) := Lib.hid (fun v hv => by have := hsm v hv; omega)
      have HV := Lib.hid hV
      have HA := Lib.hid ha
      have HPO := Lib.hid hpo
      have Hbk := Lib.hid hbk
      have hl5 : (polyV (boxPts b) ++ [((4 : Int), ([] : List Pt))]).length ≤ 5 := by omega
      have KI := Lib.hid (fun W => c_iBoxPath b.1 b.2.1 b.2.2.1 b.2.2.2 W)
      have KS := Lib.hid (fun W => c_sBoxPath b.1 b.2.1 b.2.2.1 b.2.2.2 W)
      rw [Hm.out] at KI KS
      clear hd hV hlen hsm ha hps hpo hbk Hm
      generalize hvs : polyV (boxPts b) ++ [((4 : Int), ([] : List Pt))] = vs at *
      generalize hpt : boxPts b = pts at *
      clear hvs hpt
      go_wp2_with fail
      clear c0 c1 c2 c3
      refine (KI.out _).mono ?_
      rintro e w3 ⟨A3, cap3, ss3, rfl, ho3, hb⟩
      replace E := Lib.hid (Ext.trans E.out hb)
      replace R3 := Lib.hid (R3.out.ext hb)
      have lR3 := R3.out.lt
      clear hb
      have Q := Lib.hid (ho3.inK)
      have c0 := R3.out.cell_of (i := 0) rfl
      have c1 := R3.out.cell_of (i := 1) rfl
      have c2 := R3.out.cell_of (i := 2) rfl
      have c3 := R3.out.cell_of (i := 3) rfl
      clear ho3
      go_wp2_with fail
      clear c0 c1 c2 c3
      refine (KS.out _).mono ?_
      rintro e w4 ⟨A4, cap4, ss4, rfl, ho4, hb⟩
      replace E := Lib.hid (Ext.trans E.out hb)
      replace R3 := Lib.hid (R3.out.ext hb)
      have lR3 := R3.out.lt
      replace Q := Lib.hid (Q.out.ext verbK_stab hb)
      clear hb
      have W0 := Lib.hid (ho4.in_)
      have c0 := R3.out.cell_of (i := 0) rfl
      have c1 := R3.out.cell_of (i := 1) rfl
      have c2 := R3.out.cell_of (i := 2) rfl
      have c3 := R3.out.cell_of (i := 3) rfl
      clear ho4
      go_wp2_with fail
      clear c0 c1 c2 c3
      refine (c_equalPath _ _ _ _ vs _ Q.out.toV W0.out (by omega) Sm6.out).mono ?_
      rintro e w5 ⟨rfl, hb⟩
      replace E := Lib.hid (Ext.trans E.out hb)
      replace R3 := Lib.hid (R3.out.ext hb)
      have lR3 := R3.out.lt
      replace Q := Lib.hid (Q.out.ext verbK_stab hb)
      replace W0 := Lib.hid (W0.out.ext verbR_stab hb)
      clear hb
      have c0 := R3.out.cell_of (i := 0) rfl
      have c1 := R3.out.cell_of (i := 1) rfl
      have c2 := R3.out.cell_of (i := 2) rfl
      have c3 := R3.out.cell_of (i := 3) rfl
      go_wp2_with fail
      clear c0 c1 c2 c3
      refine (c_iRingsOf A3 cap3 vs _ Q.out (by omega) Sm9.out).mono ?_
      rw [HV.out]
      rintro e w6 ⟨A6, cap6, ss6, rfl, ho6, hb⟩
      replace E := Lib.hid (Ext.trans E.out hb)
      replace R3 := Lib.hid (R3.out.ext hb)
      have lR3 := R3.out.lt
      replace Q := Lib.hid (Q.out.ext verbK_stab hb)
      replace W0 := Lib.hid (W0.out.ext verbR_stab hb)
      clear hb
      have G := Lib.hid (ho6.in_)
      have c0 := R3.out.cell_of (i := 0) rfl
      have c1 := R3.out.cell_of (i := 1) rfl
      have c2 := R3.out.cell_of (i := 2) rfl
      have c3 := R3.out.cell_of (i := 3) rfl
      clear ho6
      obtain ⟨b6, off6, hA6, _, _⟩ := G.out.rgs (by simp)
      subst hA6
      obtain ⟨wb, hwb⟩ : ∃ wb : World, wb = w6 := ⟨_, rfl⟩
      subst hwb
      have Hsm : Hid (∀ q ∈ [pts], q.length ≤ 1000000000) := Lib.hid (fun q hq => by simp at hq; subst hq; have := Hpl.out; omega)
      go_wp2_with fail
      go_loopw [9, 10, 11] (fun v9 _ _ wr => ∃ (k : Nat), k ≤ 64 ∧ v9 = .int .i64 k ∧ Ext wb wr) (fun v9 _ _ _ => 64 - (intOf v9).toNat)
      case atStart => exact ⟨0, by omega, rfl, Ext.refl _⟩
      case round =>
        obtain ⟨k, hk, rfl, hbw⟩ := hrel
        have X := Lib.hid hbw
        clear hbw
        by_cases hkl : k < 64
        · have hkI : decide ((k : Int) < 64) = true := by simp; omega
          obtain ⟨l, t, r, bt⟩ := b
          have hbk := Hbk.out
          dsimp only at hbk
          obtain ⟨⟨q1, q2, q3⟩, q4, q5, q6⟩ := hbk
          have R := Lib.hid (R3.out.ext X.out)
          have lR := R.out.lt
          have c0 := R.out.cell_of (i := 0) rfl
          have c1 := R.out.cell_of (i := 1) rfl
          have c2 := R.out.cell_of (i := 2) rfl
          have c3 := R.out.cell_of (i := 3) rfl
          have t1 : Int.tmod (k : Int) 8 = ((k % 8 : Nat) : Int) := tmod_nat k 8
          have t2 : Int.tdiv (k : Int) 8 = ((k / 8 : Nat) : Int) := by rw [Int.tdiv_eq_ediv_of_nonneg (by omega)]; simp
          have t3 : ((k % 8 : Nat) : Int) < 8 := by omega
          have t4 : ((k / 8 : Nat) : Int) < 8 := by omega
          have t5 : k % 8 < 8 := by omega
          have t6 : k / 8 < 8 := by omega
          obtain ⟨x, hx, hxb⟩ : ∃ x : Int, ([Value.int .i64 (l - 1), .int .i64 l, .int .i64 (l + 1), .int .i64 (r - 1), .int .i64 r, .int .i64 (r + 1), .int .i64 0, .int .i64 50] : List Value)[k % 8]'(by simp; omega) = .int .i64 x ∧ (-2000 ≤ x ∧ x ≤ 2000) := by
            have h8 : k % 8 = 0 ∨ k % 8 = 1 ∨ k % 8 = 2 ∨ k % 8 = 3 ∨ k % 8 = 4 ∨ k % 8 = 5 ∨ k % 8 = 6 ∨ k % 8 = 7 := by omega
            rcases h8 with h | h | h | h | h | h | h | h <;> simp only [h] <;> exact ⟨_, rfl, by omega⟩
          obtain ⟨y, hy, hyb⟩ : ∃ y : Int, ([Value.int .i64 (t - 1), .int .i64 t, .int .i64 (t + 1), .int .i64 (bt - 1), .int .i64 bt, .int .i64 (bt + 1), .int .i64 0, .int .i64 50] : List Value)[k / 8]'(by simp; omega) = .int .i64 y ∧ (-2000 ≤ y ∧ y ≤ 2000) := by
            have h8 : k / 8 = 0 ∨ k / 8 = 1 ∨ k / 8 = 2 ∨ k / 8 = 3 ∨ k / 8 = 4 ∨ k / 8 = 5 ∨ k / 8 = 6 ∨ k / 8 = 7 := by omega
            rcases h8 with h | h | h | h | h | h | h | h <;> simp only [h] <;> exact ⟨_, rfl, by omega⟩
          obtain ⟨⟨x1, x2⟩, y1, y2⟩ := And.intro hxb hyb
          have G1 := Lib.hid (G.out.ext rgR_stab X.out)
          have KX := Lib.hid (fun W => c_absolute x W (by omega))
          have KY := Lib.hid (fun W => c_absolute y W (by omega))
          have ha1 : absA x ≤ 1000 ↔ (-1000 ≤ x ∧ x ≤ 1000) := by unfold absA; split <;> omega
          have ha2 : absA y ≤ 1000 ↔ (-1000 ≤ y ∧ y ≤ 1000) := by unfold absA; split <;> omega
          obtain ⟨bx, hbx⟩ : ∃ d, decide (absA x ≤ 1000) = d := ⟨_, rfl⟩
          obtain ⟨by', hby⟩ : ∃ d, decide (absA y ≤ 1000) = d := ⟨_, rfl⟩
          have KB := Lib.hid (fun W => c_BoxHas l t r bt x y W (by omega) (by omega))
          have KI : Hid (bx = true → by' = true → ∀ W, Rgs W (some ⟨b6, off6, none⟩) [pts] → Calls Try.prog 46 #[.slice (some ⟨b6, off6, none⟩) [pts].length cap6, .int .i64 0, .int .i64 x, .int .i64 y] W fun e w' => e = .returned (.bool (hasB (l, t, r, bt) x y)) ∧ Below W.heap.size W w') := Lib.hid (fun h1 h2 W hW => by
            have := c_InsideAt _ cap6 [pts] 0 x y W hW (by simp) Hsm.out
            rw [HIn.out x y (ha1.1 (of_decide_eq_true (hbx.trans h1))) (ha2.1 (of_decide_eq_true (hby.trans h2)))] at this
            exact this)
          generalize hasB (l, t, r, bt) x y = hh at *
          have hhh : (hh != hh) = false := by simp
          generalize absA x = ax at *
          generalize absA y = ay at *
          clear ha1 ha2 hxb hyb
          cases bx
          all_goals
            cases by'
            all_goals
              first | have KJ := Lib.hid (KI.out rfl rfl) | have KJ := Lib.hid True.intro
              clear KI
              go_wp2_with fail
              clear c0 c1 c2 c3
              first | refine gen_calls ?_ | refine gen_code ?_ | refine gen_list ?_
              intro w7 hW
              obtain ⟨hb, hRa, hRb⟩ := new2 hW
              clear hW
              replace X := Lib.hid (Ext.trans X.out hb)
              replace R := Lib.hid (R.out.ext hb)
              have lR := R.out.lt
              replace G1 := Lib.hid (G1.out.ext rgR_stab hb)
              clear hb
              have Ra := Lib.hid hRa
              have lRa := Ra.out.lt
              clear hRa
              have Rb := Lib.hid hRb
              have lRb := Rb.out.lt
              clear hRb
              have c0 := R3.out.cell_of (i := 0) rfl
              have c1 := R3.out.cell_of (i := 1) rfl
              have c2 := R3.out.cell_of (i := 2) rfl
              have c3 := R3.out.cell_of (i := 3) rfl
              clear c0 c1 c2 c3
              have c0 := R.out.cell_of (i := 0) rfl
              have c1 := R.out.cell_of (i := 1) rfl
              have c2 := R.out.cell_of (i := 2) rfl
              have c3 := R.out.cell_of (i := 3) rfl
              refine wp_region_calm [0,1,2,3,4,5,6,7,8,9,10,11,12,13,14,15,16,17,18] [] (by kernel_rfl) (by kernel_rfl) ?_
              (first | (refine calm_yes rfl rfl (fun w' hC => (by have c0 := hC.cell c0; have c1 := hC.cell c1; have c2 := hC.cell c2; have c3 := hC.cell c3; go_simp; rfl)) (fun K hK => ?_); go_simp; refine hK _ ?_; clear hK K) | (refine calm_no rfl rfl (fun K hK => ?_); go_simp; refine hK _ ?_; clear hK K))
              (apply calm_call rfl rfl rfl Try.func50 (by kernel_rfl) rfl (by go_simp; rfl); exact (fun w' hC => ext_of_same (KX.out w')); intro K hK; go_simp; refine hK _ ?_; clear hK K)
              (first | (refine calm_yes rfl rfl (fun w' hC => (by have c0 := hC.cell c0; have c1 := hC.cell c1; have c2 := hC.cell c2; have c3 := hC.cell c3; go_simp; rfl)) (fun K hK => ?_); go_simp; refine hK _ ?_; clear hK K) | (refine calm_no rfl rfl (fun K hK => ?_); go_simp; refine hK _ ?_; clear hK K))
              (first | (refine calm_yes rfl rfl (fun w' hC => (by have c0 := hC.cell c0; have c1 := hC.cell c1; have c2 := hC.cell c2; have c3 := hC.cell c3; go_simp; rfl)) (fun K hK => ?_); go_simp; refine hK _ ?_; clear hK K) | (refine calm_no rfl rfl (fun K hK => ?_); go_simp; refine hK _ ?_; clear hK K))
              (first | (refine calm_yes rfl rfl (fun w' hC => (by have c0 := hC.cell c0; have c1 := hC.cell c1; have c2 := hC.cell c2; have c3 := hC.cell c3; go_simp; rfl)) (fun K hK => ?_); go_simp; refine hK _ ?_; clear hK K) | (refine calm_no rfl rfl (fun K hK => ?_); go_simp; refine hK _ ?_; clear hK K))
              (first | (apply calm_call rfl rfl rfl Try.func50 (by kernel_rfl) rfl (by go_simp; rfl); exact (fun w' hC => ext_of_same (KY.out w')); intro K hK; go_simp; refine hK _ ?_; clear hK K) | (refine calm_no rfl rfl (fun K hK => ?_); go_simp; refine hK _ ?_; clear hK K))
              (first | (refine calm_yes rfl rfl (fun w' hC => (by have c0 := hC.cell c0; have c1 := hC.cell c1; have c2 := hC.cell c2; have c3 := hC.cell c3; go_simp; rfl)) (fun K hK => ?_); go_simp; refine hK _ ?_; clear hK K) | (refine calm_no rfl rfl (fun K hK => ?_); go_simp; refine hK _ ?_; clear hK K))
              (first | (refine calm_yes rfl rfl (fun w' hC => (by have c0 := hC.cell c0; have c1 := hC.cell c1; have c2 := hC.cell c2; have c3 := hC.cell c3; go_simp; rfl)) (fun K hK => ?_); go_simp; refine hK _ ?_; clear hK K) | (refine calm_no rfl rfl (fun K hK => ?_); go_simp; refine hK _ ?_; clear hK K))
              (first | (refine calm_yes rfl rfl (fun w' hC => (by have c0 := hC.cell c0; have c1 := hC.cell c1; have c2 := hC.cell c2; have c3 := hC.cell c3; go_simp; rfl)) (fun K hK => ?_); go_simp; refine hK _ ?_; clear hK K) | (refine calm_no rfl rfl (fun K hK => ?_); go_simp; refine hK _ ?_; clear hK K))
              (first | (refine calm_yes rfl rfl (fun w' hC => (by have c0 := hC.cell c0; have c1 := hC.cell c1; have c2 := hC.cell c2; have c3 := hC.cell c3; go_simp; rfl)) (fun K hK => ?_); go_simp; refine hK _ ?_; clear hK K) | (refine calm_no rfl rfl (fun K hK => ?_); go_simp; refine hK _ ?_; clear hK K))
              (first | (refine calm_yes rfl rfl (fun w' hC => (by have c0 := hC.cell c0; have c1 := hC.cell c1; have c2 := hC.cell c2; have c3 := hC.cell c3; go_simp; rfl)) (fun K hK => ?_); go_simp; refine hK _ ?_; clear hK K) | (refine calm_no rfl rfl (fun K hK => ?_); go_simp; refine hK _ ?_; clear hK K))
              (first | (refine calm_yes rfl rfl (fun w' hC => (by have c0 := hC.cell c0; have c1 := hC.cell c1; have c2 := hC.cell c2; have c3 := hC.cell c3; go_simp; rfl)) (fun K hK => ?_); go_simp; refine hK _ ?_; clear hK K) | (refine calm_no rfl rfl (fun K hK => ?_); go_simp; refine hK _ ?_; clear hK K))
              (first | (apply calm_call rfl rfl rfl Try.func46 (by kernel_rfl) rfl (by go_simp; rfl); exact (fun w' hC => KJ.out w' (G1.out.ext rgR_stab (ext_cls hC))); intro K hK; go_simp; refine hK _ ?_; clear hK K) | (refine calm_no rfl rfl (fun K hK => ?_); go_simp; refine hK _ ?_; clear hK K))
              (first | (refine calm_yes rfl rfl (fun w' hC => (by have c0 := hC.cell c0; have c1 := hC.cell c1; have c2 := hC.cell c2; have c3 := hC.cell c3; go_simp; rfl)) (fun K hK => ?_); go_simp; refine hK _ ?_; clear hK K) | (refine calm_no rfl rfl (fun K hK => ?_); go_simp; refine hK _ ?_; clear hK K))
              (first | (refine calm_yes rfl rfl (fun w' hC => (by have c0 := hC.cell c0; have c1 := hC.cell c1; have c2 := hC.cell c2; have c3 := hC.cell c3; go_simp; rfl)) (fun K hK => ?_); go_simp; refine hK _ ?_; clear hK K) | (refine calm_no rfl rfl (fun K hK => ?_); go_simp; refine hK _ ?_; clear hK K))
              (first | (refine calm_yes rfl rfl (fun w' hC => (by have c0 := hC.cell c0; have c1 := hC.cell c1; have c2 := hC.cell c2; have c3 := hC.cell c3; go_simp; rfl)) (fun K hK => ?_); go_simp; refine hK _ ?_; clear hK K) | (refine calm_no rfl rfl (fun K hK => ?_); go_simp; refine hK _ ?_; clear hK K))
              (first | (apply calm_call rfl rfl rfl Try.func51 (by kernel_rfl) rfl (by go_simp; rfl); exact (fun w' hC => KB.out w'); intro K hK; go_simp; refine hK _ ?_; clear hK K) | (refine calm_no rfl rfl (fun K hK => ?_); go_simp; refine hK _ ?_; clear hK K))
              (first | (refine calm_yes rfl rfl (fun w' hC => (by have c0 := hC.cell c0; have c1 := hC.cell c1; have c2 := hC.cell c2; have c3 := hC.cell c3; go_simp; rfl)) (fun K hK => ?_); go_simp; refine hK _ ?_; clear hK K) | (refine calm_no rfl rfl (fun K hK => ?_); go_simp; refine hK _ ?_; clear hK K))
              (first | (refine calm_yes rfl rfl (fun w' hC => (by have c0 := hC.cell c0; have c1 := hC.cell c1; have c2 := hC.cell c2; have c3 := hC.cell c3; go_simp; rfl)) (fun K hK => ?_); go_simp; refine hK _ ?_; clear hK K) | (refine calm_no rfl rfl (fun K hK => ?_); go_simp; refine hK _ ?_; clear hK K))
              refine calm_done (fun w8 hb => ?_)
              clear c0 c1 c2 c3
              replace X := Lib.hid (Ext.trans X.out hb)
              replace R := Lib.hid (R.out.ext hb)
              have lR := R.out.lt
              replace G1 := Lib.hid (G1.out.ext rgR_stab hb)
              replace Ra := Lib.hid (Ra.out.ext hb)
              have lRa := Ra.out.lt
              replace Rb := Lib.hid (Rb.out.ext hb)
              have lRb := Rb.out.lt
              clear hb
              have c0 := R.out.cell_of (i := 0) rfl
              have c1 := R.out.cell_of (i := 1) rfl
              have c2 := R.out.cell_of (i := 2) rfl
              have c3 := R.out.cell_of (i := 3) rfl
              go_wp2
              go_roundw
              case rel => exact ⟨k + 1, by omega, by go_num, X.out⟩
              case measure => simp [intOf]; omega
        · have hkI : decide ((k : Int) < 64) = false := by simp; omega
          obtain ⟨l, t, r, bt⟩ := b
          have hbk := Hbk.out
          dsimp only at hbk
          obtain ⟨⟨q1, q2, q3⟩, q4, q5, q6⟩ := hbk
          have R := Lib.hid (R3.out.ext X.out)
          have E2 := Lib.hid (Ext.trans E.out X.out)
          have V2 := Lib.hid (Q.out.ext verbK_stab X.out)
          have KA := Lib.hid (fun W hW => c_iPathArea A3 cap3 vs W hW (by omega) Sm9.out)
          have KV := Lib.hid (fun W (hW : VbK W A3 vs) => c_iValidPath A3 cap3 vs W hW.toV (by omega) Sm9.out)
          rw [HV.out, HA.out] at KA
          rw [HPO.out] at KV
          have g1 : IntKind.i64.wrap (r - l) = r - l := IntWalk.i64_in _ (by omega)
          have g2 : IntKind.i64.wrap (2 * (r - l)) = 2 * (r - l) := IntWalk.i64_in _ (by omega)
          have g3 : IntKind.i64.wrap (bt - t) = bt - t := IntWalk.i64_in _ (by omega)
          have g4 : IntKind.i64.wrap (2 * (r - l) * (bt - t)) = 2 * (r - l) * (bt - t) := IntWalk.i64_in _ (by
            have := mul_bd (a := 2 * (r - l)) (b := bt - t) (A := 10000) (B := 10000) (by omega) (by omega) (by omega) (by omega)
            omega)
          clear c0 c1 c2 c3
          have c0 := R.out.cell_of (i := 0) rfl
          have c1 := R.out.cell_of (i := 1) rfl
          have c2 := R.out.cell_of (i := 2) rfl
          have c3 := R.out.cell_of (i := 3) rfl
          go_wp2_with fail
          refine wp_region_calm [0,1,2,3,4,5,6,7,8,9,10,11,12,13,14,15,16,17,18,19] [] (by kernel_rfl) (by kernel_rfl) ?_
          (first | (refine calm_yes rfl rfl (fun w' hC => (by have c0 := hC.cell c0; have c1 := hC.cell c1; have c2 := hC.cell c2; have c3 := hC.cell c3; go_simp; rfl)) (fun K hK => ?_); go_simp; refine hK _ ?_; clear hK K) | (refine calm_no rfl rfl (fun K hK => ?_); go_simp; refine hK _ ?_; clear hK K))
          (apply calm_call rfl rfl rfl Try.func35 (by kernel_rfl) rfl (by go_simp; rfl); exact (fun w' hC => KA.out w' (V2.out.ext verbK_stab (ext_cls hC))); intro K hK; go_simp; refine hK _ ?_; clear hK K)
          (first | (refine calm_yes rfl rfl (fun w' hC => (by have c0 := hC.cell c0; have c1 := hC.cell c1; have c2 := hC.cell c2; have c3 := hC.cell c3; go_simp; rfl)) (fun K hK => ?_); go_simp; refine hK _ ?_; clear hK K) | (refine calm_no rfl rfl (fun K hK => ?_); go_simp; refine hK _ ?_; clear hK K))
          (first | (refine calm_yes rfl rfl (fun w' hC => (by have c0 := hC.cell c0; have c1 := hC.cell c1; have c2 := hC.cell c2; have c3 := hC.cell c3; go_simp; rfl)) (fun K hK => ?_); go_simp; refine hK _ ?_; clear hK K) | (refine calm_no rfl rfl (fun K hK => ?_); go_simp; refine hK _ ?_; clear hK K))
          (first | (refine calm_yes rfl rfl (fun w' hC => (by have c0 := hC.cell c0; have c1 := hC.cell c1; have c2 := hC.cell c2; have c3 := hC.cell c3; go_simp; rfl)) (fun K hK => ?_); go_simp; refine hK _ ?_; clear hK K) | (refine calm_no rfl rfl (fun K hK => ?_); go_simp; refine hK _ ?_; clear hK K))
          (first | (refine calm_yes rfl rfl (fun w' hC => (by have c0 := hC.cell c0; have c1 := hC.cell c1; have c2 := hC.cell c2; have c3 := hC.cell c3; go_simp; rfl)) (fun K hK => ?_); go_simp; refine hK _ ?_; clear hK K) | (refine calm_no rfl rfl (fun K hK => ?_); go_simp; refine hK _ ?_; clear hK K))
          (first | (refine calm_yes rfl rfl (fun w' hC => (by have c0 := hC.cell c0; have c1 := hC.cell c1; have c2 := hC.cell c2; have c3 := hC.cell c3; go_simp; rfl)) (fun K hK => ?_); go_simp; refine hK _ ?_; clear hK K) | (refine calm_no rfl rfl (fun K hK => ?_); go_simp; refine hK _ ?_; clear hK K))
          (first | (refine calm_yes rfl rfl (fun w' hC => (by have c0 := hC.cell c0; have c1 := hC.cell c1; have c2 := hC.cell c2; have c3 := hC.cell c3; go_simp; rfl)) (fun K hK => ?_); go_simp; refine hK _ ?_; clear hK K) | (refine calm_no rfl rfl (fun K hK => ?_); go_simp; refine hK _ ?_; clear hK K))
          (first | (refine calm_yes rfl rfl (fun w' hC => (by have c0 := hC.cell c0; have c1 := hC.cell c1; have c2 := hC.cell c2; have c3 := hC.cell c3; go_simp; rfl)) (fun K hK => ?_); go_simp; refine hK _ ?_; clear hK K) | (refine calm_no rfl rfl (fun K hK => ?_); go_simp; refine hK _ ?_; clear hK K))
          (first | (refine calm_yes rfl rfl (fun w' hC => (by have c0 := hC.cell c0; have c1 := hC.cell c1; have c2 := hC.cell c2; have c3 := hC.cell c3; go_simp; rfl)) (fun K hK => ?_); go_simp; refine hK _ ?_; clear hK K) | (refine calm_no rfl rfl (fun K hK => ?_); go_simp; refine hK _ ?_; clear hK K))
          (first | (refine calm_yes rfl rfl (fun w' hC => (by have c0 := hC.cell c0; have c1 := hC.cell c1; have c2 := hC.cell c2; have c3 := hC.cell c3; go_simp; rfl)) (fun K hK => ?_); go_simp; refine hK _ ?_; clear hK K) | (refine calm_no rfl rfl (fun K hK => ?_); go_simp; refine hK _ ?_; clear hK K))
          (first | (refine calm_yes rfl rfl (fun w' hC => (by have c0 := hC.cell c0; have c1 := hC.cell c1; have c2 := hC.cell c2; have c3 := hC.cell c3; go_simp; rfl)) (fun K hK => ?_); go_simp; refine hK _ ?_; clear hK K) | (refine calm_no rfl rfl (fun K hK => ?_); go_simp; refine hK _ ?_; clear hK K))
          (first | (refine calm_yes rfl rfl (fun w' hC => (by have c0 := hC.cell c0; have c1 := hC.cell c1; have c2 := hC.cell c2; have c3 := hC.cell c3; go_simp; rfl)) (fun K hK => ?_); go_simp; refine hK _ ?_; clear hK K) | (refine calm_no rfl rfl (fun K hK => ?_); go_simp; refine hK _ ?_; clear hK K))
          (first | (refine calm_yes rfl rfl (fun w' hC => (by have c0 := hC.cell c0; have c1 := hC.cell c1; have c2 := hC.cell c2; have c3 := hC.cell c3; go_simp; rfl)) (fun K hK => ?_); go_simp; refine hK _ ?_; clear hK K) | (refine calm_no rfl rfl (fun K hK => ?_); go_simp; refine hK _ ?_; clear hK K))
          (first | (refine calm_yes rfl rfl (fun w' hC => (by have c0 := hC.cell c0; have c1 := hC.cell c1; have c2 := hC.cell c2; have c3 := hC.cell c3; go_simp; rfl)) (fun K hK => ?_); go_simp; refine hK _ ?_; clear hK K) | (refine calm_no rfl rfl (fun K hK => ?_); go_simp; refine hK _ ?_; clear hK K))
          (first | (refine calm_yes rfl rfl (fun w' hC => (by have c0 := hC.cell c0; have c1 := hC.cell c1; have c2 := hC.cell c2; have c3 := hC.cell c3; go_simp; rfl)) (fun K hK => ?_); go_simp; refine hK _ ?_; clear hK K) | (refine calm_no rfl rfl (fun K hK => ?_); go_simp; refine hK _ ?_; clear hK K))
          (first | (refine calm_yes rfl rfl (fun w' hC => (by have c0 := hC.cell c0; have c1 := hC.cell c1; have c2 := hC.cell c2; have c3 := hC.cell c3; go_simp; rfl)) (fun K hK => ?_); go_simp; refine hK _ ?_; clear hK K) | (refine calm_no rfl rfl (fun K hK => ?_); go_simp; refine hK _ ?_; clear hK K))
          (first | (apply calm_call rfl rfl rfl Try.func20 (by kernel_rfl) rfl (by go_simp; rfl); exact (fun w' hC => KV.out w' (V2.out.ext verbK_stab (ext_cls hC))); intro K hK; go_simp; refine hK _ ?_; clear hK K) | (refine calm_no rfl rfl (fun K hK => ?_); go_simp; refine hK _ ?_; clear hK K))
          (first | (refine calm_yes rfl rfl (fun w' hC => (by have c0 := hC.cell c0; have c1 := hC.cell c1; have c2 := hC.cell c2; have c3 := hC.cell c3; go_simp; rfl)) (fun K hK => ?_); go_simp; refine hK _ ?_; clear hK K) | (refine calm_no rfl rfl (fun K hK => ?_); go_simp; refine hK _ ?_; clear hK K))
          (first | (refine calm_yes rfl rfl (fun w' hC => (by have c0 := hC.cell c0; have c1 := hC.cell c1; have c2 := hC.cell c2; have c3 := hC.cell c3; go_simp; rfl)) (fun K hK => ?_); go_simp; refine hK _ ?_; clear hK K) | (refine calm_no rfl rfl (fun K hK => ?_); go_simp; refine hK _ ?_; clear hK K))
          refine calm_done (fun w8 hb => ?_)
          clear c0 c1 c2 c3
          replace E2 := Lib.hid (Ext.trans E2.out hb)
          replace R := Lib.hid (R.out.ext hb)
          have lR := R.out.lt
          replace V2 := Lib.hid (V2.out.ext verbK_stab hb)
          clear hb
          have c0 := R.out.cell_of (i := 0) rfl
          have c1 := R.out.cell_of (i := 1) rfl
          have c2 := R.out.cell_of (i := 2) rfl
          have c3 := R.out.cell_of (i := 3) rfl
          go_wp2
          go_ret
          exact ⟨rfl, E2.out⟩
  · have hnI : (1048576 : Int) < (bs.length : Int) := by omega
    clear h
    go_enter Try.func13, Try.ntmps13
    go_wp2
    go_ret
    exact ⟨rfl, Below.refl _ _⟩

theorem opens0 : Opens Try.prog 22 (slR byteR 1 ) :=  opens_slice Try.underlying22 (by kernel_rfl) (by decide) (opens_byte Try.underlying5)
set_option maxRecDepth 100000 in
theorem lifted (os : Os) (started : os.Started) (H : Type) (enc : TypeId × Value → H) :
    ReturnsInHanded {} Try.checked os 13 .any (Rows.fnBoxPathSpec.pre6 enc Try.prog Try.f13 Rows.fnBoxPathRow.domain false) (Rows.fnBoxPathSpec.post enc Try.prog Try.f13 false true false false) := by
  refine returnsInHanded_of_change (C := Try.checked) own started (by kernel_rfl) Try.func13
    (ChangeSpec.witness6 (enc := enc) (C := Try.checked) false ⟨#[], #[.slice none 0 0], []⟩ 8 (by kernel_rfl) (by kernel_rfl) (by kernel_rfl) (by kernel_rfl)) ?_
  intro W base args ds gs before hval0 hW hcnd _
  have hval : ∀ (j : Nat) t v, Try.f13.params[j]? = some t → args[j]? = some v → Value.okWide Try.prog W .any base t v := hval0
  have hW' := hW
  obtain ⟨p, q, hA0, hV, rfl, hfz, hnd⟩ := hW
  have hA : DataW.TrodAll enc Try.prog W 0 (fun _ => true) true Try.f13.params.toList args.toList ds p := hA0
  rw [Try.params13] at hA hval
  obtain ⟨v0, vs0, d0, ds0, p0, q0, hargs, rfl, rfl, h0, r0⟩ := trodAll_cons hA
  obtain ⟨rfl, rfl, rfl⟩ := trodAll_nil r0
  obtain rfl : args = #[v0] := by cases args; simp_all
  obtain ⟨rfl, rfl, rfl⟩ := trodVars_none hV
  obtain ⟨a0, len0, cap0, rfl⟩ := okWide_slice Try.underlying22 (hval 0 22 v0 rfl rfl)
  have k0 := h0
  have lt0 : ∀ x ∈ p0, x.block < W.heap.size := by obtain ⟨m, hm⟩ := k0; exact DataW.trod_lt m _ _ _ hm
  obtain ⟨xs0, rfl, w0, wl0, wc0⟩ := open_arg rfl opens0 h0
  clear hA0 hval0
  refine (walk a0 cap0 xs0 W w0 wl0 wc0).mono fun e W' ⟨he, bel⟩ => ?_
  subst he
  exact ⟨_, rfl, _, _, _, [], _, [], hW', trodAll_mk1 (shut_bool Try.underlying4 _), (trodAll_cons_mk (Below.trod laidOut (by kernel_rfl) (of_decide_eq_true (by kernel_rfl)) k0 bel lt0) trodAll_mk0), rfl, bel.frame _, fun h => by cases h⟩
theorem joinedA : joinA Try.pinned.checked.prog 13 Try.f13 Rows.fnBoxPathSpec Rows.fnBoxPathRow = true := by kernel_rfl
theorem joinedB : joinB Try.pinned.checked.prog Rows.fnBoxPathRow = true := by kernel_rfl
theorem over : Rows.fnBoxPathRow.holds Try.pinned (OpenSpec.ofChange Rows.fnBoxPathSpec) :=
  OpenClaim.holds_of_wide 13 Try.f13 rfl rfl rfl rfl rfl rfl rfl ⟨rfl, rfl, rfl, rfl, rfl⟩ rfl rfl rfl rfl rfl (by kernel_rfl) Try.func13 (joined_of joinedA joinedB)
    (of_decide_eq_true (by kernel_rfl)) (by unfold Func.isWrapper; first | (rw [if_pos (by decide +kernel)]; kernel_rfl) | (rw [if_neg (by decide +kernel)]; exact ⟨rfl, rfl⟩))
    (fun os started H enc _ => lifted os started H enc)

theorem proved : Rows.FnBoxPathSaid := over

end Go.Proofs.Ytnclnmciaehgeaa.fnBoxPath

