/- Boxes of whole pixels cover these fully and no others, whatever the bytes that the boxes are drawn from. -/
import Derived.Test.YtnclnmciaehgeaaPixIn
import Derived.Test.YtnclnmciaehgeaaPath
import Derived.Test.YtnclnmciaehgeaaEqualR
import Derived.Test.YtnclnmciaehgeaaJoin
import Derived.Test.YtnclnmciaehgeaaOpen
namespace Go.Proofs.Ytnclnmciaehgeaa.fnBoxPathPixels
open Go Go.RowKit Go.ChangeShapes Go.WideShapes Go.ChangeAt Go.Deep Reg
attribute [local go_sem] calmAt calmUpon

theorem own : ownKnob Try.prog.godebug = none := by kernel_rfl
theorem laidOut : laidOutB Try.prog = true := by kernel_rfl

set_option maxRecDepth 100000 in
set_option maxHeartbeats 4000000 in
theorem walk (A : Option Addr) (cap : Nat) (bs : List Int) (w : World) (h : In byteR 1 w A bs) (hlc : bs.length ≤ cap) (hcm : cap ≤ maxLen) :
    Calls Try.prog 14 #[.slice A bs.length cap] w fun e w' => e = .returned (.bool true) ∧ Below w.heap.size w w' := by
  unfold maxLen at hcm
  by_cases hn : bs.length ≤ 1048576
  · have hnI : ¬ (1048576 : Int) < (bs.length : Int) := by omega
    have E := Lib.hid (Below.refl w.heap.size w)
    go_enter Try.func14, Try.ntmps14
    go_wp2_with fail
    refine (c_DrawBoxPath A cap bs w h hlc (by omega)).mono ?_
    rintro e w1 ⟨b, rfl, hp, hb⟩
    replace E := Lib.hid (Ext.trans E.out hb)
    clear hb
    clear h hn hp
    go_wp2_with fail
    first | refine gen_calls ?_ | refine gen_code ?_ | refine gen_list ?_
    intro w2 hW
    obtain ⟨hb, hR3⟩ := new1 hW
    clear hW
    replace E := Lib.hid (Ext.trans E.out hb)
    clear hb
    have R3 := Lib.hid hR3
    have lR3 := R3.out.lt
    clear hR3
    have c0 := R3.out.cell_of (i := 0) rfl
    have c1 := R3.out.cell_of (i := 1) rfl
    have c2 := R3.out.cell_of (i := 2) rfl
    have c3 := R3.out.cell_of (i := 3) rfl
    obtain ⟨d, hd⟩ : ∃ d, boxOk b = d := ⟨_, rfl⟩
    cases d
    · have Hm : Hid (pathL (boxOk b) (boxPts b) = ([], false)) := Lib.hid (by rw [hd]; rfl)
      clear hd
      go_wp2_with fail
      clear c0 c1 c2 c3
      refine (c_iBoxPath b.1 b.2.1 b.2.2.1 b.2.2.2 _).mono ?_
      rw [Hm.out]
      rintro e w3 ⟨A3, cap3, ss3, rfl, ho3, hb⟩
      replace E := Lib.hid (Ext.trans E.out hb)
      replace R3 := Lib.hid (R3.out.ext hb)
      have lR3 := R3.out.lt
      clear hb
      have Q := Lib.hid (ho3.in_)
      have c0 := R3.out.cell_of (i := 0) rfl
      have c1 := R3.out.cell_of (i := 1) rfl
      have c2 := R3.out.cell_of (i := 2) rfl
      have c3 := R3.out.cell_of (i := 3) rfl
      clear ho3
      go_wp2_with fail
      clear c0 c1 c2 c3
      refine (c_sBoxPath b.1 b.2.1 b.2.2.1 b.2.2.2 _).mono ?_
      rw [Hm.out]
      rintro e w4 ⟨A4, cap4, ss4, rfl, ho4, hb⟩
      replace E := Lib.hid (Ext.trans E.out hb)
      replace R3 := Lib.hid (R3.out.ext hb)
      have lR3 := R3.out.lt
      replace Q := Lib.hid (Q.out.ext verbR_stab hb)
      clear hb
      have W0 := Lib.hid (ho4.in_)
      have c0 := R3.out.cell_of (i := 0) rfl
      have c1 := R3.out.cell_of (i := 1) rfl
      have c2 := R3.out.cell_of (i := 2) rfl
      have c3 := R3.out.cell_of (i := 3) rfl
      clear ho4
      go_wp2_with fail
      clear c0 c1 c2 c3
      refine (c_equalPath _ _ _ _ [] _ Q.out W0.out (by simp) (fun v hv => by simp at hv)).mono ?_
      rintro e w5 ⟨rfl, hb⟩
      replace E := Lib.hid (Ext.trans E.out hb)
      replace R3 := Lib.hid (R3.out.ext hb)
      have lR3 := R3.out.lt
      replace Q := Lib.hid (Q.out.ext verbR_stab hb)
      replace W0 := Lib.hid (W0.out.ext verbR_stab hb)
      clear hb
      have c0 := R3.out.cell_of (i := 0) rfl
      have c1 := R3.out.cell_of (i := 1) rfl
      have c2 := R3.out.cell_of (i := 2) rfl
      have c3 := R3.out.cell_of (i := 3) rfl
      go_wp2_with fail
      clear c0 c1 c2 c3
      refine (c_equalPath _ _ _ _ [] _ Q.out W0.out (by simp) (fun v hv => by simp at hv)).mono ?_
      rintro e w6 ⟨rfl, hb⟩
      replace E := Lib.hid (Ext.trans E.out hb)
      replace R3 := Lib.hid (R3.out.ext hb)
      have lR3 := R3.out.lt
      replace Q := Lib.hid (Q.out.ext verbR_stab hb)
      replace W0 := Lib.hid (W0.out.ext verbR_stab hb)
      clear hb
      have c0 := R3.out.cell_of (i := 0) rfl
      have c1 := R3.out.cell_of (i := 1) rfl
      have c2 := R3.out.cell_of (i := 2) rfl
      have c3 := R3.out.cell_of (i := 3) rfl
      go_wp2
      go_ret
      exact ⟨rfl, E.out⟩
    · have Hm : Hid (pathL (boxOk b) (boxPts b) = (polyV (boxPts b) ++ [(4, [])], true)) := Lib.hid (by rw [hd]; rfl)
      have hbk := box_ok hd
      have hlen : (polyV (boxPts b) ++ [((4 : Int), ([] : List Pt))]).length = 5 := rfl
      have hsm : ∀ v ∈ (polyV (boxPts b) ++ [((4 : Int), ([] : List Pt))]), v.2.length ≤ 1 := by
        intro v hv
        have := pathL_small true (boxPts b) v (by simpa [pathL] using hv)
        exact this
      have Sm6 : Hid (∀ v ∈ (polyV (boxPts b) ++ [((4 : Int), ([] : List Pt))]), v.2.length ≤ 1048576) := Lib.hid (fun v hv => by have := hsm v hv; omega)
      have hl5 : (polyV (boxPts b) ++ [((4 : Int), ([] : List Pt))]).length ≤ 5 := by omega
      have KI := Lib.hid (fun W => c_iBoxPath b.1 b.2.1 b.2.2.1 b.2.2.2 W)
      have KS := Lib.hid (fun W => c_sBoxPath b.1 b.2.1 b.2.2.1 b.2.2.2 W)
      rw [Hm.out] at KI KS
      have hvb : vbxB b = true := by unfold boxOk at hd; simp only [Bool.and_eq_true] at hd; exact hd.1
      have KP := Lib.hid (fun W => c_PixelBox b.1 b.2.1 b.2.2.1 b.2.2.2 W hvb)
      clear hd hlen hsm hvb Hm
      generalize hvs : polyV (boxPts b) ++ [((4 : Int), ([] : List Pt))] = vs at *
      clear hvs
      go_wp2_with fail
      clear c0 c1 c2 c3
      refine (KI.out _).mono ?_
      rintro e w3 ⟨A3, cap3, ss3, rfl, ho3, hb⟩
      replace E := Lib.hid (Ext.trans E.out hb)
      replace R3 := Lib.hid (R3.out.ext hb)
      have lR3 := R3.out.lt
      clear hb
      have Q := Lib.hid (ho3.in_)
      have c0 := R3.out.cell_of (i := 0) rfl
      have c1 := R3.out.cell_of (i := 1) rfl
      have c2 := R3.out.cell_of (i := 2) rfl
      have c3 := R3.out.cell_of (i := 3) rfl
      clear ho3
      go_wp2_with fail
      clear c0 c1 c2 c3
      refine (KS.out _).mono ?_
      rintro e w4 ⟨A4, cap4, ss4, rfl, ho4, hb⟩
      replace E := Lib.hid (Ext.trans E.out hb)
      replace R3 := Lib.hid (R3.out.ext hb)
      have lR3 := R3.out.lt
      replace Q := Lib.hid (Q.out.ext verbR_stab hb)
      clear hb
      have W0 := Lib.hid (ho4.in_)
      have c0 := R3.out.cell_of (i := 0) rfl
      have c1 := R3.out.cell_of (i := 1) rfl
      have c2 := R3.out.cell_of (i := 2) rfl
      have c3 := R3.out.cell_of (i := 3) rfl
      clear ho4
      go_wp2_with fail
      clear c0 c1 c2 c3
      refine (c_equalPath _ _ _ _ vs _ Q.out W0.out (by omega) Sm6.out).mono ?_
      rintro e w5 ⟨rfl, hb⟩
      replace E := Lib.hid (Ext.trans E.out hb)
      replace R3 := Lib.hid (R3.out.ext hb)
      have lR3 := R3.out.lt
      replace Q := Lib.hid (Q.out.ext verbR_stab hb)
      replace W0 := Lib.hid (W0.out.ext verbR_stab hb)
      clear hb
      have c0 := R3.out.cell_of (i := 0) rfl
      have c1 := R3.out.cell_of (i := 1) rfl
      have c2 := R3.out.cell_of (i := 2) rfl
      have c3 := R3.out.cell_of (i := 3) rfl
      go_wp2_with fail
      clear c0 c1 c2 c3
      refine (KP.out _).mono ?_
      rintro e w6 ⟨rfl, hb⟩
      replace E := Lib.hid (Ext.trans E.out hb)
      replace R3 := Lib.hid (R3.out.ext hb)
      have lR3 := R3.out.lt
      clear hb
      have c0 := R3.out.cell_of (i := 0) rfl
      have c1 := R3.out.cell_of (i := 1) rfl
      have c2 := R3.out.cell_of (i := 2) rfl
      have c3 := R3.out.cell_of (i := 3) rfl
      obtain ⟨l, t, r, bt⟩ := b
      dsimp only at hbk
      obtain ⟨⟨q1, q2, q3⟩, q4, q5, q6⟩ := hbk
      have hP : pixB (l, t, r, bt) = (l / 16, t / 16, r / 16 + 1, bt / 16 + 1) := rfl
      have b1 : -63 ≤ l / 16 ∧ l / 16 ≤ 62 := by omega
      have b2 : -63 ≤ t / 16 ∧ t / 16 ≤ 62 := by omega
      have b3 : -63 ≤ r / 16 + 1 ∧ r / 16 + 1 ≤ 63 := by omega
      have b4 : -63 ≤ bt / 16 + 1 ∧ bt / 16 + 1 ≤ 63 := by omega
      have hpv : vbxB (pixB (l, t, r, bt)) = true := by
        rw [hP]; unfold vbxB; simp only [decide_eq_true_eq]; omega
      rw [hP] at hpv ⊢
      generalize l / 16 = pl at *
      generalize t / 16 = pt at *
      generalize r / 16 + 1 = pr at *
      generalize bt / 16 + 1 = pb at *
      clear hP
      have HPV := Lib.hid hpv
      have g1 : IntKind.i64.wrap (16 * pl) = 16 * pl := IntWalk.i64_in _ (by omega)
      have g2 : IntKind.i64.wrap (16 * pt) = 16 * pt := IntWalk.i64_in _ (by omega)
      have g3 : IntKind.i64.wrap (16 * pr) = 16 * pr := IntWalk.i64_in _ (by omega)
      have g4 : IntKind.i64.wrap (16 * pb) = 16 * pb := IntWalk.i64_in _ (by omega)
      clear hpv
      have KB := Lib.hid (fun W => c_iBoxPath (16 * pl) (16 * pt) (16 * pr) (16 * pb) W)
      go_wp2_with fail
      clear c0 c1 c2 c3
      first | refine gen_calls ?_ | refine gen_code ?_ | refine gen_list ?_
      intro w7 hW
      obtain ⟨hb, hR8⟩ := new1 hW
      clear hW
      replace E := Lib.hid (Ext.trans E.out hb)
      replace R3 := Lib.hid (R3.out.ext hb)
      have lR3 := R3.out.lt
      clear hb
      have R8 := Lib.hid hR8
      have lR8 := R8.out.lt
      clear hR8
      have c0 := R3.out.cell_of (i := 0) rfl
      have c1 := R3.out.cell_of (i := 1) rfl
      have c2 := R3.out.cell_of (i := 2) rfl
      have c3 := R3.out.cell_of (i := 3) rfl
      clear c0 c1 c2 c3
      have d0 := R8.out.cell_of (i := 0) rfl
      have d1 := R8.out.cell_of (i := 1) rfl
      have d2 := R8.out.cell_of (i := 2) rfl
      have d3 := R8.out.cell_of (i := 3) rfl
      obtain ⟨d2, hd2⟩ : ∃ e, boxOk (bigB (pl, pt, pr, pb)) = e := ⟨_, rfl⟩
      cases d2
      · have Hm2 : pathL (boxOk (16 * pl, 16 * pt, 16 * pr, 16 * pb)) (boxPts (16 * pl, 16 * pt, 16 * pr, 16 * pb)) = ([], false) := by
          rw [show boxOk (16 * pl, 16 * pt, 16 * pr, 16 * pb) = false from hd2]; rfl
        rw [Hm2] at KB
        have HV : Hid (ringsV [] = []) := Lib.hid rfl
        have hml := maskR_len [] 0 12 12
        have KM := Lib.hid (fun A c W hW => c_iMaskOf A c [] 0 12 12 W hW (by simp) (fun r hr => by simp at hr))
        generalize maskR [] 0 12 12 = ns at *
        clear Hm2 hd2
        go_wp2_with fail
        clear d0 d1 d2 d3
        refine (KB.out _).mono ?_
        rintro e w8 ⟨A8, cap8, ss8, rfl, ho8, hb⟩
        replace E := Lib.hid (Ext.trans E.out hb)
        replace R3 := Lib.hid (R3.out.ext hb)
        have lR3 := R3.out.lt
        replace R8 := Lib.hid (R8.out.ext hb)
        have lR8 := R8.out.lt
        clear hb
        have Q8 := Lib.hid (ho8.inK)
        have d0 := R8.out.cell_of (i := 0) rfl
        have d1 := R8.out.cell_of (i := 1) rfl
        have d2 := R8.out.cell_of (i := 2) rfl
        have d3 := R8.out.cell_of (i := 3) rfl
        clear ho8
        go_wp2_with fail
        clear d0 d1 d2 d3
        refine (c_iRingsOf A8 cap8 [] _ Q8.out (by simp) (fun v hv => by simp at hv)).mono ?_
        rw [HV.out]
        rintro e w9 ⟨A9, cap9, ss9, rfl, ho9, hb⟩
        replace E := Lib.hid (Ext.trans E.out hb)
        replace R3 := Lib.hid (R3.out.ext hb)
        have lR3 := R3.out.lt
        replace R8 := Lib.hid (R8.out.ext hb)
        have lR8 := R8.out.lt
        replace Q8 := Lib.hid (Q8.out.ext verbK_stab hb)
        clear hb
        have G := Lib.hid (ho9.in_)
        have d0 := R8.out.cell_of (i := 0) rfl
        have d1 := R8.out.cell_of (i := 1) rfl
        have d2 := R8.out.cell_of (i := 2) rfl
        have d3 := R8.out.cell_of (i := 3) rfl
        clear ho9
        go_wp2_with fail
        clear d0 d1 d2 d3
        refine (KM.out A9 cap9 _ G.out).mono ?_
        rintro e w10 ⟨A10, cap10, rfl, ho10, hb⟩
        replace E := Lib.hid (Ext.trans E.out hb)
        replace R3 := Lib.hid (R3.out.ext hb)
        have lR3 := R3.out.lt
        replace R8 := Lib.hid (R8.out.ext hb)
        have lR8 := R8.out.lt
        replace Q8 := Lib.hid (Q8.out.ext verbK_stab hb)
        replace G := Lib.hid (G.out.ext rgR_stab hb)
        clear hb
        have d0 := R8.out.cell_of (i := 0) rfl
        have d1 := R8.out.cell_of (i := 1) rfl
        have d2 := R8.out.cell_of (i := 2) rfl
        have d3 := R8.out.cell_of (i := 3) rfl
        clear ho10
        obtain ⟨wb, hwb⟩ : ∃ wb : World, wb = w10 := ⟨_, rfl⟩
        subst hwb
        go_wp2_with fail
        go_loopw [12, 13] (fun v12 _ wr => v12 = .int .i64 0 ∧ Ext wb wr) (fun _ _ _ => 0)
        case atStart => exact ⟨rfl, Ext.refl _⟩
        case round =>
          obtain ⟨rfl, hbw⟩ := hrel
          have E2 := Lib.hid (Ext.trans E.out hbw)
          clear hbw
          by_cases hpos : 0 < ns.length
          · have hI : decide ((0 : Int) < (ns.length : Int)) = true := decide_eq_true (by omega)
            go_wp2
            go_ret
            exact ⟨rfl, E2.out⟩
          · have hI : decide ((0 : Int) < (ns.length : Int)) = false := decide_eq_false (by omega)
            go_wp2
            go_ret
            exact ⟨rfl, E2.out⟩
      · have hps2 := box_ps hd2
        have Hm2 : pathL (boxOk (16 * pl, 16 * pt, 16 * pr, 16 * pb)) (boxPts (16 * pl, 16 * pt, 16 * pr, 16 * pb)) = (polyV (boxPts (bigB (pl, pt, pr, pb))) ++ [(4, [])], true) := by
          rw [show boxOk (16 * pl, 16 * pt, 16 * pr, 16 * pb) = true from hd2]; rfl
        rw [Hm2] at KB
        have hV2 : ringsV (polyV (boxPts (bigB (pl, pt, pr, pb))) ++ [(4, [])]) = [boxPts (bigB (pl, pt, pr, pb))] := ringsV4 hps2
        have hlen : (polyV (boxPts (bigB (pl, pt, pr, pb))) ++ [((4 : Int), ([] : List Pt))]).length = 5 := rfl
        have hsm : ∀ v ∈ (polyV (boxPts (bigB (pl, pt, pr, pb))) ++ [((4 : Int), ([] : List Pt))]), v.2.length ≤ 1 := by
          intro v hv
          have := pathL_small true (boxPts (bigB (pl, pt, pr, pb))) v (by simpa [pathL] using hv)
          exact this
        have S9 : Hid (∀ v ∈ (polyV (boxPts (bigB (pl, pt, pr, pb))) ++ [((4 : Int), ([] : List Pt))]), v.2.length ≤ 1000000000) := Lib.hid (fun v hv => by have := hsm v hv; omega)
        have hl52 : (polyV (boxPts (bigB (pl, pt, pr, pb))) ++ [((4 : Int), ([] : List Pt))]).length ≤ 5 := by omega
        have HM : maskR [boxPts (bigB (pl, pt, pr, pb))] 0 12 12 = cellsM (coverF [boxPts (bigB (pl, pt, pr, pb))] 0) 12 12 0 := by
          have hg : rgsB [boxPts (bigB (pl, pt, pr, pb))] = true := rgsB4 hps2
          unfold maskR
          rw [hg]; rfl
        have Hget : Hid (∀ (k : Nat) (hk : k < (cellsM (coverF [boxPts (bigB (pl, pt, pr, pb))] 0) 12 12 0).length), k < 144 → (cellsM (coverF [boxPts (bigB (pl, pt, pr, pb))] 0) 12 12 0)[k] = if hasB (pl, pt, pr, pb) ((k % 12 : Nat) : Int) ((k / 12 : Nat) : Int) = true then 16 else 0) := Lib.hid (fun k hk h => by
          have h1 := cellsM_get (coverF [boxPts (bigB (pl, pt, pr, pb))] 0) h
          rw [List.getElem?_eq_getElem hk] at h1
          injection h1 with h1
          rw [h1]
          exact cover_box hd2 HPV.out (by omega) (by omega))
        have hn144 : (cellsM (coverF [boxPts (bigB (pl, pt, pr, pb))] 0) 12 12 0).length = 144 := rfl
        have KM := Lib.hid (fun A c W hW => c_iMaskOf A c [boxPts (bigB (pl, pt, pr, pb))] 0 12 12 W hW (by simp) (fun r hr => by simp only [List.mem_cons, List.not_mem_nil, or_false] at hr; subst hr; show 4 ≤ 1000000000; omega))
        rw [HM] at KM
        have HV := Lib.hid hV2
        clear Hm2 hd2 hps2 hV2 hlen hsm HM
        generalize cellsM (coverF [boxPts (bigB (pl, pt, pr, pb))] 0) 12 12 0 = ns at *
        generalize polyV (boxPts (bigB (pl, pt, pr, pb))) ++ [((4 : Int), ([] : List Pt))] = vs2 at *
        generalize boxPts (bigB (pl, pt, pr, pb)) = pts2 at *
        have Hn := Lib.hid hn144
        have hns : ns.length ≤ 144 := by omega
        have hnp : 0 < ns.length := by omega
        clear hn144
        go_wp2_with fail
        clear d0 d1 d2 d3
        refine (KB.out _).mono ?_
        rintro e w8 ⟨A8, cap8, ss8, rfl, ho8, hb⟩
        replace E := Lib.hid (Ext.trans E.out hb)
        replace R3 := Lib.hid (R3.out.ext hb)
        have lR3 := R3.out.lt
        replace R8 := Lib.hid (R8.out.ext hb)
        have lR8 := R8.out.lt
        clear hb
        have Q8 := Lib.hid (ho8.inK)
        have d0 := R8.out.cell_of (i := 0) rfl
        have d1 := R8.out.cell_of (i := 1) rfl
        have d2 := R8.out.cell_of (i := 2) rfl
        have d3 := R8.out.cell_of (i := 3) rfl
        clear ho8
        go_wp2_with fail
        clear d0 d1 d2 d3
        refine (c_iRingsOf A8 cap8 vs2 _ Q8.out (by omega) S9.out).mono ?_
        rw [HV.out]
        rintro e w9 ⟨A9, cap9, ss9, rfl, ho9, hb⟩
        replace E := Lib.hid (Ext.trans E.out hb)
        replace R3 := Lib.hid (R3.out.ext hb)
        have lR3 := R3.out.lt
        replace R8 := Lib.hid (R8.out.ext hb)
        have lR8 := R8.out.lt
        replace Q8 := Lib.hid (Q8.out.ext verbK_stab hb)
        clear hb
        have G := Lib.hid (ho9.in_)
        have d0 := R8.out.cell_of (i := 0) rfl
        have d1 := R8.out.cell_of (i := 1) rfl
        have d2 := R8.out.cell_of (i := 2) rfl
        have d3 := R8.out.cell_of (i := 3) rfl
        clear ho9
        go_wp2_with fail
        clear d0 d1 d2 d3
        refine (KM.out A9 cap9 _ G.out).mono ?_
        rintro e w10 ⟨A10, cap10, rfl, ho10, hb⟩
        replace E := Lib.hid (Ext.trans E.out hb)
        replace R3 := Lib.hid (R3.out.ext hb)
        have lR3 := R3.out.lt
        replace R8 := Lib.hid (R8.out.ext hb)
        have lR8 := R8.out.lt
        replace Q8 := Lib.hid (Q8.out.ext verbK_stab hb)
        replace G := Lib.hid (G.out.ext rgR_stab hb)
        clear hb
        have I := Lib.hid ((own_in (enc := intC) (R := intR) (fun _ => rfl) (by decide) ho10 (fun _ => rfl)))
        have d0 := R8.out.cell_of (i := 0) rfl
        have d1 := R8.out.cell_of (i := 1) rfl
        have d2 := R8.out.cell_of (i := 2) rfl
        have d3 := R8.out.cell_of (i := 3) rfl
        clear ho10
        obtain ⟨b10, off10, hA10, _, _⟩ := I.out.ints hnp
        subst hA10
        obtain ⟨wb, hwb⟩ : ∃ wb : World, wb = w10 := ⟨_, rfl⟩
        subst hwb
        go_wp2_with fail
        go_loopw [12, 13] (fun v12 _ wr => ∃ k : Nat, k ≤ ns.length ∧ v12 = .int .i64 k ∧ Ext wb wr) (fun v12 _ _ => ns.length - (intOf v12).toNat)
        case atStart => exact ⟨0, by omega, rfl, Ext.refl _⟩
        case round =>
          obtain ⟨k, hk, rfl, hbw⟩ := hrel
          have X := Lib.hid hbw
          clear hbw
          by_cases hkl : k < ns.length
          · have hkI : decide ((k : Int) < (ns.length : Int)) = true := by simp; omega
            have hkI2 : (k : Int) < (ns.length : Int) := by omega
            have R := Lib.hid (R8.out.ext X.out)
            have lR := R.out.lt
            have t1 : Int.tmod (k : Int) 12 = ((k % 12 : Nat) : Int) := tmod_nat k 12
            have t2 : Int.tdiv (k : Int) 12 = ((k / 12 : Nat) : Int) := by rw [Int.tdiv_eq_ediv_of_nonneg (by omega)]; simp
            have KH := Lib.hid (fun W => c_BoxHas pl pt pr pb ((k % 12 : Nat) : Int) ((k / 12 : Nat) : Int) W (by omega) (by omega))
            obtain ⟨b1', off1', hA1, _, hc1⟩ := (I.out.ext intR_stab X.out).ints hnp
            injection hA1 with hA1
            injection hA1 with ha hb'
            subst ha hb'
            have ck := hc1 k hkl
            rw [Hget.out k hkl (by have := Hn.out; omega)] at ck
            obtain ⟨hh, hhh⟩ : ∃ h, hasB (pl, pt, pr, pb) ((k % 12 : Nat) : Int) ((k / 12 : Nat) : Int) = h := ⟨_, rfl⟩
            rw [hhh] at KH ck
            have Ck := Lib.hid ck
            clear hc1 ck hhh
            clear d0 d1 d2 d3
            have cCk := Ck.out
            have d0 := R.out.cell_of (i := 0) rfl
            have d1 := R.out.cell_of (i := 1) rfl
            have d2 := R.out.cell_of (i := 2) rfl
            have d3 := R.out.cell_of (i := 3) rfl
            go_wp2_with fail
            clear cCk d0 d1 d2 d3
            refine (KH.out _).mono ?_
            rintro e w11 ⟨rfl, hb⟩
            replace X := Lib.hid (Ext.trans X.out hb)
            replace R := Lib.hid (R.out.ext hb)
            have lR := R.out.lt
            replace Ck := Lib.hid (Cls.cell hb Ck.out)
            clear hb
            have cCk := Ck.out
            have d0 := R.out.cell_of (i := 0) rfl
            have d1 := R.out.cell_of (i := 1) rfl
            have d2 := R.out.cell_of (i := 2) rfl
            have d3 := R.out.cell_of (i := 3) rfl
            cases hh
            · have ck2 := Ck.out
              simp only [Bool.false_eq_true, if_false] at ck2
              go_wp2
              go_roundw
              case rel => exact ⟨k + 1, by omega, by go_num, X.out⟩
              case measure => simp [intOf]; omega
            · have ck2 := Ck.out
              simp only [if_true] at ck2
              go_wp2
              go_roundw
              case rel => exact ⟨k + 1, by omega, by go_num, X.out⟩
              case measure => simp [intOf]; omega
          · have hkI : decide ((k : Int) < (ns.length : Int)) = false := by simp; omega
            have E2 := Lib.hid (Ext.trans E.out X.out)
            go_wp2
            go_ret
            exact ⟨rfl, E2.out⟩
  · have hnI : (1048576 : Int) < (bs.length : Int) := by omega
    clear h
    go_enter Try.func14, Try.ntmps14
    go_wp2
    go_ret
    exact ⟨rfl, Below.refl _ _⟩

theorem opens0 : Opens Try.prog 22 (slR byteR 1 ) :=  opens_slice Try.underlying22 (by kernel_rfl) (by decide) (opens_byte Try.underlying5)
set_option maxRecDepth 100000 in
theorem lifted (os : Os) (started : os.Started) (H : Type) (enc : TypeId × Value → H) :
    ReturnsInHanded {} Try.checked os 14 .any (Rows.fnBoxPathPixelsSpec.pre6 enc Try.prog Try.f14 Rows.fnBoxPathPixelsRow.domain false) (Rows.fnBoxPathPixelsSpec.post enc Try.prog Try.f14 false true false false) := by
  refine returnsInHanded_of_change (C := Try.checked) own started (by kernel_rfl) Try.func14
    (ChangeSpec.witness6 (enc := enc) (C := Try.checked) false ⟨#[], #[.slice none 0 0], []⟩ 8 (by kernel_rfl) (by kernel_rfl) (by kernel_rfl) (by kernel_rfl)) ?_
  intro W base args ds gs before hval0 hW hcnd _
  have hval : ∀ (j : Nat) t v, Try.f14.params[j]? = some t → args[j]? = some v → Value.okWide Try.prog W .any base t v := hval0
  have hW' := hW
  obtain ⟨p, q, hA0, hV, rfl, hfz, hnd⟩ := hW
  have hA : DataW.TrodAll enc Try.prog W 0 (fun _ => true) true Try.f14.params.toList args.toList ds p := hA0
  rw [Try.params14] at hA hval
  obtain ⟨v0, vs0, d0, ds0, p0, q0, hargs, rfl, rfl, h0, r0⟩ := trodAll_cons hA
  obtain ⟨rfl, rfl, rfl⟩ := trodAll_nil r0
  obtain rfl : args = #[v0] := by cases args; simp_all
  obtain ⟨rfl, rfl, rfl⟩ := trodVars_none hV
  obtain ⟨a0, len0, cap0, rfl⟩ := okWide_slice Try.underlying22 (hval 0 22 v0 rfl rfl)
  have k0 := h0
  have lt0 : ∀ x ∈ p0, x.block < W.heap.size := by obtain ⟨m, hm⟩ := k0; exact DataW.trod_lt m _ _ _ hm
  obtain ⟨xs0, rfl, w0, wl0, wc0⟩ := open_arg rfl opens0 h0
  clear hA0 hval0
  refine (walk a0 cap0 xs0 W w0 wl0 wc0).mono fun e W' ⟨he, bel⟩ => ?_
  subst he
  exact ⟨_, rfl, _, _, _, [], _, [], hW', trodAll_mk1 (shut_bool Try.underlying4 _), (trodAll_cons_mk (Below.trod laidOut (by kernel_rfl) (of_decide_eq_true (by kernel_rfl)) k0 bel lt0) trodAll_mk0), rfl, bel.frame _, fun h => by cases h⟩
theorem joinedA : joinA Try.pinned.checked.prog 14 Try.f14 Rows.fnBoxPathPixelsSpec Rows.fnBoxPathPixelsRow = true := by kernel_rfl
theorem joinedB : joinB Try.pinned.checked.prog Rows.fnBoxPathPixelsRow = true := by kernel_rfl
theorem over : Rows.fnBoxPathPixelsRow.holds Try.pinned (OpenSpec.ofChange Rows.fnBoxPathPixelsSpec) :=
  OpenClaim.holds_of_wide 14 Try.f14 rfl rfl rfl rfl rfl rfl rfl ⟨rfl, rfl, rfl, rfl, rfl⟩ rfl rfl rfl rfl rfl (by kernel_rfl) Try.func14 (joined_of joinedA joinedB)
    (of_decide_eq_true (by kernel_rfl)) (by unfold Func.isWrapper; first | (rw [if_pos (by decide +kernel)]; kernel_rfl) | (rw [if_neg (by decide +kernel)]; exact ⟨rfl, rfl⟩))
    (fun os started H enc _ => lifted os started H enc)

theorem proved : Rows.FnBoxPathPixelsSaid := over

end Go.Proofs.Ytnclnmciaehgeaa.fnBoxPathPixels

