/-
  Strokes: the walk of the program.
-/
import Derived.Test.YtjiikjkaadfalaaStrokeR
import Derived.Test.YtjiikjkaadfalaaManyJ
import Derived.Test.YtjiikjkaadfalaaClipR
namespace Go.Proofs.Ytjiikjkaadfalaa
open Go Go.RowKit Reg
attribute [local go_sem] calmAt calmUpon
set_option maxHeartbeats 1000000 in
theorem c_long (a b : Pt) (w : World) (ha : vpB a = true) (hb : vpB b = true) :
    Calls Try.prog 47 #[.agg #[.int .i64 a.1, .int .i64 a.2], .agg #[.int .i64 b.1, .int .i64 b.2]] w fun e w' => e = .returned (.int .i64 (longL a b : Nat)) ∧ Below w.heap.size w w' := by
  obtain ⟨m, hm, hm8, hmL, hL2, hx, hy⟩ := long_facts ha hb
  rw [vpB_iff] at ha hb
  have K := Lib.hid (fun W => hmL ▸ c_root m W (by omega))
  clear hmL
  go_enter Try.func47, Try.ntmps47
  go_wp2_with fail
  refine (K.out _).mono ?_
  rintro e w1 ⟨rfl, rfl⟩
  clear hm K
  go_wp2
  go_ret
  exact ⟨rfl, (by repeat (first | exact Below.refl _ _ | assumption | refine Below.drew ?_ | refine Below.alloc ?_ (by first | exact Nat.le_refl _ | omega | (simp; done) | (simp; omega)) _ | refine Below.setCell ?_ (by first | exact Nat.le_refl _ | omega | (simp; done) | (simp; omega)) _))⟩
set_option maxRecDepth 100000 in
set_option maxHeartbeats 4000000 in
theorem c_iStrokeRings (A : Option Addr) (cap : Nat) (r : Rg) (h : Int) (w : World) (hp : Pts w A r) (hl : r.length ≤ 4611686018427387904) :
    Calls Try.prog 13 #[.slice A r.length cap, .int .i64 h] w (RetStk w (strokeR r h)) := by
  obtain ⟨R, hR⟩ : ∃ R, strokeR r h = R := ⟨_, rfl⟩
  rw [hR]
  have H := Lib.hid hp
  have HW := Lib.hid hp
  have E := Lib.hid (Below.refl w.heap.size w)
  obtain ⟨d1, hd1⟩ : ∃ d, psB r = d := ⟨_, rfl⟩
  obtain ⟨d2, hd2⟩ : ∃ d, inB h 1 100 = d := ⟨_, rfl⟩
  have HR : Hid (R = if ((d1 && decide (r.length ≤ 8)) && d2) && rgsB (strokesL h r) then (strokesL h r, true) else ([], false)) := Lib.hid (by rw [← hR]; unfold strokeR strokeOk; rw [hd1, hd2])
  have H1 := Lib.hid hd1
  have H2 := Lib.hid hd2
  have KV := Lib.hid (fun W hW => c_pointsValid A cap r W hW hl)
  clear hp hR hd1 hd2
  go_enter Try.func13, Try.ntmps13
  by_cases hl8 : r.length ≤ 8
  · have hl8I : decide ((8 : Int) < (r.length : Int)) = false := by simp; omega
    go_wp2_with fail
    refine (KV.out _ H.out).mono ?_
    rw [H1.out]
    rintro e w2 ⟨rfl, hb⟩
    replace E := Lib.hid (Ext.trans E.out hb)
    replace H := Lib.hid (H.out.ext ptR_stab hb)
    clear hb
    cases d1
    · have Hf : Hid (R = ([], false)) := Lib.hid (by rw [HR.out]; simp)
      go_wp2
      go_ret2
      rw [Hf.out]; exact retStk_nil E.out
    · go_wp2_with fail
      refine (c_in h 1 100 _).mono ?_
      rw [H2.out]
      rintro e w' ⟨rfl, rfl⟩
      cases d2
      · have Hf : Hid (R = ([], false)) := Lib.hid (by rw [HR.out]; simp)
        go_wp2
        go_ret2
        rw [Hf.out]; exact retStk_nil E.out
      · have Hh : Hid (1 ≤ h ∧ h ≤ 100) := Lib.hid (by have := H2.out; simpa [inB] using this)
        have HR2 : Hid (R = if rgsB (strokesL h r) then (strokesL h r, true) else ([], false)) := Lib.hid (by rw [HR.out]; simp [hl8])
        clear hl8I
        go_wp2_with fail
        have Hv : Hid (psB r = true) := H1
        go_loopw [6, 7] (fun v i wr => ∃ (k : Nat) (A1 : Option Addr) (cap1 : Nat) (out : List Rg) (ss : List Value), (k + 1 ≤ r.length ∨ k = 0) ∧ i = .int .i64 ((k : Int) + 1) ∧ v = .slice A1 out.length cap1 ∧ out = strokesL h (r.take (k + 1)) ∧ OR wr w.heap.size (.slice A1 out.length cap1) out ss ∧ Below w.heap.size w wr) (fun _ i _ => r.length + 1 - (intOf i).toNat)
        case atStart => exact ⟨0, none, 0, [], [], .inr rfl, rfl, rfl, (strokesL_one r).symm, ORg.nil _ _ _ _, E.out⟩
        case round =>
          obtain ⟨k, A1, cap1, out, ss, hk, rfl, rfl, hout, hor, hbw⟩ := hrel
          have Hout := Lib.hid hout
          have O := Lib.hid hor
          have X := Lib.hid hbw
          have hol : out.length ≤ 8 := by rw [hout]; have := strokesL_len h (r.take (k + 1)); rw [List.length_take] at this; omega
          have hzr : w.heap.size ≤ wr.heap.size := hbw.size
          clear hout hor hbw
          by_cases hlt : k + 1 < r.length
          · have P := Lib.hid (HW.out.ext ptR_stab X.out)
            obtain ⟨b, off, hA, hbw0, hc⟩ := P.out.pts (by omega)
            subst hA
            obtain ⟨cx, cy⟩ := hc k (by omega)
            obtain ⟨dx, dy⟩ := hc (k + 1) hlt
            have Hst := Lib.hid (strokesL_take (h := h) hlt)
            have hvk : ∀ p ∈ r, vpB p = true := by have := Hv.out; simp only [psB, Bool.and_eq_true, List.all_eq_true] at this; exact this.1
            have V1 := Lib.hid (hvk _ (List.getElem_mem (show k < r.length by omega)))
            have V2 := Lib.hid (hvk _ (List.getElem_mem hlt))
            have hkI : decide ((k : Int) + 1 < (r.length : Int)) = true := by simp; omega
            have hkI2 : (k : Int) + 1 < (r.length : Int) := by omega
            have hkI3 : (k : Int) < (r.length : Int) := by omega
            have hkI4 : (0 : Int) ≤ (k : Int) + 1 := by omega
            have hkI5 : (0 : Int) ≤ (k : Int) := by omega
            have g1 : IntKind.i64.wrap (k : Int) = (k : Int) := IntWalk.i64_in _ (by omega)
            have L := Lib.hid (fun i hi g hg => (O.out.old i hi g hg).2)
            clear hc hvk hk
            generalize r[k] = p at *
            generalize r[k + 1] = q at *
            obtain ⟨p1, p2⟩ := p
            obtain ⟨q1, q2⟩ := q
            dsimp only at cx cy dx dy
            have Cx := Lib.hid cx
            have Cy := Lib.hid cy
            have Dx := Lib.hid dx
            have Dy := Lib.hid dy
            clear cx cy dx dy
            have Y := Lib.hid (Ext.refl wr)
            have cCx := Cx.out
            have cCy := Cy.out
            have cDx := Dx.out
            have cDy := Dy.out
            go_wp2_with fail
            have HW0 := Lib.hid hbw0
            refine wp_region_invJ [0,1,2,3,4,5,6,7,8] [(9, some 8), (10, some 9), (11, none), (12, none)] (by kernel_rfl) (by kernel_rfl)
              (ManyJ 9 2 wr.heap.size (fun i => if i = 0 then (p1, p2) else (q1, q2)) 36) (fun _ _ _ _ h hx => h.ext hx) ?_ ?_
            · intro vals w'
              exact ⟨fun i hi hl => by (match i, hi with
                | 0, _ | 1, _ => exact absurd hl (by decide)), fun i hi hl => by (match i, hi with
                | 0, _ | 1, _ => exact absurd hl (by decide)), fun i j hi hj _ hl => by (match i, hi with
                | 0, _ | 1, _ => exact absurd hl (by decide))⟩
            iterate 9 ((refine calm_yes rfl rfl (fun w' hC => (by have cCx := hC.cell cCx; have cCy := hC.cell cCy; have cDx := hC.cell cDx; have cDy := hC.cell cDy; go_simp; rfl)) (fun K hK => ?_); go_simp; refine hK _ ?_; clear hK K))
            refine calm_nil ?_
            clear cCx cCy cDx cDy
            refine ⟨List.forall_mem_cons.2 ⟨?_, List.forall_mem_cons.2 ⟨?_, List.forall_mem_cons.2 ⟨?_, List.forall_mem_cons.2 ⟨?_, by simp⟩⟩⟩⟩, ?_⟩
            · refine step_op rfl (fun vals => rfl) (fun listed vals w' hC hl hn hJ K hK => ?_)
              have hz : wr.heap.size ≤ w'.heap.size := hC.size
              simp only [canon, List.foldl_cons, List.foldl_nil]
              go_simp
              exact hK _ (.pointer (some ⟨w'.heap.size, 0, none⟩)) _ rfl (Below.alloc hC hC.size _) (hJ.alloc (i := 0) hz (by decide) hl (cs := [.int .i64 0, .int .i64 0]) rfl)
            · refine step_op rfl (fun vals => rfl) (fun listed vals w' hC hl hn hJ K hK => ?_)
              have hz : wr.heap.size ≤ w'.heap.size := hC.size
              simp only [canon, List.foldl_cons, List.foldl_nil]
              go_simp
              exact hK _ (.pointer (some ⟨w'.heap.size, 0, none⟩)) _ rfl (Below.alloc hC hC.size _) (hJ.alloc (i := 1) hz (by decide) hl (cs := [.int .i64 0, .int .i64 0]) rfl)
            · refine step_op rfl (fun vals => rfl) (fun listed vals w' hC hl hn hJ K hK => ?_)
              have hu := hn 9 (by kernel_rfl)
              obtain ⟨g, cs, h1, h2, h3, h4, _⟩ := hJ.at_ 0 (by decide) hu
              replace h1 : vals 9 = .pointer (some ⟨g, 0, none⟩) := h1
              match cs, h4 with
              | [c, d], _ =>
              have e0 := h3.cell_of (i := 0) rfl
              have z0 := h3.frozen 0
              have h5 := h3.set_ 0 (.int .i64 p1)
              have e1 := h5.cell_of (i := 1) rfl
              have z1 := h5.frozen 1
              have h6 := h5.set_ 1 (.int .i64 p2)
              have b1 : Below wr.drew.heap.size wr.drew (w'.setCell ⟨g, 0, none⟩ (.int .i64 p1)) := Below.setCell hC (show wr.drew.heap.size ≤ g from h2) _
              have b2 : Below wr.drew.heap.size wr.drew ((w'.setCell ⟨g, 0, none⟩ (.int .i64 p1)).setCell ⟨g, 1, none⟩ (.int .i64 p2)) := Below.setCell b1 (show wr.drew.heap.size ≤ g from h2) _
              simp only [canon, List.foldl_cons, List.foldl_nil]
              rw [h1]
              go_simp
              exact hK _ (.bool false) _ (by simp only [canon, List.foldl_cons, List.foldl_nil, h1]; rfl) b2 (hJ.store (i := 0) (by decide) hu h1 _ h6 (fun g' cs hne hrow => (hrow.far hne _).far hne _))
            · refine step_op rfl (fun vals => rfl) (fun listed vals w' hC hl hn hJ K hK => ?_)
              have hu := hn 10 (by kernel_rfl)
              obtain ⟨g, cs, h1, h2, h3, h4, _⟩ := hJ.at_ 1 (by decide) hu
              replace h1 : vals 10 = .pointer (some ⟨g, 0, none⟩) := h1
              match cs, h4 with
              | [c, d], _ =>
              have e0 := h3.cell_of (i := 0) rfl
              have z0 := h3.frozen 0
              have h5 := h3.set_ 0 (.int .i64 q1)
              have e1 := h5.cell_of (i := 1) rfl
              have z1 := h5.frozen 1
              have h6 := h5.set_ 1 (.int .i64 q2)
              have b1 : Below wr.drew.heap.size wr.drew (w'.setCell ⟨g, 0, none⟩ (.int .i64 q1)) := Below.setCell hC (show wr.drew.heap.size ≤ g from h2) _
              have b2 : Below wr.drew.heap.size wr.drew ((w'.setCell ⟨g, 0, none⟩ (.int .i64 q1)).setCell ⟨g, 1, none⟩ (.int .i64 q2)) := Below.setCell b1 (show wr.drew.heap.size ≤ g from h2) _
              simp only [canon, List.foldl_cons, List.foldl_nil]
              rw [h1]
              go_simp
              exact hK _ (.bool false) _ (by simp only [canon, List.foldl_cons, List.foldl_nil, h1]; rfl) b2 (hJ.store (i := 1) (by decide) hu h1 _ h6 (fun g' cs hne hrow => (hrow.far hne _).far hne _))
            intro listed vals w3 hb hall hJ K hK
            obtain ⟨g1, cs1, k1, gl1, r1, _, s1⟩ := hJ.at_ 0 (by decide) (hall 9 (by decide))
            obtain ⟨g2, cs2, k2, gl2, r2, _, s2⟩ := hJ.at_ 1 (by decide) (hall 10 (by decide))
            replace k1 : vals 9 = .pointer (some ⟨g1, 0, none⟩) := k1
            replace k2 : vals 10 = .pointer (some ⟨g2, 0, none⟩) := k2
            obtain rfl : cs1 = [.int .i64 p1, .int .i64 p2] := s1 (hall 11 (by decide))
            obtain rfl : cs2 = [.int .i64 q1, .int .i64 q2] := s2 (hall 12 (by decide))
            have R1 := Lib.hid r1
            have R2 := Lib.hid r2
            have lR1 := r1.lt
            have lR2 := r2.lt
            simp only [canon, List.foldl_cons, List.foldl_nil]
            rw [k1, k2]
            go_simp
            refine hK _ ?_
            clear hK K hJ hall k1 k2 s1 s2 r1 r2
            replace X := Lib.hid (Ext.trans X.out hb)
            replace P := Lib.hid (P.out.ext ptR_stab hb)
            replace O := Lib.hid (O.out.ext hb)
            replace Cx := Lib.hid (Cls.cell hb Cx.out)
            replace Cy := Lib.hid (Cls.cell hb Cy.out)
            replace Dx := Lib.hid (Cls.cell hb Dx.out)
            replace Dy := Lib.hid (Cls.cell hb Dy.out)
            replace Y := Lib.hid (Ext.trans Y.out hb)
            clear hb
            have cCx := Cx.out
            have cCy := Cy.out
            have cDx := Dx.out
            have cDy := Dy.out
            have hz3 : wr.heap.size ≤ w3.heap.size := Y.out.size
            clear cCx cCy cDx cDy
            have c0 := R1.out.cell_of (i := 0) rfl
            have c1 := R1.out.cell_of (i := 1) rfl
            have d0 := R2.out.cell_of (i := 0) rfl
            have d1 := R2.out.cell_of (i := 1) rfl
            rcases pt_cmp (p1, p2) (q1, q2) with heq | ⟨hne, hcmp⟩
            · obtain ⟨rfl, rfl⟩ : p1 = q1 ∧ p2 = q2 := by simpa using heq
              have Hst2 : Hid (strokesL h (r.take (k + 2)) = strokesL h (r.take (k + 1))) := Lib.hid (by rw [Hst.out]; simp)
              clear heq
              go_wp2
              go_roundw
              case rel => exact ⟨k + 1, A1, cap1, out, ss, by omega, by go_num, rfl, by rw [Hst2.out, Hout.out], O.out, X.out⟩
              case measure => simp [intOf]; omega
            · have Hne : Hid ((p1, p2) ≠ (q1, q2)) := Lib.hid hne
              have Hst2 : Hid (strokesL h (r.take (k + 2)) = strokesL h (r.take (k + 1)) ++ [barL (p1, p2) (q1, q2) h]) := Lib.hid (by rw [Hst.out, if_neg hne])
              dsimp only at hcmp
              clear hne
              rcases hcmp with ⟨e1, e2⟩ | ⟨e1, e2, e3, e4⟩
              · skip
                have KL := Lib.hid (fun W => c_long (p1, p2) (q1, q2) W V1.out V2.out)
                have hLp := longL_pos Hne.out
                have hL2 : longL (p1, p2) (q1, q2) ≤ 2829 := by obtain ⟨_, _, _, _, h, _, _⟩ := long_facts V1.out V2.out; exact h
                have Hb : Hid (barL (p1, p2) (q1, q2) h = barP (p1, p2) (q1, q2) (rndL ((p2 - q2) * h) (longL (p1, p2) (q1, q2)), rndL ((q1 - p1) * h) (longL (p1, p2) (q1, q2)))) := Lib.hid rfl
                have hnb := nrm_bd V1.out V2.out Hne.out Hh.out
                have v1 := vpB_iff.1 V1.out
                have v2 := vpB_iff.1 V2.out
                dsimp only at v1 v2
                obtain ⟨L', hLe⟩ : ∃ L, longL (p1, p2) (q1, q2) = L := ⟨_, rfl⟩
                have hh := Hh.out
                unfold nrmL at hnb
                dsimp only at hnb
                rw [hLe] at KL hLp hL2 Hb hnb
                have p1' := mul_bd (a := p2 - q2) (b := h) (A := 2000) (B := 100) (by omega) (by omega) (by omega) (by omega)
                have p2' := mul_bd (a := q1 - p1) (b := h) (A := 2000) (B := 100) (by omega) (by omega) (by omega) (by omega)
                have KR1 := Lib.hid (fun W => c_round ((p2 - q2) * h) L' W (by omega) (by omega) (by omega) (by omega))
                have KR2 := Lib.hid (fun W => c_round ((q1 - p1) * h) L' W (by omega) (by omega) (by omega) (by omega))
                have gw1 : IntKind.i64.wrap (p2 - q2) = p2 - q2 := IntWalk.i64_in _ (by omega)
                have gw2 : IntKind.i64.wrap (q1 - p1) = q1 - p1 := IntWalk.i64_in _ (by omega)
                have gw3 : IntKind.i64.wrap ((p2 - q2) * h) = (p2 - q2) * h := IntWalk.i64_in _ (by omega)
                have gw4 : IntKind.i64.wrap ((q1 - p1) * h) = (q1 - p1) * h := IntWalk.i64_in _ (by omega)
                clear hLe p1' p2'
                go_wp2_with fail
                refine wp_region_calm [0,1,2,3,4,5,6,7,8,9,10,11,12,13,14,15,16,17,18,19,20,21,22,23] [] (by kernel_rfl) (by kernel_rfl) ?_
                (refine calm_yes rfl rfl (fun w' hC => (by have c0 := hC.cell c0; have c1 := hC.cell c1; have d0 := hC.cell d0; have d1 := hC.cell d1; go_simp; rfl)) (fun K hK => ?_); go_simp; refine hK _ ?_; clear hK K)
                (refine calm_yes rfl rfl (fun w' hC => (by have c0 := hC.cell c0; have c1 := hC.cell c1; have d0 := hC.cell d0; have d1 := hC.cell d1; go_simp; rfl)) (fun K hK => ?_); go_simp; refine hK _ ?_; clear hK K)
                (refine calm_yes rfl rfl (fun w' hC => (by have c0 := hC.cell c0; have c1 := hC.cell c1; have d0 := hC.cell d0; have d1 := hC.cell d1; go_simp; rfl)) (fun K hK => ?_); go_simp; refine hK _ ?_; clear hK K)
                (refine calm_yes rfl rfl (fun w' hC => (by have c0 := hC.cell c0; have c1 := hC.cell c1; have d0 := hC.cell d0; have d1 := hC.cell d1; go_simp; rfl)) (fun K hK => ?_); go_simp; refine hK _ ?_; clear hK K)
                (refine calm_yes rfl rfl (fun w' hC => (by have c0 := hC.cell c0; have c1 := hC.cell c1; have d0 := hC.cell d0; have d1 := hC.cell d1; go_simp; rfl)) (fun K hK => ?_); go_simp; refine hK _ ?_; clear hK K)
                (refine calm_yes rfl rfl (fun w' hC => (by have c0 := hC.cell c0; have c1 := hC.cell c1; have d0 := hC.cell d0; have d1 := hC.cell d1; go_simp; rfl)) (fun K hK => ?_); go_simp; refine hK _ ?_; clear hK K)
                (refine calm_yes rfl rfl (fun w' hC => (by have c0 := hC.cell c0; have c1 := hC.cell c1; have d0 := hC.cell d0; have d1 := hC.cell d1; go_simp; rfl)) (fun K hK => ?_); go_simp; refine hK _ ?_; clear hK K)
                (refine calm_yes rfl rfl (fun w' hC => (by have c0 := hC.cell c0; have c1 := hC.cell c1; have d0 := hC.cell d0; have d1 := hC.cell d1; go_simp; rfl)) (fun K hK => ?_); go_simp; refine hK _ ?_; clear hK K)
                (refine calm_yes rfl rfl (fun w' hC => (by have c0 := hC.cell c0; have c1 := hC.cell c1; have d0 := hC.cell d0; have d1 := hC.cell d1; go_simp; rfl)) (fun K hK => ?_); go_simp; refine hK _ ?_; clear hK K)
                (apply calm_call rfl rfl rfl Try.func47 (by kernel_rfl) rfl (by go_simp; rfl); exact (fun w' hC => KL.out w'); intro K hK; go_simp; refine hK _ ?_; clear hK K)
                (apply calm_call rfl rfl rfl Try.func46 (by kernel_rfl) rfl (by go_simp; rfl); exact (fun w' hC => ext_of_same (KR1.out w')); intro K hK; go_simp; refine hK _ ?_; clear hK K)
                (refine calm_yes rfl rfl (fun w' hC => (by have c0 := hC.cell c0; have c1 := hC.cell c1; have d0 := hC.cell d0; have d1 := hC.cell d1; go_simp; rfl)) (fun K hK => ?_); go_simp; refine hK _ ?_; clear hK K)
                (refine calm_yes rfl rfl (fun w' hC => (by have c0 := hC.cell c0; have c1 := hC.cell c1; have d0 := hC.cell d0; have d1 := hC.cell d1; go_simp; rfl)) (fun K hK => ?_); go_simp; refine hK _ ?_; clear hK K)
                (refine calm_yes rfl rfl (fun w' hC => (by have c0 := hC.cell c0; have c1 := hC.cell c1; have d0 := hC.cell d0; have d1 := hC.cell d1; go_simp; rfl)) (fun K hK => ?_); go_simp; refine hK _ ?_; clear hK K)
                (refine calm_yes rfl rfl (fun w' hC => (by have c0 := hC.cell c0; have c1 := hC.cell c1; have d0 := hC.cell d0; have d1 := hC.cell d1; go_simp; rfl)) (fun K hK => ?_); go_simp; refine hK _ ?_; clear hK K)
                (refine calm_yes rfl rfl (fun w' hC => (by have c0 := hC.cell c0; have c1 := hC.cell c1; have d0 := hC.cell d0; have d1 := hC.cell d1; go_simp; rfl)) (fun K hK => ?_); go_simp; refine hK _ ?_; clear hK K)
                (refine calm_yes rfl rfl (fun w' hC => (by have c0 := hC.cell c0; have c1 := hC.cell c1; have d0 := hC.cell d0; have d1 := hC.cell d1; go_simp; rfl)) (fun K hK => ?_); go_simp; refine hK _ ?_; clear hK K)
                (refine calm_yes rfl rfl (fun w' hC => (by have c0 := hC.cell c0; have c1 := hC.cell c1; have d0 := hC.cell d0; have d1 := hC.cell d1; go_simp; rfl)) (fun K hK => ?_); go_simp; refine hK _ ?_; clear hK K)
                (refine calm_yes rfl rfl (fun w' hC => (by have c0 := hC.cell c0; have c1 := hC.cell c1; have d0 := hC.cell d0; have d1 := hC.cell d1; go_simp; rfl)) (fun K hK => ?_); go_simp; refine hK _ ?_; clear hK K)
                (refine calm_yes rfl rfl (fun w' hC => (by have c0 := hC.cell c0; have c1 := hC.cell c1; have d0 := hC.cell d0; have d1 := hC.cell d1; go_simp; rfl)) (fun K hK => ?_); go_simp; refine hK _ ?_; clear hK K)
                (apply calm_call rfl rfl rfl Try.func47 (by kernel_rfl) rfl (by go_simp; rfl); exact (fun w' hC => KL.out w'); intro K hK; go_simp; refine hK _ ?_; clear hK K)
                (apply calm_call rfl rfl rfl Try.func46 (by kernel_rfl) rfl (by go_simp; rfl); exact (fun w' hC => ext_of_same (KR2.out w')); intro K hK; go_simp; refine hK _ ?_; clear hK K)
                (refine calm_yes rfl rfl (fun w' hC => (by have c0 := hC.cell c0; have c1 := hC.cell c1; have d0 := hC.cell d0; have d1 := hC.cell d1; go_simp; rfl)) (fun K hK => ?_); go_simp; refine hK _ ?_; clear hK K)
                (refine calm_yes rfl rfl (fun w' hC => (by have c0 := hC.cell c0; have c1 := hC.cell c1; have d0 := hC.cell d0; have d1 := hC.cell d1; go_simp; rfl)) (fun K hK => ?_); go_simp; refine hK _ ?_; clear hK K)
                refine calm_done (fun w4 hb => ?_)
                clear c0 c1 d0 d1
                replace X := Lib.hid (Ext.trans X.out hb)
                replace O := Lib.hid (O.out.ext hb)
                replace Y := Lib.hid (Ext.trans Y.out hb)
                replace R1 := Lib.hid (R1.out.ext hb)
                have lR1 := R1.out.lt
                replace R2 := Lib.hid (R2.out.ext hb)
                have lR2 := R2.out.lt
                clear hb
                have c0 := R1.out.cell_of (i := 0) rfl
                have c1 := R1.out.cell_of (i := 1) rfl
                have d0 := R2.out.cell_of (i := 0) rfl
                have d1 := R2.out.cell_of (i := 1) rfl
                clear gw1 gw2 gw3 gw4
                have hz4 : wr.heap.size ≤ w4.heap.size := Y.out.size
                generalize rndL ((p2 - q2) * h) L' = n1 at *
                generalize rndL ((q1 - p1) * h) L' = n2 at *
                go_wp2_with (at_builtin; refine stop_in ?_)
                refine stop_out ?_
                clear c0 c1 d0 d1
                refine gen_list ?_
                intro W hW
                obtain ⟨hb, hr1, hr2⟩ := new2 hW
                clear hW
                replace X := Lib.hid (Ext.trans X.out hb)
                replace O := Lib.hid (O.out.ext hb)
                replace Y := Lib.hid (Ext.trans Y.out hb)
                replace R1 := Lib.hid (R1.out.ext hb)
                have lR1 := R1.out.lt
                replace R2 := Lib.hid (R2.out.ext hb)
                have lR2 := R2.out.lt
                clear hb
                have r1 := Lib.hid hr1
                have lr1 := r1.out.lt
                clear hr1
                have r2 := Lib.hid hr2
                have lr2 := r2.out.lt
                clear hr2
                have c0 := R1.out.cell_of (i := 0) rfl
                have c1 := R1.out.cell_of (i := 1) rfl
                have d0 := R2.out.cell_of (i := 0) rfl
                have d1 := R2.out.cell_of (i := 1) rfl
                have hzW : wr.heap.size ≤ W.heap.size := Y.out.size
                refine wpList_app (base := w.heap.size) ei_rg rfl (.tmp 65) (.tmp 103) rfl rfl O.out.out rfl ((own_of_row (B := 0) (sz := 1) (n := 1) r2.out (by omega) rfl (by decide)).src (by intro u hu; simp at hu; subst hu; rfl)) (by omega) (by omega) ?_
                intro ve wf hown hg hat
                have ho4 : Has W w.heap.size 36 2 (.slice (some ⟨w4.heap.size, 0, none⟩) 4 4) (barL (p1, p2) (q1, q2) h).length ((barL (p1, p2) (q1, q2) h).flatMap ptC) := by
                  rw [Hb.out]; exact own_of_row (n := 4) r1.out (by omega) rfl (by decide)
                have O3 := Lib.hid (O.out.push (b := wr.heap.size) TP_ne_TR ho4 L.out (fun g hg => by simp [Value.ownBlock] at hg; omega) hown hg)
                have X3 := Lib.hid (own_below X.out O.out.out hg (by omega))
                obtain ⟨A3, cap3, hve⟩ := own_form hown
                clear hown hg hat ho4
                clear c0 c1 d0 d1
                subst hve
                go_wp2
                go_roundw
                case rel => exact ⟨k + 1, A3, cap3, out ++ [barL (p1, p2) (q1, q2) h], _, by omega, by go_num, by rw [List.length_append]; rfl, by rw [Hst2.out, Hout.out], or_lens O3.out, X3.out⟩
                case measure => simp [intOf]; omega
              · skip
                have KL := Lib.hid (fun W => c_long (p1, p2) (q1, q2) W V1.out V2.out)
                have hLp := longL_pos Hne.out
                have hL2 : longL (p1, p2) (q1, q2) ≤ 2829 := by obtain ⟨_, _, _, _, h, _, _⟩ := long_facts V1.out V2.out; exact h
                have Hb : Hid (barL (p1, p2) (q1, q2) h = barP (p1, p2) (q1, q2) (rndL ((p2 - q2) * h) (longL (p1, p2) (q1, q2)), rndL ((q1 - p1) * h) (longL (p1, p2) (q1, q2)))) := Lib.hid rfl
                have hnb := nrm_bd V1.out V2.out Hne.out Hh.out
                have v1 := vpB_iff.1 V1.out
                have v2 := vpB_iff.1 V2.out
                dsimp only at v1 v2
                obtain ⟨L', hLe⟩ : ∃ L, longL (p1, p2) (q1, q2) = L := ⟨_, rfl⟩
                have hh := Hh.out
                unfold nrmL at hnb
                dsimp only at hnb
                rw [hLe] at KL hLp hL2 Hb hnb
                have p1' := mul_bd (a := p2 - q2) (b := h) (A := 2000) (B := 100) (by omega) (by omega) (by omega) (by omega)
                have p2' := mul_bd (a := q1 - p1) (b := h) (A := 2000) (B := 100) (by omega) (by omega) (by omega) (by omega)
                have KR1 := Lib.hid (fun W => c_round ((p2 - q2) * h) L' W (by omega) (by omega) (by omega) (by omega))
                have KR2 := Lib.hid (fun W => c_round ((q1 - p1) * h) L' W (by omega) (by omega) (by omega) (by omega))
                have gw1 : IntKind.i64.wrap (p2 - q2) = p2 - q2 := IntWalk.i64_in _ (by omega)
                have gw2 : IntKind.i64.wrap (q1 - p1) = q1 - p1 := IntWalk.i64_in _ (by omega)
                have gw3 : IntKind.i64.wrap ((p2 - q2) * h) = (p2 - q2) * h := IntWalk.i64_in _ (by omega)
                have gw4 : IntKind.i64.wrap ((q1 - p1) * h) = (q1 - p1) * h := IntWalk.i64_in _ (by omega)
                clear hLe p1' p2'
                go_wp2_with fail
                refine wp_region_calm [0,1,2,3,4,5,6,7,8,9,10,11,12,13,14,15,16,17,18,19,20,21,22,23] [] (by kernel_rfl) (by kernel_rfl) ?_
                (refine calm_yes rfl rfl (fun w' hC => (by have c0 := hC.cell c0; have c1 := hC.cell c1; have d0 := hC.cell d0; have d1 := hC.cell d1; go_simp; rfl)) (fun K hK => ?_); go_simp; refine hK _ ?_; clear hK K)
                (refine calm_yes rfl rfl (fun w' hC => (by have c0 := hC.cell c0; have c1 := hC.cell c1; have d0 := hC.cell d0; have d1 := hC.cell d1; go_simp; rfl)) (fun K hK => ?_); go_simp; refine hK _ ?_; clear hK K)
                (refine calm_yes rfl rfl (fun w' hC => (by have c0 := hC.cell c0; have c1 := hC.cell c1; have d0 := hC.cell d0; have d1 := hC.cell d1; go_simp; rfl)) (fun K hK => ?_); go_simp; refine hK _ ?_; clear hK K)
                (refine calm_yes rfl rfl (fun w' hC => (by have c0 := hC.cell c0; have c1 := hC.cell c1; have d0 := hC.cell d0; have d1 := hC.cell d1; go_simp; rfl)) (fun K hK => ?_); go_simp; refine hK _ ?_; clear hK K)
                (refine calm_yes rfl rfl (fun w' hC => (by have c0 := hC.cell c0; have c1 := hC.cell c1; have d0 := hC.cell d0; have d1 := hC.cell d1; go_simp; rfl)) (fun K hK => ?_); go_simp; refine hK _ ?_; clear hK K)
                (refine calm_yes rfl rfl (fun w' hC => (by have c0 := hC.cell c0; have c1 := hC.cell c1; have d0 := hC.cell d0; have d1 := hC.cell d1; go_simp; rfl)) (fun K hK => ?_); go_simp; refine hK _ ?_; clear hK K)
                (refine calm_yes rfl rfl (fun w' hC => (by have c0 := hC.cell c0; have c1 := hC.cell c1; have d0 := hC.cell d0; have d1 := hC.cell d1; go_simp; rfl)) (fun K hK => ?_); go_simp; refine hK _ ?_; clear hK K)
                (refine calm_yes rfl rfl (fun w' hC => (by have c0 := hC.cell c0; have c1 := hC.cell c1; have d0 := hC.cell d0; have d1 := hC.cell d1; go_simp; rfl)) (fun K hK => ?_); go_simp; refine hK _ ?_; clear hK K)
                (refine calm_yes rfl rfl (fun w' hC => (by have c0 := hC.cell c0; have c1 := hC.cell c1; have d0 := hC.cell d0; have d1 := hC.cell d1; go_simp; rfl)) (fun K hK => ?_); go_simp; refine hK _ ?_; clear hK K)
                (apply calm_call rfl rfl rfl Try.func47 (by kernel_rfl) rfl (by go_simp; rfl); exact (fun w' hC => KL.out w'); intro K hK; go_simp; refine hK _ ?_; clear hK K)
                (apply calm_call rfl rfl rfl Try.func46 (by kernel_rfl) rfl (by go_simp; rfl); exact (fun w' hC => ext_of_same (KR1.out w')); intro K hK; go_simp; refine hK _ ?_; clear hK K)
                (refine calm_yes rfl rfl (fun w' hC => (by have c0 := hC.cell c0; have c1 := hC.cell c1; have d0 := hC.cell d0; have d1 := hC.cell d1; go_simp; rfl)) (fun K hK => ?_); go_simp; refine hK _ ?_; clear hK K)
                (refine calm_yes rfl rfl (fun w' hC => (by have c0 := hC.cell c0; have c1 := hC.cell c1; have d0 := hC.cell d0; have d1 := hC.cell d1; go_simp; rfl)) (fun K hK => ?_); go_simp; refine hK _ ?_; clear hK K)
                (refine calm_yes rfl rfl (fun w' hC => (by have c0 := hC.cell c0; have c1 := hC.cell c1; have d0 := hC.cell d0; have d1 := hC.cell d1; go_simp; rfl)) (fun K hK => ?_); go_simp; refine hK _ ?_; clear hK K)
                (refine calm_yes rfl rfl (fun w' hC => (by have c0 := hC.cell c0; have c1 := hC.cell c1; have d0 := hC.cell d0; have d1 := hC.cell d1; go_simp; rfl)) (fun K hK => ?_); go_simp; refine hK _ ?_; clear hK K)
                (refine calm_yes rfl rfl (fun w' hC => (by have c0 := hC.cell c0; have c1 := hC.cell c1; have d0 := hC.cell d0; have d1 := hC.cell d1; go_simp; rfl)) (fun K hK => ?_); go_simp; refine hK _ ?_; clear hK K)
                (refine calm_yes rfl rfl (fun w' hC => (by have c0 := hC.cell c0; have c1 := hC.cell c1; have d0 := hC.cell d0; have d1 := hC.cell d1; go_simp; rfl)) (fun K hK => ?_); go_simp; refine hK _ ?_; clear hK K)
                (refine calm_yes rfl rfl (fun w' hC => (by have c0 := hC.cell c0; have c1 := hC.cell c1; have d0 := hC.cell d0; have d1 := hC.cell d1; go_simp; rfl)) (fun K hK => ?_); go_simp; refine hK _ ?_; clear hK K)
                (refine calm_yes rfl rfl (fun w' hC => (by have c0 := hC.cell c0; have c1 := hC.cell c1; have d0 := hC.cell d0; have d1 := hC.cell d1; go_simp; rfl)) (fun K hK => ?_); go_simp; refine hK _ ?_; clear hK K)
                (refine calm_yes rfl rfl (fun w' hC => (by have c0 := hC.cell c0; have c1 := hC.cell c1; have d0 := hC.cell d0; have d1 := hC.cell d1; go_simp; rfl)) (fun K hK => ?_); go_simp; refine hK _ ?_; clear hK K)
                (apply calm_call rfl rfl rfl Try.func47 (by kernel_rfl) rfl (by go_simp; rfl); exact (fun w' hC => KL.out w'); intro K hK; go_simp; refine hK _ ?_; clear hK K)
                (apply calm_call rfl rfl rfl Try.func46 (by kernel_rfl) rfl (by go_simp; rfl); exact (fun w' hC => ext_of_same (KR2.out w')); intro K hK; go_simp; refine hK _ ?_; clear hK K)
                (refine calm_yes rfl rfl (fun w' hC => (by have c0 := hC.cell c0; have c1 := hC.cell c1; have d0 := hC.cell d0; have d1 := hC.cell d1; go_simp; rfl)) (fun K hK => ?_); go_simp; refine hK _ ?_; clear hK K)
                (refine calm_yes rfl rfl (fun w' hC => (by have c0 := hC.cell c0; have c1 := hC.cell c1; have d0 := hC.cell d0; have d1 := hC.cell d1; go_simp; rfl)) (fun K hK => ?_); go_simp; refine hK _ ?_; clear hK K)
                refine calm_done (fun w4 hb => ?_)
                clear c0 c1 d0 d1
                replace X := Lib.hid (Ext.trans X.out hb)
                replace O := Lib.hid (O.out.ext hb)
                replace Y := Lib.hid (Ext.trans Y.out hb)
                replace R1 := Lib.hid (R1.out.ext hb)
                have lR1 := R1.out.lt
                replace R2 := Lib.hid (R2.out.ext hb)
                have lR2 := R2.out.lt
                clear hb
                have c0 := R1.out.cell_of (i := 0) rfl
                have c1 := R1.out.cell_of (i := 1) rfl
                have d0 := R2.out.cell_of (i := 0) rfl
                have d1 := R2.out.cell_of (i := 1) rfl
                clear gw1 gw2 gw3 gw4
                have hz4 : wr.heap.size ≤ w4.heap.size := Y.out.size
                generalize rndL ((p2 - q2) * h) L' = n1 at *
                generalize rndL ((q1 - p1) * h) L' = n2 at *
                go_wp2_with (at_builtin; refine stop_in ?_)
                refine stop_out ?_
                clear c0 c1 d0 d1
                refine gen_list ?_
                intro W hW
                obtain ⟨hb, hr1, hr2⟩ := new2 hW
                clear hW
                replace X := Lib.hid (Ext.trans X.out hb)
                replace O := Lib.hid (O.out.ext hb)
                replace Y := Lib.hid (Ext.trans Y.out hb)
                replace R1 := Lib.hid (R1.out.ext hb)
                have lR1 := R1.out.lt
                replace R2 := Lib.hid (R2.out.ext hb)
                have lR2 := R2.out.lt
                clear hb
                have r1 := Lib.hid hr1
                have lr1 := r1.out.lt
                clear hr1
                have r2 := Lib.hid hr2
                have lr2 := r2.out.lt
                clear hr2
                have c0 := R1.out.cell_of (i := 0) rfl
                have c1 := R1.out.cell_of (i := 1) rfl
                have d0 := R2.out.cell_of (i := 0) rfl
                have d1 := R2.out.cell_of (i := 1) rfl
                have hzW : wr.heap.size ≤ W.heap.size := Y.out.size
                refine wpList_app (base := w.heap.size) ei_rg rfl (.tmp 65) (.tmp 103) rfl rfl O.out.out rfl ((own_of_row (B := 0) (sz := 1) (n := 1) r2.out (by omega) rfl (by decide)).src (by intro u hu; simp at hu; subst hu; rfl)) (by omega) (by omega) ?_
                intro ve wf hown hg hat
                have ho4 : Has W w.heap.size 36 2 (.slice (some ⟨w4.heap.size, 0, none⟩) 4 4) (barL (p1, p2) (q1, q2) h).length ((barL (p1, p2) (q1, q2) h).flatMap ptC) := by
                  rw [Hb.out]; exact own_of_row (n := 4) r1.out (by omega) rfl (by decide)
                have O3 := Lib.hid (O.out.push (b := wr.heap.size) TP_ne_TR ho4 L.out (fun g hg => by simp [Value.ownBlock] at hg; omega) hown hg)
                have X3 := Lib.hid (own_below X.out O.out.out hg (by omega))
                obtain ⟨A3, cap3, hve⟩ := own_form hown
                clear hown hg hat ho4
                clear c0 c1 d0 d1
                subst hve
                go_wp2
                go_roundw
                case rel => exact ⟨k + 1, A3, cap3, out ++ [barL (p1, p2) (q1, q2) h], _, by omega, by go_num, by rw [List.length_append]; rfl, by rw [Hst2.out, Hout.out], or_lens O3.out, X3.out⟩
                case measure => simp [intOf]; omega
          · have hf : out = strokesL h r := by
              rw [Hout.out]
              rcases hk with hk | hk
              · rw [List.take_of_length_le (by omega)]
              · rw [List.take_of_length_le (by omega)]
            have Hf := Lib.hid hf
            have hge : decide ((k : Int) + 1 < (r.length : Int)) = false := by simp; omega
            obtain ⟨d3, hd3⟩ : ∃ d, rgsB out = d := ⟨_, rfl⟩
            have H3 := Lib.hid hd3
            have P : Hid (Rgs wr A1 out) := Lib.hid O.out.in_
            have KV2 := Lib.hid (fun W hW => c_iValidRings A1 cap1 out W hW (by omega) (fun q hq => by rw [hf] at hq; have := strokesL_four h r q hq; omega))
            clear hf hd3 hk
            go_wp2_with fail
            refine (KV2.out _ P.out).mono ?_
            rw [H3.out]
            rintro e w5 ⟨rfl, hb⟩
            replace X := Lib.hid (Ext.trans X.out hb)
            replace P := Lib.hid (P.out.ext rgR_stab hb)
            replace O := Lib.hid (O.out.ext hb)
            clear hb
            cases d3
            · have Hff : Hid (R = ([], false)) := Lib.hid (by rw [HR2.out, ← Hf.out, H3.out]; simp)
              go_wp2
              go_ret2
              rw [Hff.out]; exact retStk_nil X.out
            · have Hff : Hid (R = (out, true)) := Lib.hid (by rw [HR2.out, ← Hf.out, H3.out]; simp)
              go_wp2_with fail
              refine (c_ClipR A1 out.length cap1 _ O.out.out.slok).mono ?_
              rintro e w' ⟨rfl, rfl⟩
              go_wp2
              go_ret2
              rw [Hff.out]; exact ⟨A1, out.length, ss, rfl, ⟨O.out.len, O.out.out.clip, O.out.inn, O.out.nd⟩, X.out⟩
  · have hl8I : decide ((8 : Int) < (r.length : Int)) = true := by simp; omega
    have Hf : Hid (R = ([], false)) := Lib.hid (by rw [HR.out]; simp [hl8])
    go_wp2
    go_ret2
    rw [Hf.out]; exact retStk_nil E.out
end Go.Proofs.Ytjiikjkaadfalaa
