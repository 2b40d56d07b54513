/-
  Strokes: the walk of the reference.
-/
import Derived.Test.YtjiikjkaadfalaaStrokeS
import Derived.Test.YtjiikjkaadfalaaRegionL
import Derived.Test.YtjiikjkaadfalaaBox
namespace Go.Proofs.Ytjiikjkaadfalaa
open Go Go.RowKit Reg
attribute [local go_sem] calmAt calmUpon
/-- Polygons and whether they are any, in rows of their own. -/
def RetStk (w : World) (R : List Rg × Bool) (e : Ending) (w' : World) : Prop := ∃ A' cap' ss, e = .returned (.tuple #[.slice A' R.1.length cap', .bool R.2]) ∧ OR w' w.heap.size (.slice A' R.1.length cap') R.1 ss ∧ Below w.heap.size w w'
theorem retStk_nil {w w' : World} (h : Below w.heap.size w w') : RetStk w ([], false) (.returned (.tuple #[.slice none 0 0, .bool false])) w' := ⟨none, 0, [], rfl, ORg.nil _ _ _ _, h⟩
theorem pt_cmp (p q : Pt) : (p = q) ∨ (p ≠ q ∧ (((p.1 == q.1) = false ∧ (p.1 = q.1) = False) ∨ ((p.1 == q.1) = true ∧ (p.2 == q.2) = false ∧ (p.1 = q.1) = True ∧ (p.2 = q.2) = False))) := by
  by_cases h : p = q
  · exact .inl h
  · refine .inr ⟨h, ?_⟩
    by_cases h1 : p.1 = q.1
    · right
      have h2 : p.2 ≠ q.2 := fun h2 => h (Prod.ext h1 h2)
      exact ⟨by simp [h1], by simp [h2], by simp [h1], by simp [h2]⟩
    · left; exact ⟨by simp [h1], by simp [h1]⟩
theorem or_lens {w : World} {B cap : Nat} {A : Option Addr} {rs : List Rg} {r : Rg} {ss : List Value} (h : OR w B (.slice A (rs.length + 1) cap) (rs ++ [r]) ss) : OR w B (.slice A (rs ++ [r]).length cap) (rs ++ [r]) ss := by
  rw [List.length_append]; exact h
set_option maxRecDepth 100000 in
set_option maxHeartbeats 4000000 in
theorem c_sStrokeRings (A : Option Addr) (cap : Nat) (r : Rg) (h : Int) (w : World) (hp : Pts w A r) (hl : r.length ≤ 4611686018427387904) :
    Calls Try.prog 14 #[.slice A r.length cap, .int .i64 h] w (RetStk w (strokeR r h)) := by
  obtain ⟨R, hR⟩ : ∃ R, strokeR r h = R := ⟨_, rfl⟩
  rw [hR]
  have H := Lib.hid hp
  have HW := Lib.hid hp
  have E := Lib.hid (Below.refl w.heap.size w)
  obtain ⟨d1, hd1⟩ : ∃ d, psB r = d := ⟨_, rfl⟩
  obtain ⟨d2, hd2⟩ : ∃ d, inB h 1 100 = d := ⟨_, rfl⟩
  have HR : Hid (R = if ((d1 && decide (r.length ≤ 8)) && d2) && rgsB (strokesL h r) then (strokesL h r, true) else ([], false)) := Lib.hid (by rw [← hR]; unfold strokeR strokeOk; rw [hd1, hd2])
  have H1 := Lib.hid hd1
  have H2 := Lib.hid hd2
  have KV := Lib.hid (fun W hW => c_validPoints A cap r W hW hl)
  clear hp hR hd1 hd2
  go_enter Try.func14, Try.ntmps14
  go_wp2_with fail
  first | refine gen_calls ?_ | refine gen_code ?_ | refine gen_list ?_
  intro w1 hW
  obtain ⟨hb, hR0⟩ := new1 hW
  clear hW
  replace E := Lib.hid (Ext.trans E.out hb)
  replace H := Lib.hid (H.out.ext ptR_stab hb)
  clear hb
  have R0 := Lib.hid hR0
  have lR0 := R0.out.lt
  clear hR0
  have O0 : Hid (OR w1 w.heap.size (.slice (some ⟨w.heap.size, 0, none⟩) 0 0) [] []) := Lib.hid ⟨rfl, own_of_row (n := 0) (B := w.heap.size) (sz := 1) R0.out (Nat.le_refl _) rfl (by decide), fun i hi => by simp at hi, fun i j hi => by simp at hi⟩
  go_wp2_with fail
  refine (KV.out _ H.out).mono ?_
  rw [H1.out]
  rintro e w2 ⟨rfl, hb⟩
  replace E := Lib.hid (Ext.trans E.out hb)
  replace H := Lib.hid (H.out.ext ptR_stab hb)
  replace R0 := Lib.hid (R0.out.ext hb)
  have lR0 := R0.out.lt
  replace O0 := Lib.hid (O0.out.ext hb)
  clear hb
  cases d1
  · have Hf : Hid (R = ([], false)) := Lib.hid (by rw [HR.out]; simp)
    go_wp2
    go_ret2
    rw [Hf.out]; exact retStk_nil E.out
  · by_cases hl8 : r.length ≤ 8
    · have hl8I : decide ((8 : Int) < (r.length : Int)) = false := by simp; omega
      go_wp2_with fail
      refine (c_inRange h 1 100 _).mono ?_
      rw [H2.out]
      rintro e w' ⟨rfl, rfl⟩
      cases d2
      · have Hf : Hid (R = ([], false)) := Lib.hid (by rw [HR.out]; simp)
        go_wp2
        go_ret2
        rw [Hf.out]; exact retStk_nil E.out
      · have Hh : Hid (1 ≤ h ∧ h ≤ 100) := Lib.hid (by have := H2.out; simpa [inB] using this)
        have HR2 : Hid (R = if rgsB (strokesL h r) then (strokesL h r, true) else ([], false)) := Lib.hid (by rw [HR.out]; simp [hl8])
        clear hl8I
        go_wp2_with fail
        have Hv : Hid (psB r = true) := H1
        go_loopw [6, 7] (fun v i wr => ∃ (k : Nat) (A1 : Option Addr) (cap1 : Nat) (out : List Rg) (ss : List Value), (k + 1 ≤ r.length ∨ k = 0) ∧ i = .int .i64 ((k : Int) + 1) ∧ v = .slice A1 out.length cap1 ∧ out = strokesL h (r.take (k + 1)) ∧ OR wr w.heap.size (.slice A1 out.length cap1) out ss ∧ Below w.heap.size w wr) (fun _ i _ => r.length + 1 - (intOf i).toNat)
        case atStart => exact ⟨0, _, 0, [], [], .inr rfl, rfl, rfl, (strokesL_one r).symm, O0.out, E.out⟩
        case round =>
          obtain ⟨k, A1, cap1, out, ss, hk, rfl, rfl, hout, hor, hbw⟩ := hrel
          have Hout := Lib.hid hout
          have O := Lib.hid hor
          have X := Lib.hid hbw
          have hol : out.length ≤ 8 := by rw [hout]; have := strokesL_len h (r.take (k + 1)); rw [List.length_take] at this; omega
          have hzr : w.heap.size ≤ wr.heap.size := hbw.size
          clear hout hor hbw
          by_cases hlt : k + 1 < r.length
          · have P := Lib.hid (HW.out.ext ptR_stab X.out)
            obtain ⟨b, off, hA, hbz, hc⟩ := P.out.pts (by omega)
            subst hA
            obtain ⟨cx, cy⟩ := hc k (by omega)
            obtain ⟨dx, dy⟩ := hc (k + 1) hlt
            have Hst := Lib.hid (strokesL_take (h := h) hlt)
            have hvk : ∀ p ∈ r, vpB p = true := by have := Hv.out; simp only [psB, Bool.and_eq_true, List.all_eq_true] at this; exact this.1
            have V1 := Lib.hid (hvk _ (List.getElem_mem (show k < r.length by omega)))
            have V2 := Lib.hid (hvk _ (List.getElem_mem hlt))
            have hkI : decide ((k : Int) + 1 < (r.length : Int)) = true := by simp; omega
            have hkI2 : (k : Int) + 1 < (r.length : Int) := by omega
            have hkI3 : (k : Int) < (r.length : Int) := by omega
            have hkI4 : (0 : Int) ≤ (k : Int) + 1 := by omega
            have hkI5 : (0 : Int) ≤ (k : Int) := by omega
            have g1 : IntKind.i64.wrap (k : Int) = (k : Int) := IntWalk.i64_in _ (by omega)
            have L := Lib.hid (fun i hi g hg => (O.out.old i hi g hg).2)
            clear hc hvk hk
            generalize r[k] = p at *
            generalize r[k + 1] = q at *
            obtain ⟨p1, p2⟩ := p
            obtain ⟨q1, q2⟩ := q
            dsimp only at cx cy dx dy
            have Cx := Lib.hid cx
            have Cy := Lib.hid cy
            have Dx := Lib.hid dx
            have Dy := Lib.hid dy
            clear cx cy dx dy
            rcases pt_cmp (q1, q2) (p1, p2) with heq | ⟨hne, hcmp⟩
            · obtain ⟨rfl, rfl⟩ : q1 = p1 ∧ q2 = p2 := by simpa using heq
              have Hst2 : Hid (strokesL h (r.take (k + 2)) = strokesL h (r.take (k + 1))) := Lib.hid (by rw [Hst.out]; simp)
              clear heq
              have cCx := Cx.out
              have cCy := Cy.out
              have cDx := Dx.out
              have cDy := Dy.out
              go_wp2_with fail
              refine wp_region_calm [0,1,2,3,4,5,6,7,8,9] [] (by kernel_rfl) (by kernel_rfl) ?_
              (refine calm_yes rfl rfl (fun w' hC => (by have cCx := hC.cell cCx; have cCy := hC.cell cCy; have cDx := hC.cell cDx; have cDy := hC.cell cDy; go_simp; rfl)) (fun K hK => ?_); go_simp; refine hK _ ?_; clear hK K)
              (refine calm_yes rfl rfl (fun w' hC => (by have cCx := hC.cell cCx; have cCy := hC.cell cCy; have cDx := hC.cell cDx; have cDy := hC.cell cDy; go_simp; rfl)) (fun K hK => ?_); go_simp; refine hK _ ?_; clear hK K)
              (refine calm_yes rfl rfl (fun w' hC => (by have cCx := hC.cell cCx; have cCy := hC.cell cCy; have cDx := hC.cell cDx; have cDy := hC.cell cDy; go_simp; rfl)) (fun K hK => ?_); go_simp; refine hK _ ?_; clear hK K)
              (refine calm_yes rfl rfl (fun w' hC => (by have cCx := hC.cell cCx; have cCy := hC.cell cCy; have cDx := hC.cell cDx; have cDy := hC.cell cDy; go_simp; rfl)) (fun K hK => ?_); go_simp; refine hK _ ?_; clear hK K)
              (refine calm_yes rfl rfl (fun w' hC => (by have cCx := hC.cell cCx; have cCy := hC.cell cCy; have cDx := hC.cell cDx; have cDy := hC.cell cDy; go_simp; rfl)) (fun K hK => ?_); go_simp; refine hK _ ?_; clear hK K)
              (refine calm_yes rfl rfl (fun w' hC => (by have cCx := hC.cell cCx; have cCy := hC.cell cCy; have cDx := hC.cell cDx; have cDy := hC.cell cDy; go_simp; rfl)) (fun K hK => ?_); go_simp; refine hK _ ?_; clear hK K)
              (refine calm_yes rfl rfl (fun w' hC => (by have cCx := hC.cell cCx; have cCy := hC.cell cCy; have cDx := hC.cell cDx; have cDy := hC.cell cDy; go_simp; rfl)) (fun K hK => ?_); go_simp; refine hK _ ?_; clear hK K)
              (refine calm_yes rfl rfl (fun w' hC => (by have cCx := hC.cell cCx; have cCy := hC.cell cCy; have cDx := hC.cell cDx; have cDy := hC.cell cDy; go_simp; rfl)) (fun K hK => ?_); go_simp; refine hK _ ?_; clear hK K)
              (refine calm_yes rfl rfl (fun w' hC => (by have cCx := hC.cell cCx; have cCy := hC.cell cCy; have cDx := hC.cell cDx; have cDy := hC.cell cDy; go_simp; rfl)) (fun K hK => ?_); go_simp; refine hK _ ?_; clear hK K)
              (refine calm_yes rfl rfl (fun w' hC => (by have cCx := hC.cell cCx; have cCy := hC.cell cCy; have cDx := hC.cell cDx; have cDy := hC.cell cDy; go_simp; rfl)) (fun K hK => ?_); go_simp; refine hK _ ?_; clear hK K)
              refine calm_done (fun w3 hb => ?_)
              clear cCx cCy cDx cDy
              replace X := Lib.hid (Ext.trans X.out hb)
              replace P := Lib.hid (P.out.ext ptR_stab hb)
              replace O := Lib.hid (O.out.ext hb)
              replace Cx := Lib.hid (Cls.cell hb Cx.out)
              replace Cy := Lib.hid (Cls.cell hb Cy.out)
              replace Dx := Lib.hid (Cls.cell hb Dx.out)
              replace Dy := Lib.hid (Cls.cell hb Dy.out)
              clear hb
              have cCx := Cx.out
              have cCy := Cy.out
              have cDx := Dx.out
              have cDy := Dy.out
              go_wp2
              go_roundw
              case rel => exact ⟨k + 1, A1, cap1, out, ss, by omega, by go_num, rfl, by rw [Hst2.out, Hout.out], O.out, X.out⟩
              case measure => simp [intOf]; omega
            · have Hne : Hid ((p1, p2) ≠ (q1, q2)) := Lib.hid (Ne.symm hne)
              have Hst2 : Hid (strokesL h (r.take (k + 2)) = strokesL h (r.take (k + 1)) ++ [barL (p1, p2) (q1, q2) h]) := Lib.hid (by rw [Hst.out, if_neg (Ne.symm hne)])
              dsimp only at hcmp
              clear hne
              rcases hcmp with ⟨e1, e2⟩ | ⟨e1, e2, e3, e4⟩
              · skip
                have Y := Lib.hid (Ext.refl wr)
                have cCx := Cx.out
                have cCy := Cy.out
                have cDx := Dx.out
                have cDy := Dy.out
                go_wp2_with fail
                refine wp_region_calm [0,1,2,3,4,5,6,7,8,9] [] (by kernel_rfl) (by kernel_rfl) ?_
                (refine calm_yes rfl rfl (fun w' hC => (by have cCx := hC.cell cCx; have cCy := hC.cell cCy; have cDx := hC.cell cDx; have cDy := hC.cell cDy; go_simp; rfl)) (fun K hK => ?_); go_simp; refine hK _ ?_; clear hK K)
                (refine calm_yes rfl rfl (fun w' hC => (by have cCx := hC.cell cCx; have cCy := hC.cell cCy; have cDx := hC.cell cDx; have cDy := hC.cell cDy; go_simp; rfl)) (fun K hK => ?_); go_simp; refine hK _ ?_; clear hK K)
                (refine calm_yes rfl rfl (fun w' hC => (by have cCx := hC.cell cCx; have cCy := hC.cell cCy; have cDx := hC.cell cDx; have cDy := hC.cell cDy; go_simp; rfl)) (fun K hK => ?_); go_simp; refine hK _ ?_; clear hK K)
                (refine calm_yes rfl rfl (fun w' hC => (by have cCx := hC.cell cCx; have cCy := hC.cell cCy; have cDx := hC.cell cDx; have cDy := hC.cell cDy; go_simp; rfl)) (fun K hK => ?_); go_simp; refine hK _ ?_; clear hK K)
                (refine calm_yes rfl rfl (fun w' hC => (by have cCx := hC.cell cCx; have cCy := hC.cell cCy; have cDx := hC.cell cDx; have cDy := hC.cell cDy; go_simp; rfl)) (fun K hK => ?_); go_simp; refine hK _ ?_; clear hK K)
                (refine calm_yes rfl rfl (fun w' hC => (by have cCx := hC.cell cCx; have cCy := hC.cell cCy; have cDx := hC.cell cDx; have cDy := hC.cell cDy; go_simp; rfl)) (fun K hK => ?_); go_simp; refine hK _ ?_; clear hK K)
                (refine calm_yes rfl rfl (fun w' hC => (by have cCx := hC.cell cCx; have cCy := hC.cell cCy; have cDx := hC.cell cDx; have cDy := hC.cell cDy; go_simp; rfl)) (fun K hK => ?_); go_simp; refine hK _ ?_; clear hK K)
                (refine calm_yes rfl rfl (fun w' hC => (by have cCx := hC.cell cCx; have cCy := hC.cell cCy; have cDx := hC.cell cDx; have cDy := hC.cell cDy; go_simp; rfl)) (fun K hK => ?_); go_simp; refine hK _ ?_; clear hK K)
                (refine calm_yes rfl rfl (fun w' hC => (by have cCx := hC.cell cCx; have cCy := hC.cell cCy; have cDx := hC.cell cDx; have cDy := hC.cell cDy; go_simp; rfl)) (fun K hK => ?_); go_simp; refine hK _ ?_; clear hK K)
                (refine calm_yes rfl rfl (fun w' hC => (by have cCx := hC.cell cCx; have cCy := hC.cell cCy; have cDx := hC.cell cDx; have cDy := hC.cell cDy; go_simp; rfl)) (fun K hK => ?_); go_simp; refine hK _ ?_; clear hK K)
                refine calm_done (fun w3 hb => ?_)
                clear cCx cCy cDx cDy
                replace X := Lib.hid (Ext.trans X.out hb)
                replace P := Lib.hid (P.out.ext ptR_stab hb)
                replace O := Lib.hid (O.out.ext hb)
                replace Cx := Lib.hid (Cls.cell hb Cx.out)
                replace Cy := Lib.hid (Cls.cell hb Cy.out)
                replace Dx := Lib.hid (Cls.cell hb Dx.out)
                replace Dy := Lib.hid (Cls.cell hb Dy.out)
                replace Y := Lib.hid (Ext.trans Y.out hb)
                clear hb
                have cCx := Cx.out
                have cCy := Cy.out
                have cDx := Dx.out
                have cDy := Dy.out
                go_wp2_with fail
                have hz3 : wr.heap.size ≤ w3.heap.size := Y.out.size
                refine wp_region_calm [0,1,2,3,4,5,6,7,8,9,10] [11,12,13,14] (by kernel_rfl) (by kernel_rfl) ?_
                iterate 11 ((refine calm_yes rfl rfl (fun w' hC => (by have cCx := hC.cell cCx; have cCy := hC.cell cCy; have cDx := hC.cell cDx; have cDy := hC.cell cDy; go_simp; rfl)) (fun K hK => ?_); go_simp; refine hK _ ?_; clear hK K))
                refine calm_nil (fun wa hCa => ?_)
                refine late_fn rfl rfl rfl Try.func50 (by kernel_rfl) rfl (by go_simp) (fun wb hxb K hK => (c_bar (p1, p2) (q1, q2) h wb V1.out V2.out Hne.out Hh.out).mono ?_)
                rintro e wc ⟨Ar, rfl, hor, hbc⟩
                refine ⟨_, rfl, hK _ _ ⟨fun _ => Cls.ext (Cls.ext hCa hxb) hbc, ?_⟩⟩
                clear hK K
                refine late_keep rfl rfl (Cls.ext (Cls.ext hCa hxb) hbc) (fun wd hxd hCd K hK => ?_)
                go_simp
                refine hK _ _ (Below.alloc hCd hCd.size _) (fun _ => ?_)
                clear hK K
                refine late_free (by kernel_rfl) rfl rfl (fun we hxe K hK => ?_)
                have Ea := Ext.trans (ext_cls hCa) hxb
                have Ed := Ext.trans (Ext.trans hbc hxd) (Ext.trans (ext_alloc _ _) hxe)
                have Ee := Ext.trans Ea Ed
                have hzb := Ea.size
                have hze := Ee.size
                refine wp_app (base := w.heap.size) ei_rg (.tmp 38) (.tmp 50) rfl rfl (own_ext O.out.out Ee) rfl ((src_new wd _ [_] (m := 1) rfl (by intro u hu; simp at hu; subst hu; rfl)).ext hxe) (by omega) (by omega) ?_
                intro ve wf hown hg hat
                refine hK _ _ ?_
                clear hK K
                refine late_free (by kernel_rfl) rfl rfl (fun wg hxg K hK => ?_)
                go_simp
                refine hK _ _ ?_
                clear hK K
                refine late_nil (fun w4 hx4 => ?_)
                have hor2 := own_ext hor (Ext.trans hxd (Ext.trans (ext_alloc _ _) hxe))
                have O3 := Lib.hid ((((O.out.ext Ee).push (b := wr.heap.size) TP_ne_TR (hor2.rebase (B' := w.heap.size) (by omega)) L.out (fun g hg => by have := (hor.lt g hg).1; omega) hown hg)).ext (Ext.trans hxg hx4))
                have X3 := Lib.hid (Ext.trans (own_below (Ext.trans X.out Ee) (own_ext O.out.out Ee) hg (by omega)) (Ext.trans hxg hx4))
                obtain ⟨A3, cap3, hve⟩ := own_form hown
                clear hor hor2 hown hg hat Ea Ed Ee hzb hze hbc hxb hxd hxe hxg hx4 hCa hCd
                clear cCx cCy cDx cDy
                subst hve
                go_wp2
                go_roundw
                case rel => exact ⟨k + 1, A3, cap3, out ++ [barL (p1, p2) (q1, q2) h], _, by omega, by go_num, by rw [List.length_append]; rfl, by rw [Hst2.out, Hout.out], or_lens O3.out, X3.out⟩
                case measure => simp [intOf]; omega
              · skip
                have Y := Lib.hid (Ext.refl wr)
                have cCx := Cx.out
                have cCy := Cy.out
                have cDx := Dx.out
                have cDy := Dy.out
                go_wp2_with fail
                refine wp_region_calm [0,1,2,3,4,5,6,7,8,9] [] (by kernel_rfl) (by kernel_rfl) ?_
                (refine calm_yes rfl rfl (fun w' hC => (by have cCx := hC.cell cCx; have cCy := hC.cell cCy; have cDx := hC.cell cDx; have cDy := hC.cell cDy; go_simp; rfl)) (fun K hK => ?_); go_simp; refine hK _ ?_; clear hK K)
                (refine calm_yes rfl rfl (fun w' hC => (by have cCx := hC.cell cCx; have cCy := hC.cell cCy; have cDx := hC.cell cDx; have cDy := hC.cell cDy; go_simp; rfl)) (fun K hK => ?_); go_simp; refine hK _ ?_; clear hK K)
                (refine calm_yes rfl rfl (fun w' hC => (by have cCx := hC.cell cCx; have cCy := hC.cell cCy; have cDx := hC.cell cDx; have cDy := hC.cell cDy; go_simp; rfl)) (fun K hK => ?_); go_simp; refine hK _ ?_; clear hK K)
                (refine calm_yes rfl rfl (fun w' hC => (by have cCx := hC.cell cCx; have cCy := hC.cell cCy; have cDx := hC.cell cDx; have cDy := hC.cell cDy; go_simp; rfl)) (fun K hK => ?_); go_simp; refine hK _ ?_; clear hK K)
                (refine calm_yes rfl rfl (fun w' hC => (by have cCx := hC.cell cCx; have cCy := hC.cell cCy; have cDx := hC.cell cDx; have cDy := hC.cell cDy; go_simp; rfl)) (fun K hK => ?_); go_simp; refine hK _ ?_; clear hK K)
                (refine calm_yes rfl rfl (fun w' hC => (by have cCx := hC.cell cCx; have cCy := hC.cell cCy; have cDx := hC.cell cDx; have cDy := hC.cell cDy; go_simp; rfl)) (fun K hK => ?_); go_simp; refine hK _ ?_; clear hK K)
                (refine calm_yes rfl rfl (fun w' hC => (by have cCx := hC.cell cCx; have cCy := hC.cell cCy; have cDx := hC.cell cDx; have cDy := hC.cell cDy; go_simp; rfl)) (fun K hK => ?_); go_simp; refine hK _ ?_; clear hK K)
                (refine calm_yes rfl rfl (fun w' hC => (by have cCx := hC.cell cCx; have cCy := hC.cell cCy; have cDx := hC.cell cDx; have cDy := hC.cell cDy; go_simp; rfl)) (fun K hK => ?_); go_simp; refine hK _ ?_; clear hK K)
                (refine calm_yes rfl rfl (fun w' hC => (by have cCx := hC.cell cCx; have cCy := hC.cell cCy; have cDx := hC.cell cDx; have cDy := hC.cell cDy; go_simp; rfl)) (fun K hK => ?_); go_simp; refine hK _ ?_; clear hK K)
                (refine calm_yes rfl rfl (fun w' hC => (by have cCx := hC.cell cCx; have cCy := hC.cell cCy; have cDx := hC.cell cDx; have cDy := hC.cell cDy; go_simp; rfl)) (fun K hK => ?_); go_simp; refine hK _ ?_; clear hK K)
                refine calm_done (fun w3 hb => ?_)
                clear cCx cCy cDx cDy
                replace X := Lib.hid (Ext.trans X.out hb)
                replace P := Lib.hid (P.out.ext ptR_stab hb)
                replace O := Lib.hid (O.out.ext hb)
                replace Cx := Lib.hid (Cls.cell hb Cx.out)
                replace Cy := Lib.hid (Cls.cell hb Cy.out)
                replace Dx := Lib.hid (Cls.cell hb Dx.out)
                replace Dy := Lib.hid (Cls.cell hb Dy.out)
                replace Y := Lib.hid (Ext.trans Y.out hb)
                clear hb
                have cCx := Cx.out
                have cCy := Cy.out
                have cDx := Dx.out
                have cDy := Dy.out
                go_wp2_with fail
                have hz3 : wr.heap.size ≤ w3.heap.size := Y.out.size
                refine wp_region_calm [0,1,2,3,4,5,6,7,8,9,10] [11,12,13,14] (by kernel_rfl) (by kernel_rfl) ?_
                iterate 11 ((refine calm_yes rfl rfl (fun w' hC => (by have cCx := hC.cell cCx; have cCy := hC.cell cCy; have cDx := hC.cell cDx; have cDy := hC.cell cDy; go_simp; rfl)) (fun K hK => ?_); go_simp; refine hK _ ?_; clear hK K))
                refine calm_nil (fun wa hCa => ?_)
                refine late_fn rfl rfl rfl Try.func50 (by kernel_rfl) rfl (by go_simp) (fun wb hxb K hK => (c_bar (p1, p2) (q1, q2) h wb V1.out V2.out Hne.out Hh.out).mono ?_)
                rintro e wc ⟨Ar, rfl, hor, hbc⟩
                refine ⟨_, rfl, hK _ _ ⟨fun _ => Cls.ext (Cls.ext hCa hxb) hbc, ?_⟩⟩
                clear hK K
                refine late_keep rfl rfl (Cls.ext (Cls.ext hCa hxb) hbc) (fun wd hxd hCd K hK => ?_)
                go_simp
                refine hK _ _ (Below.alloc hCd hCd.size _) (fun _ => ?_)
                clear hK K
                refine late_free (by kernel_rfl) rfl rfl (fun we hxe K hK => ?_)
                have Ea := Ext.trans (ext_cls hCa) hxb
                have Ed := Ext.trans (Ext.trans hbc hxd) (Ext.trans (ext_alloc _ _) hxe)
                have Ee := Ext.trans Ea Ed
                have hzb := Ea.size
                have hze := Ee.size
                refine wp_app (base := w.heap.size) ei_rg (.tmp 38) (.tmp 50) rfl rfl (own_ext O.out.out Ee) rfl ((src_new wd _ [_] (m := 1) rfl (by intro u hu; simp at hu; subst hu; rfl)).ext hxe) (by omega) (by omega) ?_
                intro ve wf hown hg hat
                refine hK _ _ ?_
                clear hK K
                refine late_free (by kernel_rfl) rfl rfl (fun wg hxg K hK => ?_)
                go_simp
                refine hK _ _ ?_
                clear hK K
                refine late_nil (fun w4 hx4 => ?_)
                have hor2 := own_ext hor (Ext.trans hxd (Ext.trans (ext_alloc _ _) hxe))
                have O3 := Lib.hid ((((O.out.ext Ee).push (b := wr.heap.size) TP_ne_TR (hor2.rebase (B' := w.heap.size) (by omega)) L.out (fun g hg => by have := (hor.lt g hg).1; omega) hown hg)).ext (Ext.trans hxg hx4))
                have X3 := Lib.hid (Ext.trans (own_below (Ext.trans X.out Ee) (own_ext O.out.out Ee) hg (by omega)) (Ext.trans hxg hx4))
                obtain ⟨A3, cap3, hve⟩ := own_form hown
                clear hor hor2 hown hg hat Ea Ed Ee hzb hze hbc hxb hxd hxe hxg hx4 hCa hCd
                clear cCx cCy cDx cDy
                subst hve
                go_wp2
                go_roundw
                case rel => exact ⟨k + 1, A3, cap3, out ++ [barL (p1, p2) (q1, q2) h], _, by omega, by go_num, by rw [List.length_append]; rfl, by rw [Hst2.out, Hout.out], or_lens O3.out, X3.out⟩
                case measure => simp [intOf]; omega
            trace_state
            done
          · have hf : out = strokesL h r := by
              rw [Hout.out]
              rcases hk with hk | hk
              · rw [List.take_of_length_le (by omega)]
              · rw [List.take_of_length_le (by omega)]
            have Hf := Lib.hid hf
            have hge : decide ((k : Int) + 1 < (r.length : Int)) = false := by simp; omega
            obtain ⟨d3, hd3⟩ : ∃ d, rgsB out = d := ⟨_, rfl⟩
            have H3 := Lib.hid hd3
            have P : Hid (Rgs wr A1 out) := Lib.hid O.out.in_
            have KV2 := Lib.hid (fun W hW => c_sValidRings A1 cap1 out W hW (by omega) (fun q hq => by rw [hf] at hq; have := strokesL_four h r q hq; omega))
            clear hf hd3 hk
            go_wp2_with fail
            refine (KV2.out _ P.out).mono ?_
            rw [H3.out]
            rintro e w5 ⟨rfl, hb⟩
            replace X := Lib.hid (Ext.trans X.out hb)
            replace P := Lib.hid (P.out.ext rgR_stab hb)
            replace O := Lib.hid (O.out.ext hb)
            clear hb
            cases d3
            · have Hff : Hid (R = ([], false)) := Lib.hid (by rw [HR2.out, ← Hf.out, H3.out]; simp)
              go_wp2
              go_ret2
              rw [Hff.out]; exact retStk_nil X.out
            · have Hff : Hid (R = (out, true)) := Lib.hid (by rw [HR2.out, ← Hf.out, H3.out]; simp)
              go_wp2
              go_ret2
              rw [Hff.out]; exact ⟨A1, cap1, ss, rfl, O.out, X.out⟩
    · have hl8I : decide ((8 : Int) < (r.length : Int)) = true := by simp; omega
      have Hf : Hid (R = ([], false)) := Lib.hid (by rw [HR.out]; simp [hl8])
      go_wp2
      go_ret2
      rw [Hf.out]; exact retStk_nil E.out
end Go.Proofs.Ytjiikjkaadfalaa
